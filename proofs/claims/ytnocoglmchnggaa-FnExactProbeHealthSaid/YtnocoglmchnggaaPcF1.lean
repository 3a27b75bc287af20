/- The functions' evaluated forms, each a proved summary. Conditions: none. -/
import Derived.Test.YtnocoglmchnggaaPcF0
namespace Go.Proofs.Ytnocoglmchnggaa.Pc
open Go Go.RowKit Go.Proofs Vm
set_option linter.unusedVariables false
set_option linter.unusedSimpArgs false
set_option maxRecDepth 100000
/-! spec.VerdictsFault -/
def F_spec_VerdictsFault_B0 {ρ : Type} (fu : Nat) (list0_0 : (Sl S_impl_Verdict)) (k0 : Int → Int → Bool → Int → Option ρ) (k1 : Option ρ) (i3_1 : Int) (go : Int → Option ρ) : Option ρ :=
  (bif (decide (i3_1 < ((list0_0.n : Nat) : Int))) then ((bif (decide (0 ≤ i3_1) && decide ((Int.toNat i3_1) < list0_0.n)) then some () else none : Option Unit).bind fun _ =>
    ((((F_spec_l1In fu (list0_0.f (Int.toNat i3_1)).Prober 0 9).bind fun y62 => (bif (!y62) then (some true) else ((F_spec_l3Name fu (list0_0.f (Int.toNat i3_1)).Name).bind fun y63 =>
    (bif (!y63) then (some true) else ((F_spec_l1In fu (list0_0.f (Int.toNat i3_1)).Epoch 0 1000000).bind fun y64 => (some (!y64))))))) : Option Bool).bind fun m65 => (bif m65 then
    (k0 (list0_0.f (Int.toNat i3_1)).Prober (list0_0.f (Int.toNat i3_1)).Name (list0_0.f (Int.toNat i3_1)).Up (list0_0.f (Int.toNat i3_1)).Epoch) else (go (IntKind.wrap .i64 (i3_1 + 1)))))) else
    k1)
def F_spec_VerdictsFault (fu : Nat) (list_0 : (Sl S_impl_Verdict)) : Option (Int) :=
  (bif (decide (((list_0.n : Nat) : Int) > 60)) then (some 2) else (L (fun w0 go0 => F_spec_VerdictsFault_B0 fu list_0 (fun z66 z67 z68 z69 => (some 3)) (some 0) w0 go0) fu (0 : Int)))
def pc_spec_VerdictsFault (fu : Nat) : Pc RT den := fun f xs => match f with | 46 => S_spec_l3Name fu xs | 47 => S_spec_l1In fu xs | _ => none
def msk_spec_VerdictsFault (b : Nat) : List Nat := match b with | 0 => [1, 2, 4, 5, 6, 7, 8, 9, 10, 11, 12, 13, 14, 15, 16, 17, 18, 19, 20, 21, 22, 23, 24, 25, 26, 27, 28, 29, 30, 31, 32, 33] | 100000 => [0, 1, 3, 4, 5, 6, 7, 8, 9, 10, 11, 12, 13, 14, 15, 16, 17, 18, 19, 20, 21, 22, 23, 24, 25, 26, 27, 28, 29, 30, 31, 32, 33] | 200007 => [33] | _ => []
def ps_spec_VerdictsFault_0 : List (Pat RT) := [.flat (.rs .impl_Verdict), .flat .dead, .flat .dead, .flat (.int .i64), .flat .dead, .flat .dead, .flat .dead, .flat .dead, .flat .dead, .flat .dead, .flat .dead, .flat .dead, .flat .dead, .flat .dead, .flat .dead, .flat .dead, .flat .dead, .flat .dead, .flat .dead, .flat .dead, .flat .dead, .flat .dead, .flat .dead, .flat .dead, .flat .dead, .flat .dead, .flat .dead, .flat .dead, .flat .dead, .flat .dead, .flat .dead, .flat .dead, .flat .dead, .flat .dead]
def os_spec_VerdictsFault_0 : List (OP RT) := []
def conv_spec_VerdictsFault_0 (r : Raw den ps_spec_VerdictsFault_0 os_spec_VerdictsFault_0) : ((Sl S_impl_Verdict)) × (Int) := (r.1.1, r.1.2.2.2.1)
def back_spec_VerdictsFault_0 (c : (Sl S_impl_Verdict)) (w : Int) : St RT den := ⟨[(.rs c.z .impl_Verdict c.n c.f), .dead, .dead, (.int .i64 w), .dead, .dead, .dead, .dead, .dead, .dead, .dead, .dead, .dead, .dead, .dead, .dead, .dead, .dead, .dead, .dead, .dead, .dead, .dead, .dead, .dead, .dead, .dead, .dead, .dead, .dead, .dead, .dead, .dead, .dead], []⟩
def Bk_spec_VerdictsFault_0 {ρ : Type} (fu : Nat) (c : (Sl S_impl_Verdict)) (k : Ex → St RT den → Option ρ) (w : Int) (go : (Int) → Option ρ) : Option ρ := F_spec_VerdictsFault_B0 fu c (fun a0 a1 a2 a3 => k .ret ⟨[.dead, .dead, (.int .i64 3), .dead, .dead, .dead, .dead, .dead, .dead, .dead, .dead, .dead, .dead, .dead, .dead, .dead, .dead, .dead, .dead, .dead, .dead, .dead, .dead, .dead, .dead, .dead, .dead, .dead, .dead, .dead, .dead, .dead, .dead, .dead], [(.box [(.int .i64 a0), (.int .i64 a1), (.bool a2), (.int .i64 a3)])]⟩) (k (.exit 0) ⟨[.dead, .dead, .dead, .dead, .dead, .dead, .dead, .dead, .dead, .dead, .dead, .dead, .dead, .dead, .dead, .dead, .dead, .dead, .dead, .dead, .dead, .dead, .dead, .dead, .dead, .dead, .dead, .dead, .dead, .dead, .dead, .dead, .dead, .dead], []⟩) w go
def lp_spec_VerdictsFault (fu : Nat) : Lp RT den (Int) := fun b s k => match b with | 0 => handle ps_spec_VerdictsFault_0 os_spec_VerdictsFault_0 conv_spec_VerdictsFault_0 (Bk_spec_VerdictsFault_0 fu) fu s k | _ => none
theorem ev_spec_VerdictsFault (fu : Nat) (list_0 : (Sl S_impl_Verdict)) : evFun E (pc_spec_VerdictsFault fu) msk_spec_VerdictsFault (lp_spec_VerdictsFault fu) out_i64 45 [(.rs list_0.z .impl_Verdict list_0.n list_0.f)] = F_spec_VerdictsFault fu list_0 := by kernel_rfl
noncomputable def body_spec_VerdictsFault : Code := Try.f45.body.getD .skip
noncomputable def lc_spec_VerdictsFault_0 : Code := ((loops 0 body_spec_VerdictsFault).getD 0 (0, .skip)).2
theorem round_spec_VerdictsFault_0 (fu : Nat) (it : St RT den → Option (Int)) (k : Ex → St RT den → Option (Int)) c w : evCode E (pc_spec_VerdictsFault fu) msk_spec_VerdictsFault (lp_spec_VerdictsFault fu) 0 lc_spec_VerdictsFault_0 (back_spec_VerdictsFault_0 c w) (after (msk_spec_VerdictsFault 0) (msk_spec_VerdictsFault 100000) 0 it k) = Bk_spec_VerdictsFault_0 fu c k w (fun w => it (back_spec_VerdictsFault_0 c w)) := by kernel_rfl
theorem lpok_spec_VerdictsFault_0 (fu : Nat) : ∀ s k r, lp_spec_VerdictsFault fu 0 s k = some r → ∃ fuel, iter (msk_spec_VerdictsFault 0) (msk_spec_VerdictsFault 100000) s.objs.length (evCode E (pc_spec_VerdictsFault fu) msk_spec_VerdictsFault (lp_spec_VerdictsFault fu) 0 lc_spec_VerdictsFault_0) fuel s k = some r :=
  handle_ok (ps := ps_spec_VerdictsFault_0) (os := os_spec_VerdictsFault_0) (conv := conv_spec_VerdictsFault_0) (B := Bk_spec_VerdictsFault_0 fu) (fu := fu) back_spec_VerdictsFault_0 (fun raw => by kernel_rfl) 0 (fun c w => by kernel_rfl) (round_spec_VerdictsFault_0 fu)
theorem lpok_spec_VerdictsFault (fu : Nat) : LpOk E (pc_spec_VerdictsFault fu) msk_spec_VerdictsFault (lp_spec_VerdictsFault fu) (loops 0 body_spec_VerdictsFault) := loop_all 1 (by kernel_rfl) fun i hi => match i, hi with
  | 0, _ => by
    have h : (loops 0 body_spec_VerdictsFault).getD 0 (0, .skip) = (0, lc_spec_VerdictsFault_0) := by kernel_rfl
    rw [h]; exact lpok_spec_VerdictsFault_0 fu
  | i + 1, hi => absurd hi (by omega)
def S_spec_VerdictsFault (fu : Nat) (xs : List (D RT den)) : Option (Out RT den) := match xs with | [.rs za0_0 .impl_Verdict na0_0 fa0_0] => some ⟨Int, F_spec_VerdictsFault fu (⟨za0_0, na0_0, fa0_0⟩ : (Sl S_impl_Verdict)), enc_i64, fun _ => true⟩ | _ => none
theorem hpc_spec_VerdictsFault (fu : Nat) : ∀ f xs o, pc_spec_VerdictsFault fu f xs = some o → ∀ y, o.x = some y → Good E Try.prog f xs (o.g y) := by
  intro f xs o h
  unfold pc_spec_VerdictsFault at h
  split at h
  · exact good_spec_l3Name fu xs o h
  · exact good_spec_l1In fu xs o h
  · cases h
theorem goodv_spec_VerdictsFault (fu : Nat) (list_0 : (Sl S_impl_Verdict)) (y : Int) (hy : F_spec_VerdictsFault fu list_0 = some y) : Good E Try.prog 45 [(.rs list_0.z .impl_Verdict list_0.n list_0.f)] (enc_i64 y) :=
  fun_good E_ok (pc_good (hpc_spec_VerdictsFault fu)) (fn := Try.f45) (c := body_spec_VerdictsFault) (out := out_i64) (y := y) (by kernel_rfl) (by kernel_rfl) (by kernel_rfl) (lpok_spec_VerdictsFault fu) (fun d hd => out_i64_enc d _ hd) ((ev_spec_VerdictsFault fu list_0).trans hy)
theorem good_spec_VerdictsFault (fu : Nat) : ∀ xs o, S_spec_VerdictsFault fu xs = some o → ∀ y, o.x = some y → Good E Try.prog 45 xs (o.g y) := by
  intro xs o h y hy
  unfold S_spec_VerdictsFault at h
  split at h
  · rename_i za0_0 na0_0 fa0_0
    cases h
    exact goodv_spec_VerdictsFault fu (⟨za0_0, na0_0, fa0_0⟩ : (Sl S_impl_Verdict)) y hy
  · cases h

/-! spec.l12Says -/
def F_spec_l12Says_B0 {ρ : Type} (fu : Nat) (list0_0 : (Sl S_impl_Verdict)) (prober1_1 : Int) (name2_2 : Int) (k0 : Int → Option ρ) (best7_3 : Int) (i8_4 : Int) (go : Int → Int → Option ρ) : Option ρ :=
  (bif (decide (i8_4 < ((list0_0.n : Nat) : Int))) then ((bif (decide (0 ≤ i8_4) && decide ((Int.toNat i8_4) < list0_0.n)) then some () else none : Option Unit).bind fun _ => (((bif ((list0_0.f (Int.toNat i8_4)).Prober == prober1_1) then
    (bif ((list0_0.f (Int.toNat i8_4)).Name == name2_2) then (bif (decide (best7_3 < 0)) then (some true) else ((bif (decide (0 ≤ best7_3) && decide ((Int.toNat best7_3) < list0_0.n)) then
    some () else none : Option Unit).bind fun _ => (some (decide ((list0_0.f (Int.toNat i8_4)).Epoch > (list0_0.f (Int.toNat best7_3)).Epoch))))) else (some false)) else (some false)) : Option Bool).bind fun m73 =>
    (bif m73 then (go i8_4 (IntKind.wrap .i64 (i8_4 + 1))) else (go best7_3 (IntKind.wrap .i64 (i8_4 + 1)))))) else (k0 best7_3))
def F_spec_l12Says (fu : Nat) (list_0 : (Sl S_impl_Verdict)) (prober_1 : Int) (name_2 : Int) : Option (Int) :=
  (L (fun w0 go0 => F_spec_l12Says_B0 fu list_0 prober_1 name_2 (fun z74 => (bif (decide (z74 < 0)) then (some 0) else ((bif (decide (0 ≤ z74) && decide ((Int.toNat z74) < list_0.n)) then
    some () else none : Option Unit).bind fun _ => (bif (list_0.f (Int.toNat z74)).Up then (some 1) else (some 2))))) w0.1 w0.2 (fun q0 q1 => go0 (q0, q1))) fu (((-1), 0) : Int × Int))
def pc_spec_l12Says (fu : Nat) : Pc RT den := fun f xs => none
def msk_spec_l12Says (b : Nat) : List Nat := match b with | 0 => [3, 4, 5, 6, 9, 10, 11, 12, 13, 14, 15, 16, 17, 18, 19, 20, 21, 22, 23, 24, 25, 26, 27, 28, 29, 30, 31, 32, 33, 34, 35, 36, 37, 38, 39, 40, 41, 42, 43, 44, 45, 46, 47, 48, 49, 50, 51] | 100000 => [1, 2, 3, 4, 5, 8, 9, 10, 11, 12, 13, 14, 15, 16, 17, 18, 19, 20, 21, 22, 23, 24, 25, 26, 27, 28, 29, 30, 31, 32, 33, 34, 35, 36, 37, 38, 39, 40, 41, 42, 43, 44, 45, 46, 47, 48, 49, 50, 51] | 200006 => [43] | _ => []
def ps_spec_l12Says_0 : List (Pat RT) := [.flat (.rs .impl_Verdict), .flat (.int .i64), .flat (.int .i64), .flat .dead, .flat .dead, .flat .dead, .flat .dead, .flat (.int .i64), .flat (.int .i64), .flat .dead, .flat .dead, .flat .dead, .flat .dead, .flat .dead, .flat .dead, .flat .dead, .flat .dead, .flat .dead, .flat .dead, .flat .dead, .flat .dead, .flat .dead, .flat .dead, .flat .dead, .flat .dead, .flat .dead, .flat .dead, .flat .dead, .flat .dead, .flat .dead, .flat .dead, .flat .dead, .flat .dead, .flat .dead, .flat .dead, .flat .dead, .flat .dead, .flat .dead, .flat .dead, .flat .dead, .flat .dead, .flat .dead, .flat .dead, .flat .dead, .flat .dead, .flat .dead, .flat .dead, .flat .dead, .flat .dead, .flat .dead, .flat .dead, .flat .dead]
def os_spec_l12Says_0 : List (OP RT) := []
def conv_spec_l12Says_0 (r : Raw den ps_spec_l12Says_0 os_spec_l12Says_0) : ((Sl S_impl_Verdict) × Int × Int) × (Int × Int) := ((r.1.1, r.1.2.1, r.1.2.2.1), (r.1.2.2.2.2.2.2.2.1, r.1.2.2.2.2.2.2.2.2.1))
def back_spec_l12Says_0 (c : (Sl S_impl_Verdict) × Int × Int) (w : Int × Int) : St RT den := ⟨[(.rs c.1.z .impl_Verdict c.1.n c.1.f), (.int .i64 c.2.1), (.int .i64 c.2.2), .dead, .dead, .dead, .dead, (.int .i64 w.1), (.int .i64 w.2), .dead, .dead, .dead, .dead, .dead, .dead, .dead, .dead, .dead, .dead, .dead, .dead, .dead, .dead, .dead, .dead, .dead, .dead, .dead, .dead, .dead, .dead, .dead, .dead, .dead, .dead, .dead, .dead, .dead, .dead, .dead, .dead, .dead, .dead, .dead, .dead, .dead, .dead, .dead, .dead, .dead, .dead, .dead], []⟩
def Bk_spec_l12Says_0 {ρ : Type} (fu : Nat) (c : (Sl S_impl_Verdict) × Int × Int) (k : Ex → St RT den → Option ρ) (w : Int × Int) (go : (Int × Int) → Option ρ) : Option ρ := F_spec_l12Says_B0 fu c.1 c.2.1 c.2.2 (fun a0 => k (.exit 0) ⟨[(.rs c.1.z .impl_Verdict c.1.n c.1.f), .dead, .dead, .dead, .dead, .dead, .dead, (.int .i64 a0), .dead, .dead, .dead, .dead, .dead, .dead, .dead, .dead, .dead, .dead, .dead, .dead, .dead, .dead, .dead, .dead, .dead, .dead, .dead, .dead, .dead, .dead, .dead, .dead, .dead, .dead, .dead, .dead, .dead, .dead, .dead, .dead, .dead, .dead, .dead, .dead, .dead, .dead, .dead, .dead, .dead, .dead, .dead, .dead], []⟩) w.1 w.2 (fun q0 q1 => go (q0, q1))
def lp_spec_l12Says (fu : Nat) : Lp RT den (Int) := fun b s k => match b with | 0 => handle ps_spec_l12Says_0 os_spec_l12Says_0 conv_spec_l12Says_0 (Bk_spec_l12Says_0 fu) fu s k | _ => none
theorem ev_spec_l12Says (fu : Nat) (list_0 : (Sl S_impl_Verdict)) (prober_1 : Int) (name_2 : Int) : evFun E (pc_spec_l12Says fu) msk_spec_l12Says (lp_spec_l12Says fu) out_i64 69 [(.rs list_0.z .impl_Verdict list_0.n list_0.f), (.int .i64 prober_1), (.int .i64 name_2)] = F_spec_l12Says fu list_0 prober_1 name_2 := by kernel_rfl
noncomputable def body_spec_l12Says : Code := Try.f69.body.getD .skip
noncomputable def lc_spec_l12Says_0 : Code := ((loops 0 body_spec_l12Says).getD 0 (0, .skip)).2
theorem round_spec_l12Says_0 (fu : Nat) (it : St RT den → Option (Int)) (k : Ex → St RT den → Option (Int)) c w : evCode E (pc_spec_l12Says fu) msk_spec_l12Says (lp_spec_l12Says fu) 0 lc_spec_l12Says_0 (back_spec_l12Says_0 c w) (after (msk_spec_l12Says 0) (msk_spec_l12Says 100000) 0 it k) = Bk_spec_l12Says_0 fu c k w (fun w => it (back_spec_l12Says_0 c w)) := by kernel_rfl
theorem lpok_spec_l12Says_0 (fu : Nat) : ∀ s k r, lp_spec_l12Says fu 0 s k = some r → ∃ fuel, iter (msk_spec_l12Says 0) (msk_spec_l12Says 100000) s.objs.length (evCode E (pc_spec_l12Says fu) msk_spec_l12Says (lp_spec_l12Says fu) 0 lc_spec_l12Says_0) fuel s k = some r :=
  handle_ok (ps := ps_spec_l12Says_0) (os := os_spec_l12Says_0) (conv := conv_spec_l12Says_0) (B := Bk_spec_l12Says_0 fu) (fu := fu) back_spec_l12Says_0 (fun raw => by kernel_rfl) 0 (fun c w => by kernel_rfl) (round_spec_l12Says_0 fu)
theorem lpok_spec_l12Says (fu : Nat) : LpOk E (pc_spec_l12Says fu) msk_spec_l12Says (lp_spec_l12Says fu) (loops 0 body_spec_l12Says) := loop_all 1 (by kernel_rfl) fun i hi => match i, hi with
  | 0, _ => by
    have h : (loops 0 body_spec_l12Says).getD 0 (0, .skip) = (0, lc_spec_l12Says_0) := by kernel_rfl
    rw [h]; exact lpok_spec_l12Says_0 fu
  | i + 1, hi => absurd hi (by omega)
def S_spec_l12Says (fu : Nat) (xs : List (D RT den)) : Option (Out RT den) := match xs with | [.rs za0_0 .impl_Verdict na0_0 fa0_0, .int .i64 a1_0, .int .i64 a2_0] => some ⟨Int, F_spec_l12Says fu (⟨za0_0, na0_0, fa0_0⟩ : (Sl S_impl_Verdict)) a1_0 a2_0, enc_i64, fun _ => true⟩ | _ => none
theorem hpc_spec_l12Says (fu : Nat) : ∀ f xs o, pc_spec_l12Says fu f xs = some o → ∀ y, o.x = some y → Good E Try.prog f xs (o.g y) := by
  intro f xs o h
  cases h
theorem goodv_spec_l12Says (fu : Nat) (list_0 : (Sl S_impl_Verdict)) (prober_1 : Int) (name_2 : Int) (y : Int) (hy : F_spec_l12Says fu list_0 prober_1 name_2 = some y) : Good E Try.prog 69 [(.rs list_0.z .impl_Verdict list_0.n list_0.f), (.int .i64 prober_1), (.int .i64 name_2)] (enc_i64 y) :=
  fun_good E_ok (pc_good (hpc_spec_l12Says fu)) (fn := Try.f69) (c := body_spec_l12Says) (out := out_i64) (y := y) (by kernel_rfl) (by kernel_rfl) (by kernel_rfl) (lpok_spec_l12Says fu) (fun d hd => out_i64_enc d _ hd) ((ev_spec_l12Says fu list_0 prober_1 name_2).trans hy)
theorem good_spec_l12Says (fu : Nat) : ∀ xs o, S_spec_l12Says fu xs = some o → ∀ y, o.x = some y → Good E Try.prog 69 xs (o.g y) := by
  intro xs o h y hy
  unfold S_spec_l12Says at h
  split at h
  · rename_i za0_0 na0_0 fa0_0 a1_0 a2_0
    cases h
    exact goodv_spec_l12Says fu (⟨za0_0, na0_0, fa0_0⟩ : (Sl S_impl_Verdict)) a1_0 a2_0 y hy
  · cases h

/-! spec.l12Verdict -/
def F_spec_l12Verdict_B0 {ρ : Type} (fu : Nat) (list0_0 : (Sl S_impl_Verdict)) (name1_1 : Int) (probers2_2 : Int) (k0 : Int → Int → Option ρ) (up7_3 : Int) (down8_4 : Int) (p9_5 : Int) (go : Int → Int → Int → Option ρ) : Option ρ :=
  (bif (decide (p9_5 < probers2_2)) then ((F_spec_l12Says fu list0_0 p9_5 name1_1).bind fun y70 => (bif (y70 == 1) then (go (IntKind.wrap .i64 (up7_3 + 1)) down8_4 (IntKind.wrap .i64 (p9_5 + 1))) else
    (bif (y70 == 2) then (go up7_3 (IntKind.wrap .i64 (down8_4 + 1)) (IntKind.wrap .i64 (p9_5 + 1))) else (go up7_3 down8_4 (IntKind.wrap .i64 (p9_5 + 1)))))) else (k0 up7_3 down8_4))
def F_spec_l12Verdict (fu : Nat) (list_0 : (Sl S_impl_Verdict)) (name_1 : Int) (probers_2 : Int) : Option (Int) :=
  (L (fun w0 go0 => F_spec_l12Verdict_B0 fu list_0 name_1 probers_2 (fun z71 z72 => (bif (decide ((IntKind.wrap .i64 (2 * z71)) > probers_2)) then (some 1) else (bif (decide ((IntKind.wrap .i64 (2 * z72)) > probers_2)) then
    (some 2) else (some 0)))) w0.1 w0.2.1 w0.2.2 (fun q0 q1 q2 => go0 (q0, q1, q2))) fu ((0, 0, 0) : Int × Int × Int))
def pc_spec_l12Verdict (fu : Nat) : Pc RT den := fun f xs => match f with | 69 => S_spec_l12Says fu xs | _ => none
def msk_spec_l12Verdict (b : Nat) : List Nat := match b with | 0 => [3, 4, 5, 6, 10, 11, 12, 13, 14, 15, 16, 17, 18, 19, 20, 21, 22, 23, 24, 25, 26, 27, 28, 29, 30, 31, 32, 33, 34] | 100000 => [0, 1, 3, 4, 5, 9, 10, 11, 12, 13, 14, 15, 16, 17, 18, 19, 20, 21, 22, 23, 24, 25, 26, 27, 28, 29, 30, 31, 32, 33, 34] | _ => []
def ps_spec_l12Verdict_0 : List (Pat RT) := [.flat (.rs .impl_Verdict), .flat (.int .i64), .flat (.int .i64), .flat .dead, .flat .dead, .flat .dead, .flat .dead, .flat (.int .i64), .flat (.int .i64), .flat (.int .i64), .flat .dead, .flat .dead, .flat .dead, .flat .dead, .flat .dead, .flat .dead, .flat .dead, .flat .dead, .flat .dead, .flat .dead, .flat .dead, .flat .dead, .flat .dead, .flat .dead, .flat .dead, .flat .dead, .flat .dead, .flat .dead, .flat .dead, .flat .dead, .flat .dead, .flat .dead, .flat .dead, .flat .dead, .flat .dead]
def os_spec_l12Verdict_0 : List (OP RT) := []
def conv_spec_l12Verdict_0 (r : Raw den ps_spec_l12Verdict_0 os_spec_l12Verdict_0) : ((Sl S_impl_Verdict) × Int × Int) × (Int × Int × Int) := ((r.1.1, r.1.2.1, r.1.2.2.1), (r.1.2.2.2.2.2.2.2.1, r.1.2.2.2.2.2.2.2.2.1, r.1.2.2.2.2.2.2.2.2.2.1))
def back_spec_l12Verdict_0 (c : (Sl S_impl_Verdict) × Int × Int) (w : Int × Int × Int) : St RT den := ⟨[(.rs c.1.z .impl_Verdict c.1.n c.1.f), (.int .i64 c.2.1), (.int .i64 c.2.2), .dead, .dead, .dead, .dead, (.int .i64 w.1), (.int .i64 w.2.1), (.int .i64 w.2.2), .dead, .dead, .dead, .dead, .dead, .dead, .dead, .dead, .dead, .dead, .dead, .dead, .dead, .dead, .dead, .dead, .dead, .dead, .dead, .dead, .dead, .dead, .dead, .dead, .dead], []⟩
def Bk_spec_l12Verdict_0 {ρ : Type} (fu : Nat) (c : (Sl S_impl_Verdict) × Int × Int) (k : Ex → St RT den → Option ρ) (w : Int × Int × Int) (go : (Int × Int × Int) → Option ρ) : Option ρ := F_spec_l12Verdict_B0 fu c.1 c.2.1 c.2.2 (fun a0 a1 => k (.exit 0) ⟨[.dead, .dead, (.int .i64 c.2.2), .dead, .dead, .dead, .dead, (.int .i64 a0), (.int .i64 a1), .dead, .dead, .dead, .dead, .dead, .dead, .dead, .dead, .dead, .dead, .dead, .dead, .dead, .dead, .dead, .dead, .dead, .dead, .dead, .dead, .dead, .dead, .dead, .dead, .dead, .dead], []⟩) w.1 w.2.1 w.2.2 (fun q0 q1 q2 => go (q0, q1, q2))
def lp_spec_l12Verdict (fu : Nat) : Lp RT den (Int) := fun b s k => match b with | 0 => handle ps_spec_l12Verdict_0 os_spec_l12Verdict_0 conv_spec_l12Verdict_0 (Bk_spec_l12Verdict_0 fu) fu s k | _ => none
theorem ev_spec_l12Verdict (fu : Nat) (list_0 : (Sl S_impl_Verdict)) (name_1 : Int) (probers_2 : Int) : evFun E (pc_spec_l12Verdict fu) msk_spec_l12Verdict (lp_spec_l12Verdict fu) out_i64 48 [(.rs list_0.z .impl_Verdict list_0.n list_0.f), (.int .i64 name_1), (.int .i64 probers_2)] = F_spec_l12Verdict fu list_0 name_1 probers_2 := by kernel_rfl
noncomputable def body_spec_l12Verdict : Code := Try.f48.body.getD .skip
noncomputable def lc_spec_l12Verdict_0 : Code := ((loops 0 body_spec_l12Verdict).getD 0 (0, .skip)).2
theorem round_spec_l12Verdict_0 (fu : Nat) (it : St RT den → Option (Int)) (k : Ex → St RT den → Option (Int)) c w : evCode E (pc_spec_l12Verdict fu) msk_spec_l12Verdict (lp_spec_l12Verdict fu) 0 lc_spec_l12Verdict_0 (back_spec_l12Verdict_0 c w) (after (msk_spec_l12Verdict 0) (msk_spec_l12Verdict 100000) 0 it k) = Bk_spec_l12Verdict_0 fu c k w (fun w => it (back_spec_l12Verdict_0 c w)) := by kernel_rfl
theorem lpok_spec_l12Verdict_0 (fu : Nat) : ∀ s k r, lp_spec_l12Verdict fu 0 s k = some r → ∃ fuel, iter (msk_spec_l12Verdict 0) (msk_spec_l12Verdict 100000) s.objs.length (evCode E (pc_spec_l12Verdict fu) msk_spec_l12Verdict (lp_spec_l12Verdict fu) 0 lc_spec_l12Verdict_0) fuel s k = some r :=
  handle_ok (ps := ps_spec_l12Verdict_0) (os := os_spec_l12Verdict_0) (conv := conv_spec_l12Verdict_0) (B := Bk_spec_l12Verdict_0 fu) (fu := fu) back_spec_l12Verdict_0 (fun raw => by kernel_rfl) 0 (fun c w => by kernel_rfl) (round_spec_l12Verdict_0 fu)
theorem lpok_spec_l12Verdict (fu : Nat) : LpOk E (pc_spec_l12Verdict fu) msk_spec_l12Verdict (lp_spec_l12Verdict fu) (loops 0 body_spec_l12Verdict) := loop_all 1 (by kernel_rfl) fun i hi => match i, hi with
  | 0, _ => by
    have h : (loops 0 body_spec_l12Verdict).getD 0 (0, .skip) = (0, lc_spec_l12Verdict_0) := by kernel_rfl
    rw [h]; exact lpok_spec_l12Verdict_0 fu
  | i + 1, hi => absurd hi (by omega)
def S_spec_l12Verdict (fu : Nat) (xs : List (D RT den)) : Option (Out RT den) := match xs with | [.rs za0_0 .impl_Verdict na0_0 fa0_0, .int .i64 a1_0, .int .i64 a2_0] => some ⟨Int, F_spec_l12Verdict fu (⟨za0_0, na0_0, fa0_0⟩ : (Sl S_impl_Verdict)) a1_0 a2_0, enc_i64, fun _ => true⟩ | _ => none
theorem hpc_spec_l12Verdict (fu : Nat) : ∀ f xs o, pc_spec_l12Verdict fu f xs = some o → ∀ y, o.x = some y → Good E Try.prog f xs (o.g y) := by
  intro f xs o h
  unfold pc_spec_l12Verdict at h
  split at h
  · exact good_spec_l12Says fu xs o h
  · cases h
theorem goodv_spec_l12Verdict (fu : Nat) (list_0 : (Sl S_impl_Verdict)) (name_1 : Int) (probers_2 : Int) (y : Int) (hy : F_spec_l12Verdict fu list_0 name_1 probers_2 = some y) : Good E Try.prog 48 [(.rs list_0.z .impl_Verdict list_0.n list_0.f), (.int .i64 name_1), (.int .i64 probers_2)] (enc_i64 y) :=
  fun_good E_ok (pc_good (hpc_spec_l12Verdict fu)) (fn := Try.f48) (c := body_spec_l12Verdict) (out := out_i64) (y := y) (by kernel_rfl) (by kernel_rfl) (by kernel_rfl) (lpok_spec_l12Verdict fu) (fun d hd => out_i64_enc d _ hd) ((ev_spec_l12Verdict fu list_0 name_1 probers_2).trans hy)
theorem good_spec_l12Verdict (fu : Nat) : ∀ xs o, S_spec_l12Verdict fu xs = some o → ∀ y, o.x = some y → Good E Try.prog 48 xs (o.g y) := by
  intro xs o h y hy
  unfold S_spec_l12Verdict at h
  split at h
  · rename_i za0_0 na0_0 fa0_0 a1_0 a2_0
    cases h
    exact goodv_spec_l12Verdict fu (⟨za0_0, na0_0, fa0_0⟩ : (Sl S_impl_Verdict)) a1_0 a2_0 y hy
  · cases h

/-! spec.VerdictFor -/
def F_spec_VerdictFor (fu : Nat) (list_0 : (Sl S_impl_Verdict)) (name_1 : Int) (probers_2 : Int) : Option (S_impl_IntResult) :=
  ((F_spec_VerdictsFault fu list_0).bind fun y57 => (bif (y57 != 0) then (some (⟨y57, 0⟩ : S_impl_IntResult)) else ((((F_spec_l3Name fu name_1).bind fun y58 => (bif (!y58) then
    (some true) else ((F_spec_l1In fu probers_2 1 10).bind fun y59 => (some (!y59))))) : Option Bool).bind fun m60 => (bif m60 then (some (⟨3, 0⟩ : S_impl_IntResult)) else
    ((F_spec_l12Verdict fu list_0 name_1 probers_2).bind fun y61 => (some (⟨0, y61⟩ : S_impl_IntResult)))))))
def pc_spec_VerdictFor (fu : Nat) : Pc RT den := fun f xs => match f with | 45 => S_spec_VerdictsFault fu xs | 46 => S_spec_l3Name fu xs | 47 => S_spec_l1In fu xs | 48 => S_spec_l12Verdict fu xs | _ => none
def msk_spec_VerdictFor (b : Nat) : List Nat := match b with | 200004 => [21] | _ => []
def lp_spec_VerdictFor (fu : Nat) : Lp RT den (S_impl_IntResult) := fun b s k => none
theorem ev_spec_VerdictFor (fu : Nat) (list_0 : (Sl S_impl_Verdict)) (name_1 : Int) (probers_2 : Int) : evFun E (pc_spec_VerdictFor fu) msk_spec_VerdictFor (lp_spec_VerdictFor fu) out_impl_IntResult 21 [(.rs list_0.z .impl_Verdict list_0.n list_0.f), (.int .i64 name_1), (.int .i64 probers_2)] = F_spec_VerdictFor fu list_0 name_1 probers_2 := by kernel_rfl
noncomputable def body_spec_VerdictFor : Code := Try.f21.body.getD .skip
theorem lpok_spec_VerdictFor (fu : Nat) : LpOk E (pc_spec_VerdictFor fu) msk_spec_VerdictFor (lp_spec_VerdictFor fu) (loops 0 body_spec_VerdictFor) := by
  have h : loops 0 body_spec_VerdictFor = [] := by kernel_rfl
  rw [h]; intro p hp; cases hp
def S_spec_VerdictFor (fu : Nat) (xs : List (D RT den)) : Option (Out RT den) := match xs with | [.rs za0_0 .impl_Verdict na0_0 fa0_0, .int .i64 a1_0, .int .i64 a2_0] => some ⟨S_impl_IntResult, F_spec_VerdictFor fu (⟨za0_0, na0_0, fa0_0⟩ : (Sl S_impl_Verdict)) a1_0 a2_0, enc_impl_IntResult, fun _ => true⟩ | _ => none
theorem hpc_spec_VerdictFor (fu : Nat) : ∀ f xs o, pc_spec_VerdictFor fu f xs = some o → ∀ y, o.x = some y → Good E Try.prog f xs (o.g y) := by
  intro f xs o h
  unfold pc_spec_VerdictFor at h
  split at h
  · exact good_spec_VerdictsFault fu xs o h
  · exact good_spec_l3Name fu xs o h
  · exact good_spec_l1In fu xs o h
  · exact good_spec_l12Verdict fu xs o h
  · cases h
theorem goodv_spec_VerdictFor (fu : Nat) (list_0 : (Sl S_impl_Verdict)) (name_1 : Int) (probers_2 : Int) (y : S_impl_IntResult) (hy : F_spec_VerdictFor fu list_0 name_1 probers_2 = some y) : Good E Try.prog 21 [(.rs list_0.z .impl_Verdict list_0.n list_0.f), (.int .i64 name_1), (.int .i64 probers_2)] (enc_impl_IntResult y) :=
  fun_good E_ok (pc_good (hpc_spec_VerdictFor fu)) (fn := Try.f21) (c := body_spec_VerdictFor) (out := out_impl_IntResult) (y := y) (by kernel_rfl) (by kernel_rfl) (by kernel_rfl) (lpok_spec_VerdictFor fu) (fun d hd => out_impl_IntResult_enc d _ hd) ((ev_spec_VerdictFor fu list_0 name_1 probers_2).trans hy)
theorem good_spec_VerdictFor (fu : Nat) : ∀ xs o, S_spec_VerdictFor fu xs = some o → ∀ y, o.x = some y → Good E Try.prog 21 xs (o.g y) := by
  intro xs o h y hy
  unfold S_spec_VerdictFor at h
  split at h
  · rename_i za0_0 na0_0 fa0_0 a1_0 a2_0
    cases h
    exact goodv_spec_VerdictFor fu (⟨za0_0, na0_0, fa0_0⟩ : (Sl S_impl_Verdict)) a1_0 a2_0 y hy
  · cases h

/-! impl.VerdictsFault -/
def F_impl_VerdictsFault_B0 {ρ : Type} (fu : Nat) (t8_0 : (Sl S_impl_Verdict)) (t9_1 : Int) (k0 : Int → Int → Bool → Int → Option ρ) (k1 : Option ρ) (t10_2 : Int) (go : Int → Option ρ) : Option ρ :=
  (bif (decide (t10_2 < t9_1)) then ((bif (decide (0 ≤ t10_2) && decide ((Int.toNat t10_2) < t8_0.n)) then some () else none : Option Unit).bind fun _ => ((((F_impl_in fu (t8_0.f (Int.toNat t10_2)).Prober 0 9).bind fun y80 =>
    (bif (!y80) then (some true) else ((F_impl_isName fu (t8_0.f (Int.toNat t10_2)).Name).bind fun y81 => (bif (!y81) then (some true) else ((F_impl_in fu (t8_0.f (Int.toNat t10_2)).Epoch 0 1000000).bind fun y82 =>
    (some (!y82))))))) : Option Bool).bind fun m83 => (bif m83 then (k0 (t8_0.f (Int.toNat t10_2)).Prober (t8_0.f (Int.toNat t10_2)).Name (t8_0.f (Int.toNat t10_2)).Up (t8_0.f (Int.toNat t10_2)).Epoch) else
    (go (IntKind.wrap .i64 (t10_2 + 1)))))) else k1)
def F_impl_VerdictsFault (fu : Nat) (list_0 : (Sl S_impl_Verdict)) : Option (Int) :=
  (bif (decide (((list_0.n : Nat) : Int) > 60)) then (some 2) else (L (fun w0 go0 => F_impl_VerdictsFault_B0 fu list_0 ((list_0.n : Nat) : Int) (fun z84 z85 z86 z87 => (some 3)) (some 0) w0 go0) fu (0 : Int)))
def pc_impl_VerdictsFault (fu : Nat) : Pc RT den := fun f xs => match f with | 43 => S_impl_isName fu xs | 44 => S_impl_in fu xs | _ => none
def msk_impl_VerdictsFault (b : Nat) : List Nat := match b with | 0 => [0, 1, 2, 3, 4, 5, 6, 7, 11, 12, 13, 14, 15, 16, 17, 18, 19, 20, 21, 22, 23, 24, 25, 26, 27, 28, 29, 30] | 100000 => [0, 1, 3, 4, 5, 6, 7, 8, 9, 10, 11, 12, 13, 14, 15, 16, 17, 18, 19, 20, 21, 22, 23, 24, 25, 26, 27, 28, 29, 30] | 200006 => [29] | _ => []
def ps_impl_VerdictsFault_0 : List (Pat RT) := [.flat .dead, .flat .dead, .flat .dead, .flat .dead, .flat .dead, .flat .dead, .flat .dead, .flat .dead, .flat (.rs .impl_Verdict), .flat (.int .i64), .flat (.int .i64), .flat .dead, .flat .dead, .flat .dead, .flat .dead, .flat .dead, .flat .dead, .flat .dead, .flat .dead, .flat .dead, .flat .dead, .flat .dead, .flat .dead, .flat .dead, .flat .dead, .flat .dead, .flat .dead, .flat .dead, .flat .dead, .flat .dead, .flat .dead]
def os_impl_VerdictsFault_0 : List (OP RT) := []
def conv_impl_VerdictsFault_0 (r : Raw den ps_impl_VerdictsFault_0 os_impl_VerdictsFault_0) : ((Sl S_impl_Verdict) × Int) × (Int) := ((r.1.2.2.2.2.2.2.2.2.1, r.1.2.2.2.2.2.2.2.2.2.1), r.1.2.2.2.2.2.2.2.2.2.2.1)
def back_impl_VerdictsFault_0 (c : (Sl S_impl_Verdict) × Int) (w : Int) : St RT den := ⟨[.dead, .dead, .dead, .dead, .dead, .dead, .dead, .dead, (.rs c.1.z .impl_Verdict c.1.n c.1.f), (.int .i64 c.2), (.int .i64 w), .dead, .dead, .dead, .dead, .dead, .dead, .dead, .dead, .dead, .dead, .dead, .dead, .dead, .dead, .dead, .dead, .dead, .dead, .dead, .dead], []⟩
def Bk_impl_VerdictsFault_0 {ρ : Type} (fu : Nat) (c : (Sl S_impl_Verdict) × Int) (k : Ex → St RT den → Option ρ) (w : Int) (go : (Int) → Option ρ) : Option ρ := F_impl_VerdictsFault_B0 fu c.1 c.2 (fun a0 a1 a2 a3 => k .ret ⟨[.dead, .dead, (.int .i64 3), .dead, .dead, .dead, .dead, .dead, .dead, .dead, .dead, .dead, .dead, .dead, .dead, .dead, .dead, .dead, .dead, .dead, .dead, .dead, .dead, .dead, .dead, .dead, .dead, .dead, .dead, .dead, .dead], [(.box [(.int .i64 a0), (.int .i64 a1), (.bool a2), (.int .i64 a3)])]⟩) (k (.exit 0) ⟨[.dead, .dead, .dead, .dead, .dead, .dead, .dead, .dead, .dead, .dead, .dead, .dead, .dead, .dead, .dead, .dead, .dead, .dead, .dead, .dead, .dead, .dead, .dead, .dead, .dead, .dead, .dead, .dead, .dead, .dead, .dead], []⟩) w go
def lp_impl_VerdictsFault (fu : Nat) : Lp RT den (Int) := fun b s k => match b with | 0 => handle ps_impl_VerdictsFault_0 os_impl_VerdictsFault_0 conv_impl_VerdictsFault_0 (Bk_impl_VerdictsFault_0 fu) fu s k | _ => none
theorem ev_impl_VerdictsFault (fu : Nat) (list_0 : (Sl S_impl_Verdict)) : evFun E (pc_impl_VerdictsFault fu) msk_impl_VerdictsFault (lp_impl_VerdictsFault fu) out_i64 50 [(.rs list_0.z .impl_Verdict list_0.n list_0.f)] = F_impl_VerdictsFault fu list_0 := by kernel_rfl
noncomputable def body_impl_VerdictsFault : Code := Try.f50.body.getD .skip
noncomputable def lc_impl_VerdictsFault_0 : Code := ((loops 0 body_impl_VerdictsFault).getD 0 (0, .skip)).2
theorem round_impl_VerdictsFault_0 (fu : Nat) (it : St RT den → Option (Int)) (k : Ex → St RT den → Option (Int)) c w : evCode E (pc_impl_VerdictsFault fu) msk_impl_VerdictsFault (lp_impl_VerdictsFault fu) 0 lc_impl_VerdictsFault_0 (back_impl_VerdictsFault_0 c w) (after (msk_impl_VerdictsFault 0) (msk_impl_VerdictsFault 100000) 0 it k) = Bk_impl_VerdictsFault_0 fu c k w (fun w => it (back_impl_VerdictsFault_0 c w)) := by kernel_rfl
theorem lpok_impl_VerdictsFault_0 (fu : Nat) : ∀ s k r, lp_impl_VerdictsFault fu 0 s k = some r → ∃ fuel, iter (msk_impl_VerdictsFault 0) (msk_impl_VerdictsFault 100000) s.objs.length (evCode E (pc_impl_VerdictsFault fu) msk_impl_VerdictsFault (lp_impl_VerdictsFault fu) 0 lc_impl_VerdictsFault_0) fuel s k = some r :=
  handle_ok (ps := ps_impl_VerdictsFault_0) (os := os_impl_VerdictsFault_0) (conv := conv_impl_VerdictsFault_0) (B := Bk_impl_VerdictsFault_0 fu) (fu := fu) back_impl_VerdictsFault_0 (fun raw => by kernel_rfl) 0 (fun c w => by kernel_rfl) (round_impl_VerdictsFault_0 fu)
theorem lpok_impl_VerdictsFault (fu : Nat) : LpOk E (pc_impl_VerdictsFault fu) msk_impl_VerdictsFault (lp_impl_VerdictsFault fu) (loops 0 body_impl_VerdictsFault) := loop_all 1 (by kernel_rfl) fun i hi => match i, hi with
  | 0, _ => by
    have h : (loops 0 body_impl_VerdictsFault).getD 0 (0, .skip) = (0, lc_impl_VerdictsFault_0) := by kernel_rfl
    rw [h]; exact lpok_impl_VerdictsFault_0 fu
  | i + 1, hi => absurd hi (by omega)
def S_impl_VerdictsFault (fu : Nat) (xs : List (D RT den)) : Option (Out RT den) := match xs with | [.rs za0_0 .impl_Verdict na0_0 fa0_0] => some ⟨Int, F_impl_VerdictsFault fu (⟨za0_0, na0_0, fa0_0⟩ : (Sl S_impl_Verdict)), enc_i64, fun _ => true⟩ | _ => none
theorem hpc_impl_VerdictsFault (fu : Nat) : ∀ f xs o, pc_impl_VerdictsFault fu f xs = some o → ∀ y, o.x = some y → Good E Try.prog f xs (o.g y) := by
  intro f xs o h
  unfold pc_impl_VerdictsFault at h
  split at h
  · exact good_impl_isName fu xs o h
  · exact good_impl_in fu xs o h
  · cases h
theorem goodv_impl_VerdictsFault (fu : Nat) (list_0 : (Sl S_impl_Verdict)) (y : Int) (hy : F_impl_VerdictsFault fu list_0 = some y) : Good E Try.prog 50 [(.rs list_0.z .impl_Verdict list_0.n list_0.f)] (enc_i64 y) :=
  fun_good E_ok (pc_good (hpc_impl_VerdictsFault fu)) (fn := Try.f50) (c := body_impl_VerdictsFault) (out := out_i64) (y := y) (by kernel_rfl) (by kernel_rfl) (by kernel_rfl) (lpok_impl_VerdictsFault fu) (fun d hd => out_i64_enc d _ hd) ((ev_impl_VerdictsFault fu list_0).trans hy)
theorem good_impl_VerdictsFault (fu : Nat) : ∀ xs o, S_impl_VerdictsFault fu xs = some o → ∀ y, o.x = some y → Good E Try.prog 50 xs (o.g y) := by
  intro xs o h y hy
  unfold S_impl_VerdictsFault at h
  split at h
  · rename_i za0_0 na0_0 fa0_0
    cases h
    exact goodv_impl_VerdictsFault fu (⟨za0_0, na0_0, fa0_0⟩ : (Sl S_impl_Verdict)) y hy
  · cases h

/-! impl.verdict -/
def F_impl_verdict_B2 {ρ : Type} (fu : Nat) (list0_0 : (Sl S_impl_Verdict)) (name1_1 : Int) (probers2_2 : Int) (up7_3 : Int) (down8_4 : Int) (prober9_5 : Int) (t13_6 : Int) (t14_7 : Int) (t18_8 : (Sl S_impl_Verdict)) (t19_9 : Int) (k0 : Int → Int → Bool → Int → Option ρ) (t20_10 : Int) (o0_11 : Int) (o0_12 : Int) (o0_13 : Bool) (o0_14 : Int) (go : Int → Int → Int → Bool → Int → Option ρ) : Option ρ :=
  (bif (decide (t20_10 < t19_9)) then ((bif (decide (0 ≤ t20_10) && decide ((Int.toNat t20_10) < t18_8.n)) then some () else none : Option Unit).bind fun _ => (((bif ((t18_8.f (Int.toNat t20_10)).Prober == prober9_5) then
    (bif ((t18_8.f (Int.toNat t20_10)).Name == name1_1) then (some (decide ((t18_8.f (Int.toNat t20_10)).Epoch > o0_14))) else (some false)) else (some false)) : Option Bool).bind fun m88 =>
    (bif m88 then (go (IntKind.wrap .i64 (t20_10 + 1)) (t18_8.f (Int.toNat t20_10)).Prober (t18_8.f (Int.toNat t20_10)).Name (t18_8.f (Int.toNat t20_10)).Up (t18_8.f (Int.toNat t20_10)).Epoch) else
    (go (IntKind.wrap .i64 (t20_10 + 1)) o0_11 o0_12 o0_13 o0_14)))) else (k0 o0_11 o0_12 o0_13 o0_14))
def F_impl_verdict_B0 {ρ : Type} (fu : Nat) (list0_0 : (Sl S_impl_Verdict)) (name1_1 : Int) (probers2_2 : Int) (t13_5 : Int) (k0 : Int → Int → Option ρ) (up7_3 : Int) (down8_4 : Int) (t14_6 : Int) (go : Int → Int → Int → Option ρ) : Option ρ :=
  (bif (decide (t14_6 < t13_5)) then (L (fun w2 go2 => F_impl_verdict_B2 fu list0_0 name1_1 probers2_2 up7_3 down8_4 t14_6 t13_5 t14_6 list0_0 ((list0_0.n : Nat) : Int) (fun z89 z90 z91 z92 =>
    (bif (decide (z92 < 0)) then (go up7_3 down8_4 (IntKind.wrap .i64 (t14_6 + 1))) else (bif z91 then (go (IntKind.wrap .i64 (up7_3 + 1)) down8_4 (IntKind.wrap .i64 (t14_6 + 1))) else
    (go up7_3 (IntKind.wrap .i64 (down8_4 + 1)) (IntKind.wrap .i64 (t14_6 + 1)))))) w2.1 w2.2.1 w2.2.2.1 w2.2.2.2.1 w2.2.2.2.2 (fun q0 q1 q2 q3 q4 => go2 (q0, q1, q2, q3, q4))) fu ((0,
    0, 0, false, (-1)) : Int × Int × Int × Bool × Int)) else (k0 up7_3 down8_4))
def F_impl_verdict (fu : Nat) (list_0 : (Sl S_impl_Verdict)) (name_1 : Int) (probers_2 : Int) : Option (Int) :=
  (L (fun w0 go0 => F_impl_verdict_B0 fu list_0 name_1 probers_2 probers_2 (fun z93 z94 => (bif (decide ((IntKind.wrap .i64 (2 * z93)) > probers_2)) then (some 1) else (bif (decide ((IntKind.wrap .i64 (2 * z94)) > probers_2)) then
    (some 2) else (some 0)))) w0.1 w0.2.1 w0.2.2 (fun q0 q1 q2 => go0 (q0, q1, q2))) fu ((0, 0, 0) : Int × Int × Int))
def pc_impl_verdict (fu : Nat) : Pc RT den := fun f xs => none
def msk_impl_verdict (b : Nat) : List Nat := match b with | 0 => [3, 4, 5, 6, 9, 10, 11, 12, 15, 16, 17, 18, 19, 20, 21, 22, 23, 24, 25, 26, 27, 28, 29, 30, 31, 32, 33, 34, 35, 36, 37, 38, 39, 40, 41, 42, 43, 44, 45, 46, 47, 48, 49, 50, 51, 52, 53, 54, 55, 56, 57, 58, 59, 60, 61, 62, 63, 64] | 100000 => [0, 1, 3, 4, 5, 9, 10, 11, 12, 13, 14, 15, 16, 17, 18, 19, 20, 21, 22, 23, 24, 25, 26, 27, 28, 29, 30, 31, 32, 33, 34, 35, 36, 37, 38, 39, 40, 41, 42, 43, 44, 45, 46, 47, 48, 49, 50, 51, 52, 53, 54, 55, 56, 57, 58, 59, 60, 61, 62, 63, 64] | 2 => [3, 4, 5, 6, 11, 12, 15, 16, 17, 21, 22, 23, 24, 25, 26, 27, 28, 29, 30, 31, 32, 33, 34, 35, 36, 37, 38, 39, 40, 41, 42, 43, 44, 45, 46, 47, 48, 49, 50, 51, 52, 53, 54, 55, 56, 57, 58, 59, 60, 61, 62, 63, 64] | 100002 => [3, 4, 5, 9, 11, 12, 15, 16, 17, 18, 19, 20, 21, 22, 23, 24, 25, 26, 27, 28, 29, 30, 31, 32, 33, 34, 35, 36, 37, 38, 39, 40, 41, 42, 43, 44, 45, 46, 47, 48, 49, 50, 51, 52, 53, 54, 55, 56, 57, 58, 59, 60, 61, 62, 63, 64] | 200009 => [40] | _ => []
def ps_impl_verdict_2 : List (Pat RT) := [.flat (.rs .impl_Verdict), .flat (.int .i64), .flat (.int .i64), .flat .dead, .flat .dead, .flat .dead, .flat .dead, .flat (.int .i64), .flat (.int .i64), .flat (.int .i64), .flat (.ref 0 0), .flat .dead, .flat .dead, .flat (.int .i64), .flat (.int .i64), .flat .dead, .flat .dead, .flat .dead, .flat (.rs .impl_Verdict), .flat (.int .i64), .flat (.int .i64), .flat .dead, .flat .dead, .flat .dead, .flat .dead, .flat .dead, .flat .dead, .flat .dead, .flat .dead, .flat .dead, .flat .dead, .flat .dead, .flat .dead, .flat .dead, .flat .dead, .flat .dead, .flat .dead, .flat .dead, .flat .dead, .flat .dead, .flat .dead, .flat .dead, .flat .dead, .flat .dead, .flat .dead, .flat .dead, .flat .dead, .flat .dead, .flat .dead, .flat .dead, .flat .dead, .flat .dead, .flat .dead, .flat .dead, .flat .dead, .flat .dead, .flat .dead, .flat .dead, .flat .dead, .flat .dead, .flat .dead, .flat .dead, .flat .dead, .flat .dead, .flat .dead]
def os_impl_verdict_2 : List (OP RT) := [.box [(.int .i64), (.int .i64), .bool, (.int .i64)]]
def conv_impl_verdict_2 (r : Raw den ps_impl_verdict_2 os_impl_verdict_2) : ((Sl S_impl_Verdict) × Int × Int × Int × Int × Int × Int × Int × (Sl S_impl_Verdict) × Int) × (Int × Int × Int × Bool × Int) := ((r.1.1, r.1.2.1, r.1.2.2.1, r.1.2.2.2.2.2.2.2.1, r.1.2.2.2.2.2.2.2.2.1, r.1.2.2.2.2.2.2.2.2.2.1, r.1.2.2.2.2.2.2.2.2.2.2.2.2.2.1, r.1.2.2.2.2.2.2.2.2.2.2.2.2.2.2.1, r.1.2.2.2.2.2.2.2.2.2.2.2.2.2.2.2.2.2.2.1, r.1.2.2.2.2.2.2.2.2.2.2.2.2.2.2.2.2.2.2.2.1), (r.1.2.2.2.2.2.2.2.2.2.2.2.2.2.2.2.2.2.2.2.2.1, r.2.1.1, r.2.1.2.1, r.2.1.2.2.1, r.2.1.2.2.2.1))
def back_impl_verdict_2 (c : (Sl S_impl_Verdict) × Int × Int × Int × Int × Int × Int × Int × (Sl S_impl_Verdict) × Int) (w : Int × Int × Int × Bool × Int) : St RT den := ⟨[(.rs c.1.z .impl_Verdict c.1.n c.1.f), (.int .i64 c.2.1), (.int .i64 c.2.2.1), .dead, .dead, .dead, .dead, (.int .i64 c.2.2.2.1), (.int .i64 c.2.2.2.2.1), (.int .i64 c.2.2.2.2.2.1), (.ref 0 0), .dead, .dead, (.int .i64 c.2.2.2.2.2.2.1), (.int .i64 c.2.2.2.2.2.2.2.1), .dead, .dead, .dead, (.rs c.2.2.2.2.2.2.2.2.1.z .impl_Verdict c.2.2.2.2.2.2.2.2.1.n c.2.2.2.2.2.2.2.2.1.f), (.int .i64 c.2.2.2.2.2.2.2.2.2), (.int .i64 w.1), .dead, .dead, .dead, .dead, .dead, .dead, .dead, .dead, .dead, .dead, .dead, .dead, .dead, .dead, .dead, .dead, .dead, .dead, .dead, .dead, .dead, .dead, .dead, .dead, .dead, .dead, .dead, .dead, .dead, .dead, .dead, .dead, .dead, .dead, .dead, .dead, .dead, .dead, .dead, .dead, .dead, .dead, .dead, .dead], [(.box [(.int .i64 w.2.1), (.int .i64 w.2.2.1), (.bool w.2.2.2.1), (.int .i64 w.2.2.2.2)])]⟩
def Bk_impl_verdict_2 {ρ : Type} (fu : Nat) (c : (Sl S_impl_Verdict) × Int × Int × Int × Int × Int × Int × Int × (Sl S_impl_Verdict) × Int) (k : Ex → St RT den → Option ρ) (w : Int × Int × Int × Bool × Int) (go : (Int × Int × Int × Bool × Int) → Option ρ) : Option ρ := F_impl_verdict_B2 fu c.1 c.2.1 c.2.2.1 c.2.2.2.1 c.2.2.2.2.1 c.2.2.2.2.2.1 c.2.2.2.2.2.2.1 c.2.2.2.2.2.2.2.1 c.2.2.2.2.2.2.2.2.1 c.2.2.2.2.2.2.2.2.2 (fun a0 a1 a2 a3 => k (.exit 2) ⟨[(.rs c.1.z .impl_Verdict c.1.n c.1.f), (.int .i64 c.2.1), (.int .i64 c.2.2.1), .dead, .dead, .dead, .dead, (.int .i64 c.2.2.2.1), (.int .i64 c.2.2.2.2.1), .dead, (.ref 0 0), .dead, .dead, (.int .i64 c.2.2.2.2.2.2.1), (.int .i64 c.2.2.2.2.2.2.2.1), .dead, .dead, .dead, .dead, .dead, .dead, .dead, .dead, .dead, .dead, .dead, .dead, .dead, .dead, .dead, .dead, .dead, .dead, .dead, .dead, .dead, .dead, .dead, .dead, .dead, .dead, .dead, .dead, .dead, .dead, .dead, .dead, .dead, .dead, .dead, .dead, .dead, .dead, .dead, .dead, .dead, .dead, .dead, .dead, .dead, .dead, .dead, .dead, .dead, .dead], [(.box [(.int .i64 a0), (.int .i64 a1), (.bool a2), (.int .i64 a3)])]⟩) w.1 w.2.1 w.2.2.1 w.2.2.2.1 w.2.2.2.2 (fun q0 q1 q2 q3 q4 => go (q0, q1, q2, q3, q4))
def ps_impl_verdict_0 : List (Pat RT) := [.flat (.rs .impl_Verdict), .flat (.int .i64), .flat (.int .i64), .flat .dead, .flat .dead, .flat .dead, .flat .dead, .flat (.int .i64), .flat (.int .i64), .flat .dead, .flat .dead, .flat .dead, .flat .dead, .flat (.int .i64), .flat (.int .i64), .flat .dead, .flat .dead, .flat .dead, .flat .dead, .flat .dead, .flat .dead, .flat .dead, .flat .dead, .flat .dead, .flat .dead, .flat .dead, .flat .dead, .flat .dead, .flat .dead, .flat .dead, .flat .dead, .flat .dead, .flat .dead, .flat .dead, .flat .dead, .flat .dead, .flat .dead, .flat .dead, .flat .dead, .flat .dead, .flat .dead, .flat .dead, .flat .dead, .flat .dead, .flat .dead, .flat .dead, .flat .dead, .flat .dead, .flat .dead, .flat .dead, .flat .dead, .flat .dead, .flat .dead, .flat .dead, .flat .dead, .flat .dead, .flat .dead, .flat .dead, .flat .dead, .flat .dead, .flat .dead, .flat .dead, .flat .dead, .flat .dead, .flat .dead]
def os_impl_verdict_0 : List (OP RT) := []
def conv_impl_verdict_0 (r : Raw den ps_impl_verdict_0 os_impl_verdict_0) : ((Sl S_impl_Verdict) × Int × Int × Int) × (Int × Int × Int) := ((r.1.1, r.1.2.1, r.1.2.2.1, r.1.2.2.2.2.2.2.2.2.2.2.2.2.2.1), (r.1.2.2.2.2.2.2.2.1, r.1.2.2.2.2.2.2.2.2.1, r.1.2.2.2.2.2.2.2.2.2.2.2.2.2.2.1))
def back_impl_verdict_0 (c : (Sl S_impl_Verdict) × Int × Int × Int) (w : Int × Int × Int) : St RT den := ⟨[(.rs c.1.z .impl_Verdict c.1.n c.1.f), (.int .i64 c.2.1), (.int .i64 c.2.2.1), .dead, .dead, .dead, .dead, (.int .i64 w.1), (.int .i64 w.2.1), .dead, .dead, .dead, .dead, (.int .i64 c.2.2.2), (.int .i64 w.2.2), .dead, .dead, .dead, .dead, .dead, .dead, .dead, .dead, .dead, .dead, .dead, .dead, .dead, .dead, .dead, .dead, .dead, .dead, .dead, .dead, .dead, .dead, .dead, .dead, .dead, .dead, .dead, .dead, .dead, .dead, .dead, .dead, .dead, .dead, .dead, .dead, .dead, .dead, .dead, .dead, .dead, .dead, .dead, .dead, .dead, .dead, .dead, .dead, .dead, .dead], []⟩
def Bk_impl_verdict_0 {ρ : Type} (fu : Nat) (c : (Sl S_impl_Verdict) × Int × Int × Int) (k : Ex → St RT den → Option ρ) (w : Int × Int × Int) (go : (Int × Int × Int) → Option ρ) : Option ρ := F_impl_verdict_B0 fu c.1 c.2.1 c.2.2.1 c.2.2.2 (fun a0 a1 => k (.exit 0) ⟨[.dead, .dead, (.int .i64 c.2.2.1), .dead, .dead, .dead, .dead, (.int .i64 a0), (.int .i64 a1), .dead, .dead, .dead, .dead, .dead, .dead, .dead, .dead, .dead, .dead, .dead, .dead, .dead, .dead, .dead, .dead, .dead, .dead, .dead, .dead, .dead, .dead, .dead, .dead, .dead, .dead, .dead, .dead, .dead, .dead, .dead, .dead, .dead, .dead, .dead, .dead, .dead, .dead, .dead, .dead, .dead, .dead, .dead, .dead, .dead, .dead, .dead, .dead, .dead, .dead, .dead, .dead, .dead, .dead, .dead, .dead], []⟩) w.1 w.2.1 w.2.2 (fun q0 q1 q2 => go (q0, q1, q2))
def lp_impl_verdict (fu : Nat) : Lp RT den (Int) := fun b s k => match b with | 0 => handle ps_impl_verdict_0 os_impl_verdict_0 conv_impl_verdict_0 (Bk_impl_verdict_0 fu) fu s k | 2 => handle ps_impl_verdict_2 os_impl_verdict_2 conv_impl_verdict_2 (Bk_impl_verdict_2 fu) fu s k | _ => none
theorem ev_impl_verdict (fu : Nat) (list_0 : (Sl S_impl_Verdict)) (name_1 : Int) (probers_2 : Int) : evFun E (pc_impl_verdict fu) msk_impl_verdict (lp_impl_verdict fu) out_i64 51 [(.rs list_0.z .impl_Verdict list_0.n list_0.f), (.int .i64 name_1), (.int .i64 probers_2)] = F_impl_verdict fu list_0 name_1 probers_2 := by kernel_rfl
noncomputable def body_impl_verdict : Code := Try.f51.body.getD .skip
noncomputable def lc_impl_verdict_0 : Code := ((loops 0 body_impl_verdict).getD 0 (0, .skip)).2
theorem round_impl_verdict_0 (fu : Nat) (it : St RT den → Option (Int)) (k : Ex → St RT den → Option (Int)) c w : evCode E (pc_impl_verdict fu) msk_impl_verdict (lp_impl_verdict fu) 0 lc_impl_verdict_0 (back_impl_verdict_0 c w) (after (msk_impl_verdict 0) (msk_impl_verdict 100000) 0 it k) = Bk_impl_verdict_0 fu c k w (fun w => it (back_impl_verdict_0 c w)) := by kernel_rfl
theorem lpok_impl_verdict_0 (fu : Nat) : ∀ s k r, lp_impl_verdict fu 0 s k = some r → ∃ fuel, iter (msk_impl_verdict 0) (msk_impl_verdict 100000) s.objs.length (evCode E (pc_impl_verdict fu) msk_impl_verdict (lp_impl_verdict fu) 0 lc_impl_verdict_0) fuel s k = some r :=
  handle_ok (ps := ps_impl_verdict_0) (os := os_impl_verdict_0) (conv := conv_impl_verdict_0) (B := Bk_impl_verdict_0 fu) (fu := fu) back_impl_verdict_0 (fun raw => by kernel_rfl) 0 (fun c w => by kernel_rfl) (round_impl_verdict_0 fu)
noncomputable def lc_impl_verdict_2 : Code := ((loops 0 body_impl_verdict).getD 1 (0, .skip)).2
theorem round_impl_verdict_2 (fu : Nat) (it : St RT den → Option (Int)) (k : Ex → St RT den → Option (Int)) c w : evCode E (pc_impl_verdict fu) msk_impl_verdict (lp_impl_verdict fu) 2 lc_impl_verdict_2 (back_impl_verdict_2 c w) (after (msk_impl_verdict 2) (msk_impl_verdict 100002) 1 it k) = Bk_impl_verdict_2 fu c k w (fun w => it (back_impl_verdict_2 c w)) := by kernel_rfl
theorem lpok_impl_verdict_2 (fu : Nat) : ∀ s k r, lp_impl_verdict fu 2 s k = some r → ∃ fuel, iter (msk_impl_verdict 2) (msk_impl_verdict 100002) s.objs.length (evCode E (pc_impl_verdict fu) msk_impl_verdict (lp_impl_verdict fu) 2 lc_impl_verdict_2) fuel s k = some r :=
  handle_ok (ps := ps_impl_verdict_2) (os := os_impl_verdict_2) (conv := conv_impl_verdict_2) (B := Bk_impl_verdict_2 fu) (fu := fu) back_impl_verdict_2 (fun raw => by kernel_rfl) 1 (fun c w => by kernel_rfl) (round_impl_verdict_2 fu)
theorem lpok_impl_verdict (fu : Nat) : LpOk E (pc_impl_verdict fu) msk_impl_verdict (lp_impl_verdict fu) (loops 0 body_impl_verdict) := loop_all 2 (by kernel_rfl) fun i hi => match i, hi with
  | 0, _ => by
    have h : (loops 0 body_impl_verdict).getD 0 (0, .skip) = (0, lc_impl_verdict_0) := by kernel_rfl
    rw [h]; exact lpok_impl_verdict_0 fu
  | 1, _ => by
    have h : (loops 0 body_impl_verdict).getD 1 (0, .skip) = (2, lc_impl_verdict_2) := by kernel_rfl
    rw [h]; exact lpok_impl_verdict_2 fu
  | i + 2, hi => absurd hi (by omega)
def S_impl_verdict (fu : Nat) (xs : List (D RT den)) : Option (Out RT den) := match xs with | [.rs za0_0 .impl_Verdict na0_0 fa0_0, .int .i64 a1_0, .int .i64 a2_0] => some ⟨Int, F_impl_verdict fu (⟨za0_0, na0_0, fa0_0⟩ : (Sl S_impl_Verdict)) a1_0 a2_0, enc_i64, fun _ => true⟩ | _ => none
theorem hpc_impl_verdict (fu : Nat) : ∀ f xs o, pc_impl_verdict fu f xs = some o → ∀ y, o.x = some y → Good E Try.prog f xs (o.g y) := by
  intro f xs o h
  cases h
theorem goodv_impl_verdict (fu : Nat) (list_0 : (Sl S_impl_Verdict)) (name_1 : Int) (probers_2 : Int) (y : Int) (hy : F_impl_verdict fu list_0 name_1 probers_2 = some y) : Good E Try.prog 51 [(.rs list_0.z .impl_Verdict list_0.n list_0.f), (.int .i64 name_1), (.int .i64 probers_2)] (enc_i64 y) :=
  fun_good E_ok (pc_good (hpc_impl_verdict fu)) (fn := Try.f51) (c := body_impl_verdict) (out := out_i64) (y := y) (by kernel_rfl) (by kernel_rfl) (by kernel_rfl) (lpok_impl_verdict fu) (fun d hd => out_i64_enc d _ hd) ((ev_impl_verdict fu list_0 name_1 probers_2).trans hy)
theorem good_impl_verdict (fu : Nat) : ∀ xs o, S_impl_verdict fu xs = some o → ∀ y, o.x = some y → Good E Try.prog 51 xs (o.g y) := by
  intro xs o h y hy
  unfold S_impl_verdict at h
  split at h
  · rename_i za0_0 na0_0 fa0_0 a1_0 a2_0
    cases h
    exact goodv_impl_verdict fu (⟨za0_0, na0_0, fa0_0⟩ : (Sl S_impl_Verdict)) a1_0 a2_0 y hy
  · cases h

/-! impl.VerdictFor -/
def F_impl_VerdictFor (fu : Nat) (list_0 : (Sl S_impl_Verdict)) (name_1 : Int) (probers_2 : Int) : Option (S_impl_IntResult) :=
  ((F_impl_VerdictsFault fu list_0).bind fun y75 => (((bif (y75 == 0) then ((F_impl_isName fu name_1).bind fun y76 => (bif (!y76) then (some true) else ((F_impl_in fu probers_2 1 10).bind fun y77 =>
    (some (!y77))))) else (some false)) : Option Bool).bind fun m78 => (bif m78 then (some (⟨3, 0⟩ : S_impl_IntResult)) else (bif (y75 != 0) then (some (⟨y75, 0⟩ : S_impl_IntResult)) else
    ((F_impl_verdict fu list_0 name_1 probers_2).bind fun y79 => (some (⟨0, y79⟩ : S_impl_IntResult)))))))
def pc_impl_VerdictFor (fu : Nat) : Pc RT den := fun f xs => match f with | 43 => S_impl_isName fu xs | 44 => S_impl_in fu xs | 50 => S_impl_VerdictsFault fu xs | 51 => S_impl_verdict fu xs | _ => none
def msk_impl_VerdictFor (b : Nat) : List Nat := match b with | 200002 => [21] | _ => []
def lp_impl_VerdictFor (fu : Nat) : Lp RT den (S_impl_IntResult) := fun b s k => none
theorem ev_impl_VerdictFor (fu : Nat) (list_0 : (Sl S_impl_Verdict)) (name_1 : Int) (probers_2 : Int) : evFun E (pc_impl_VerdictFor fu) msk_impl_VerdictFor (lp_impl_VerdictFor fu) out_impl_IntResult 23 [(.rs list_0.z .impl_Verdict list_0.n list_0.f), (.int .i64 name_1), (.int .i64 probers_2)] = F_impl_VerdictFor fu list_0 name_1 probers_2 := by kernel_rfl
noncomputable def body_impl_VerdictFor : Code := Try.f23.body.getD .skip
theorem lpok_impl_VerdictFor (fu : Nat) : LpOk E (pc_impl_VerdictFor fu) msk_impl_VerdictFor (lp_impl_VerdictFor fu) (loops 0 body_impl_VerdictFor) := by
  have h : loops 0 body_impl_VerdictFor = [] := by kernel_rfl
  rw [h]; intro p hp; cases hp
def S_impl_VerdictFor (fu : Nat) (xs : List (D RT den)) : Option (Out RT den) := match xs with | [.rs za0_0 .impl_Verdict na0_0 fa0_0, .int .i64 a1_0, .int .i64 a2_0] => some ⟨S_impl_IntResult, F_impl_VerdictFor fu (⟨za0_0, na0_0, fa0_0⟩ : (Sl S_impl_Verdict)) a1_0 a2_0, enc_impl_IntResult, fun _ => true⟩ | _ => none
theorem hpc_impl_VerdictFor (fu : Nat) : ∀ f xs o, pc_impl_VerdictFor fu f xs = some o → ∀ y, o.x = some y → Good E Try.prog f xs (o.g y) := by
  intro f xs o h
  unfold pc_impl_VerdictFor at h
  split at h
  · exact good_impl_isName fu xs o h
  · exact good_impl_in fu xs o h
  · exact good_impl_VerdictsFault fu xs o h
  · exact good_impl_verdict fu xs o h
  · cases h
theorem goodv_impl_VerdictFor (fu : Nat) (list_0 : (Sl S_impl_Verdict)) (name_1 : Int) (probers_2 : Int) (y : S_impl_IntResult) (hy : F_impl_VerdictFor fu list_0 name_1 probers_2 = some y) : Good E Try.prog 23 [(.rs list_0.z .impl_Verdict list_0.n list_0.f), (.int .i64 name_1), (.int .i64 probers_2)] (enc_impl_IntResult y) :=
  fun_good E_ok (pc_good (hpc_impl_VerdictFor fu)) (fn := Try.f23) (c := body_impl_VerdictFor) (out := out_impl_IntResult) (y := y) (by kernel_rfl) (by kernel_rfl) (by kernel_rfl) (lpok_impl_VerdictFor fu) (fun d hd => out_impl_IntResult_enc d _ hd) ((ev_impl_VerdictFor fu list_0 name_1 probers_2).trans hy)
theorem good_impl_VerdictFor (fu : Nat) : ∀ xs o, S_impl_VerdictFor fu xs = some o → ∀ y, o.x = some y → Good E Try.prog 23 xs (o.g y) := by
  intro xs o h y hy
  unfold S_impl_VerdictFor at h
  split at h
  · rename_i za0_0 na0_0 fa0_0 a1_0 a2_0
    cases h
    exact goodv_impl_VerdictFor fu (⟨za0_0, na0_0, fa0_0⟩ : (Sl S_impl_Verdict)) a1_0 a2_0 y hy
  · cases h

/-! laws.eqIntResult -/
def F_laws_eqIntResult (fu : Nat) (a_0 : S_impl_IntResult) (b_1 : S_impl_IntResult) : Option (Bool) :=
  (bif (a_0.Code != b_1.Code) then (some false) else (bif (a_0.Value != b_1.Value) then (some false) else (some true)))
def pc_laws_eqIntResult (fu : Nat) : Pc RT den := fun f xs => none
def msk_laws_eqIntResult (b : Nat) : List Nat := []
def lp_laws_eqIntResult (fu : Nat) : Lp RT den (Bool) := fun b s k => none
theorem ev_laws_eqIntResult (fu : Nat) (a_0 : S_impl_IntResult) (b_1 : S_impl_IntResult) : evFun E (pc_laws_eqIntResult fu) msk_laws_eqIntResult (lp_laws_eqIntResult fu) out_bo 24 [(.agg [(.int .i64 a_0.Code), (.int .i64 a_0.Value)]), (.agg [(.int .i64 b_1.Code), (.int .i64 b_1.Value)])] = F_laws_eqIntResult fu a_0 b_1 := by kernel_rfl
noncomputable def body_laws_eqIntResult : Code := Try.f24.body.getD .skip
theorem lpok_laws_eqIntResult (fu : Nat) : LpOk E (pc_laws_eqIntResult fu) msk_laws_eqIntResult (lp_laws_eqIntResult fu) (loops 0 body_laws_eqIntResult) := by
  have h : loops 0 body_laws_eqIntResult = [] := by kernel_rfl
  rw [h]; intro p hp; cases hp
def S_laws_eqIntResult (fu : Nat) (xs : List (D RT den)) : Option (Out RT den) := match xs with | [.agg [.int .i64 a0_1, .int .i64 a0_2], .agg [.int .i64 a1_1, .int .i64 a1_2]] => some ⟨Bool, F_laws_eqIntResult fu (⟨a0_1, a0_2⟩ : S_impl_IntResult) (⟨a1_1, a1_2⟩ : S_impl_IntResult), enc_bo, fun _ => true⟩ | _ => none
theorem hpc_laws_eqIntResult (fu : Nat) : ∀ f xs o, pc_laws_eqIntResult fu f xs = some o → ∀ y, o.x = some y → Good E Try.prog f xs (o.g y) := by
  intro f xs o h
  cases h
theorem goodv_laws_eqIntResult (fu : Nat) (a_0 : S_impl_IntResult) (b_1 : S_impl_IntResult) (y : Bool) (hy : F_laws_eqIntResult fu a_0 b_1 = some y) : Good E Try.prog 24 [(.agg [(.int .i64 a_0.Code), (.int .i64 a_0.Value)]), (.agg [(.int .i64 b_1.Code), (.int .i64 b_1.Value)])] (enc_bo y) :=
  fun_good E_ok (pc_good (hpc_laws_eqIntResult fu)) (fn := Try.f24) (c := body_laws_eqIntResult) (out := out_bo) (y := y) (by kernel_rfl) (by kernel_rfl) (by kernel_rfl) (lpok_laws_eqIntResult fu) (fun d hd => out_bo_enc d _ hd) ((ev_laws_eqIntResult fu a_0 b_1).trans hy)
theorem good_laws_eqIntResult (fu : Nat) : ∀ xs o, S_laws_eqIntResult fu xs = some o → ∀ y, o.x = some y → Good E Try.prog 24 xs (o.g y) := by
  intro xs o h y hy
  unfold S_laws_eqIntResult at h
  split at h
  · rename_i a0_1 a0_2 a1_1 a1_2
    cases h
    exact goodv_laws_eqIntResult fu (⟨a0_1, a0_2⟩ : S_impl_IntResult) (⟨a1_1, a1_2⟩ : S_impl_IntResult) y hy
  · cases h

/-! laws.eqVerdict -/
def F_laws_eqVerdict (fu : Nat) (a_0 : S_impl_Verdict) (b_1 : S_impl_Verdict) : Option (Bool) :=
  (bif (a_0.Prober != b_1.Prober) then (some false) else (bif (a_0.Name != b_1.Name) then (some false) else (bif (!(a_0.Up == b_1.Up)) then (some false) else (bif (a_0.Epoch != b_1.Epoch) then
    (some false) else (some true)))))
def pc_laws_eqVerdict (fu : Nat) : Pc RT den := fun f xs => none
def msk_laws_eqVerdict (b : Nat) : List Nat := []
def lp_laws_eqVerdict (fu : Nat) : Lp RT den (Bool) := fun b s k => none
theorem ev_laws_eqVerdict (fu : Nat) (a_0 : S_impl_Verdict) (b_1 : S_impl_Verdict) : evFun E (pc_laws_eqVerdict fu) msk_laws_eqVerdict (lp_laws_eqVerdict fu) out_bo 52 [(.agg [(.int .i64 a_0.Prober), (.int .i64 a_0.Name), (.bool a_0.Up), (.int .i64 a_0.Epoch)]), (.agg [(.int .i64 b_1.Prober), (.int .i64 b_1.Name), (.bool b_1.Up), (.int .i64 b_1.Epoch)])] = F_laws_eqVerdict fu a_0 b_1 := by kernel_rfl
noncomputable def body_laws_eqVerdict : Code := Try.f52.body.getD .skip
theorem lpok_laws_eqVerdict (fu : Nat) : LpOk E (pc_laws_eqVerdict fu) msk_laws_eqVerdict (lp_laws_eqVerdict fu) (loops 0 body_laws_eqVerdict) := by
  have h : loops 0 body_laws_eqVerdict = [] := by kernel_rfl
  rw [h]; intro p hp; cases hp
def S_laws_eqVerdict (fu : Nat) (xs : List (D RT den)) : Option (Out RT den) := match xs with | [.agg [.int .i64 a0_1, .int .i64 a0_2, .bool a0_3, .int .i64 a0_4], .agg [.int .i64 a1_1, .int .i64 a1_2, .bool a1_3, .int .i64 a1_4]] => some ⟨Bool, F_laws_eqVerdict fu (⟨a0_1, a0_2, a0_3, a0_4⟩ : S_impl_Verdict) (⟨a1_1, a1_2, a1_3, a1_4⟩ : S_impl_Verdict), enc_bo, fun _ => true⟩ | _ => none
theorem hpc_laws_eqVerdict (fu : Nat) : ∀ f xs o, pc_laws_eqVerdict fu f xs = some o → ∀ y, o.x = some y → Good E Try.prog f xs (o.g y) := by
  intro f xs o h
  cases h
theorem goodv_laws_eqVerdict (fu : Nat) (a_0 : S_impl_Verdict) (b_1 : S_impl_Verdict) (y : Bool) (hy : F_laws_eqVerdict fu a_0 b_1 = some y) : Good E Try.prog 52 [(.agg [(.int .i64 a_0.Prober), (.int .i64 a_0.Name), (.bool a_0.Up), (.int .i64 a_0.Epoch)]), (.agg [(.int .i64 b_1.Prober), (.int .i64 b_1.Name), (.bool b_1.Up), (.int .i64 b_1.Epoch)])] (enc_bo y) :=
  fun_good E_ok (pc_good (hpc_laws_eqVerdict fu)) (fn := Try.f52) (c := body_laws_eqVerdict) (out := out_bo) (y := y) (by kernel_rfl) (by kernel_rfl) (by kernel_rfl) (lpok_laws_eqVerdict fu) (fun d hd => out_bo_enc d _ hd) ((ev_laws_eqVerdict fu a_0 b_1).trans hy)
theorem good_laws_eqVerdict (fu : Nat) : ∀ xs o, S_laws_eqVerdict fu xs = some o → ∀ y, o.x = some y → Good E Try.prog 52 xs (o.g y) := by
  intro xs o h y hy
  unfold S_laws_eqVerdict at h
  split at h
  · rename_i a0_1 a0_2 a0_3 a0_4 a1_1 a1_2 a1_3 a1_4
    cases h
    exact goodv_laws_eqVerdict fu (⟨a0_1, a0_2, a0_3, a0_4⟩ : S_impl_Verdict) (⟨a1_1, a1_2, a1_3, a1_4⟩ : S_impl_Verdict) y hy
  · cases h

/-! laws.eqVerdictS -/
def F_laws_eqVerdictS_B0 {ρ : Type} (fu : Nat) (a0_0 : (Sl S_impl_Verdict)) (b1_1 : (Sl S_impl_Verdict)) (k0 : Option ρ) (k1 : Option ρ) (i5_2 : Int) (go : Int → Option ρ) : Option ρ :=
  (bif (decide (i5_2 < ((a0_0.n : Nat) : Int))) then ((bif (decide (0 ≤ i5_2) && decide ((Int.toNat i5_2) < a0_0.n)) then some () else none : Option Unit).bind fun _ => ((bif (decide (0 ≤ i5_2) &&
    decide ((Int.toNat i5_2) < b1_1.n)) then some () else none : Option Unit).bind fun _ => ((F_laws_eqVerdict fu (a0_0.f (Int.toNat i5_2)) (b1_1.f (Int.toNat i5_2))).bind fun y95 =>
    (bif (!y95) then k0 else (go (IntKind.wrap .i64 (i5_2 + 1))))))) else k1)
def F_laws_eqVerdictS (fu : Nat) (a_0 : (Sl S_impl_Verdict)) (b_1 : (Sl S_impl_Verdict)) : Option (Bool) :=
  (bif (((a_0.n : Nat) : Int) != ((b_1.n : Nat) : Int)) then (some false) else (L (fun w0 go0 => F_laws_eqVerdictS_B0 fu a_0 b_1 (some false) (some true) w0 go0) fu (0 : Int)))
def pc_laws_eqVerdictS (fu : Nat) : Pc RT den := fun f xs => match f with | 52 => S_laws_eqVerdict fu xs | _ => none
def msk_laws_eqVerdictS (b : Nat) : List Nat := match b with | 0 => [2, 3, 4, 6, 7, 8, 9, 10, 11, 12, 13, 14, 15, 16, 17, 18, 19, 20, 21, 22, 23, 24, 25, 26] | 100000 => [0, 1, 2, 3, 5, 6, 7, 8, 9, 10, 11, 12, 13, 14, 15, 16, 17, 18, 19, 20, 21, 22, 23, 24, 25, 26] | _ => []
def ps_laws_eqVerdictS_0 : List (Pat RT) := [.flat (.rs .impl_Verdict), .flat (.rs .impl_Verdict), .flat .dead, .flat .dead, .flat .dead, .flat (.int .i64), .flat .dead, .flat .dead, .flat .dead, .flat .dead, .flat .dead, .flat .dead, .flat .dead, .flat .dead, .flat .dead, .flat .dead, .flat .dead, .flat .dead, .flat .dead, .flat .dead, .flat .dead, .flat .dead, .flat .dead, .flat .dead, .flat .dead, .flat .dead, .flat .dead]
def os_laws_eqVerdictS_0 : List (OP RT) := []
def conv_laws_eqVerdictS_0 (r : Raw den ps_laws_eqVerdictS_0 os_laws_eqVerdictS_0) : ((Sl S_impl_Verdict) × (Sl S_impl_Verdict)) × (Int) := ((r.1.1, r.1.2.1), r.1.2.2.2.2.2.1)
def back_laws_eqVerdictS_0 (c : (Sl S_impl_Verdict) × (Sl S_impl_Verdict)) (w : Int) : St RT den := ⟨[(.rs c.1.z .impl_Verdict c.1.n c.1.f), (.rs c.2.z .impl_Verdict c.2.n c.2.f), .dead, .dead, .dead, (.int .i64 w), .dead, .dead, .dead, .dead, .dead, .dead, .dead, .dead, .dead, .dead, .dead, .dead, .dead, .dead, .dead, .dead, .dead, .dead, .dead, .dead, .dead], []⟩
def Bk_laws_eqVerdictS_0 {ρ : Type} (fu : Nat) (c : (Sl S_impl_Verdict) × (Sl S_impl_Verdict)) (k : Ex → St RT den → Option ρ) (w : Int) (go : (Int) → Option ρ) : Option ρ := F_laws_eqVerdictS_B0 fu c.1 c.2 (k .ret ⟨[.dead, .dead, .dead, .dead, (.bool false), .dead, .dead, .dead, .dead, .dead, .dead, .dead, .dead, .dead, .dead, .dead, .dead, .dead, .dead, .dead, .dead, .dead, .dead, .dead, .dead, .dead, .dead], []⟩) (k (.exit 0) ⟨[.dead, .dead, .dead, .dead, .dead, .dead, .dead, .dead, .dead, .dead, .dead, .dead, .dead, .dead, .dead, .dead, .dead, .dead, .dead, .dead, .dead, .dead, .dead, .dead, .dead, .dead, .dead], []⟩) w go
def lp_laws_eqVerdictS (fu : Nat) : Lp RT den (Bool) := fun b s k => match b with | 0 => handle ps_laws_eqVerdictS_0 os_laws_eqVerdictS_0 conv_laws_eqVerdictS_0 (Bk_laws_eqVerdictS_0 fu) fu s k | _ => none
theorem ev_laws_eqVerdictS (fu : Nat) (a_0 : (Sl S_impl_Verdict)) (b_1 : (Sl S_impl_Verdict)) : evFun E (pc_laws_eqVerdictS fu) msk_laws_eqVerdictS (lp_laws_eqVerdictS fu) out_bo 25 [(.rs a_0.z .impl_Verdict a_0.n a_0.f), (.rs b_1.z .impl_Verdict b_1.n b_1.f)] = F_laws_eqVerdictS fu a_0 b_1 := by kernel_rfl
noncomputable def body_laws_eqVerdictS : Code := Try.f25.body.getD .skip
noncomputable def lc_laws_eqVerdictS_0 : Code := ((loops 0 body_laws_eqVerdictS).getD 0 (0, .skip)).2
theorem round_laws_eqVerdictS_0 (fu : Nat) (it : St RT den → Option (Bool)) (k : Ex → St RT den → Option (Bool)) c w : evCode E (pc_laws_eqVerdictS fu) msk_laws_eqVerdictS (lp_laws_eqVerdictS fu) 0 lc_laws_eqVerdictS_0 (back_laws_eqVerdictS_0 c w) (after (msk_laws_eqVerdictS 0) (msk_laws_eqVerdictS 100000) 0 it k) = Bk_laws_eqVerdictS_0 fu c k w (fun w => it (back_laws_eqVerdictS_0 c w)) := by kernel_rfl
theorem lpok_laws_eqVerdictS_0 (fu : Nat) : ∀ s k r, lp_laws_eqVerdictS fu 0 s k = some r → ∃ fuel, iter (msk_laws_eqVerdictS 0) (msk_laws_eqVerdictS 100000) s.objs.length (evCode E (pc_laws_eqVerdictS fu) msk_laws_eqVerdictS (lp_laws_eqVerdictS fu) 0 lc_laws_eqVerdictS_0) fuel s k = some r :=
  handle_ok (ps := ps_laws_eqVerdictS_0) (os := os_laws_eqVerdictS_0) (conv := conv_laws_eqVerdictS_0) (B := Bk_laws_eqVerdictS_0 fu) (fu := fu) back_laws_eqVerdictS_0 (fun raw => by kernel_rfl) 0 (fun c w => by kernel_rfl) (round_laws_eqVerdictS_0 fu)
theorem lpok_laws_eqVerdictS (fu : Nat) : LpOk E (pc_laws_eqVerdictS fu) msk_laws_eqVerdictS (lp_laws_eqVerdictS fu) (loops 0 body_laws_eqVerdictS) := loop_all 1 (by kernel_rfl) fun i hi => match i, hi with
  | 0, _ => by
    have h : (loops 0 body_laws_eqVerdictS).getD 0 (0, .skip) = (0, lc_laws_eqVerdictS_0) := by kernel_rfl
    rw [h]; exact lpok_laws_eqVerdictS_0 fu
  | i + 1, hi => absurd hi (by omega)
def S_laws_eqVerdictS (fu : Nat) (xs : List (D RT den)) : Option (Out RT den) := match xs with | [.rs za0_0 .impl_Verdict na0_0 fa0_0, .rs za1_0 .impl_Verdict na1_0 fa1_0] => some ⟨Bool, F_laws_eqVerdictS fu (⟨za0_0, na0_0, fa0_0⟩ : (Sl S_impl_Verdict)) (⟨za1_0, na1_0, fa1_0⟩ : (Sl S_impl_Verdict)), enc_bo, fun _ => true⟩ | _ => none
theorem hpc_laws_eqVerdictS (fu : Nat) : ∀ f xs o, pc_laws_eqVerdictS fu f xs = some o → ∀ y, o.x = some y → Good E Try.prog f xs (o.g y) := by
  intro f xs o h
  unfold pc_laws_eqVerdictS at h
  split at h
  · exact good_laws_eqVerdict fu xs o h
  · cases h
theorem goodv_laws_eqVerdictS (fu : Nat) (a_0 : (Sl S_impl_Verdict)) (b_1 : (Sl S_impl_Verdict)) (y : Bool) (hy : F_laws_eqVerdictS fu a_0 b_1 = some y) : Good E Try.prog 25 [(.rs a_0.z .impl_Verdict a_0.n a_0.f), (.rs b_1.z .impl_Verdict b_1.n b_1.f)] (enc_bo y) :=
  fun_good E_ok (pc_good (hpc_laws_eqVerdictS fu)) (fn := Try.f25) (c := body_laws_eqVerdictS) (out := out_bo) (y := y) (by kernel_rfl) (by kernel_rfl) (by kernel_rfl) (lpok_laws_eqVerdictS fu) (fun d hd => out_bo_enc d _ hd) ((ev_laws_eqVerdictS fu a_0 b_1).trans hy)
theorem good_laws_eqVerdictS (fu : Nat) : ∀ xs o, S_laws_eqVerdictS fu xs = some o → ∀ y, o.x = some y → Good E Try.prog 25 xs (o.g y) := by
  intro xs o h y hy
  unfold S_laws_eqVerdictS at h
  split at h
  · rename_i za0_0 na0_0 fa0_0 za1_0 na1_0 fa1_0
    cases h
    exact goodv_laws_eqVerdictS fu (⟨za0_0, na0_0, fa0_0⟩ : (Sl S_impl_Verdict)) (⟨za1_0, na1_0, fa1_0⟩ : (Sl S_impl_Verdict)) y hy
  · cases h

/-! laws.FnExactVerdictFor -/
def F_laws_FnExactVerdictFor (fu : Nat) (aList_0 : (Sl S_impl_Verdict)) (aName_1 : Int) (aProbers_2 : Int) : Option (Bool) :=
  ((F_laws_szVerdictS fu aList_0 1048576).bind fun y47 => (bif (decide (y47 < 0)) then (some true) else ((F_laws_toVerdictS fu aList_0).bind fun y48 => ((F_spec_VerdictFor fu y48 aName_1 aProbers_2).bind fun y49 =>
    ((F_laws_toVerdictS fu aList_0).bind fun y50 => ((F_impl_VerdictFor fu y50 aName_1 aProbers_2).bind fun y51 => ((F_laws_eqIntResult fu y51 y49).bind fun y52 => (bif (!y52) then
    (some false) else ((F_laws_toVerdictS fu aList_0).bind fun y53 => ((F_laws_eqVerdictS fu y50 y53).bind fun y54 => (bif (!y54) then (some false) else (some true))))))))))))
def pc_laws_FnExactVerdictFor (fu : Nat) : Pc RT den := fun f xs => match f with | 20 => S_laws_szVerdictS fu xs | 21 => S_spec_VerdictFor fu xs | 22 => S_laws_toVerdictS fu xs | 23 => S_impl_VerdictFor fu xs | 24 => S_laws_eqIntResult fu xs | 25 => S_laws_eqVerdictS fu xs | _ => none
def msk_laws_FnExactVerdictFor (b : Nat) : List Nat := []
def lp_laws_FnExactVerdictFor (fu : Nat) : Lp RT den (Bool) := fun b s k => none
theorem ev_laws_FnExactVerdictFor (fu : Nat) (aList_0 : (Sl S_impl_Verdict)) (aName_1 : Int) (aProbers_2 : Int) : evFun E (pc_laws_FnExactVerdictFor fu) msk_laws_FnExactVerdictFor (lp_laws_FnExactVerdictFor fu) out_bo 6 [(.rs aList_0.z .impl_Verdict aList_0.n aList_0.f), (.int .i64 aName_1), (.int .i64 aProbers_2)] = F_laws_FnExactVerdictFor fu aList_0 aName_1 aProbers_2 := by kernel_rfl
noncomputable def body_laws_FnExactVerdictFor : Code := Try.f6.body.getD .skip
theorem lpok_laws_FnExactVerdictFor (fu : Nat) : LpOk E (pc_laws_FnExactVerdictFor fu) msk_laws_FnExactVerdictFor (lp_laws_FnExactVerdictFor fu) (loops 0 body_laws_FnExactVerdictFor) := by
  have h : loops 0 body_laws_FnExactVerdictFor = [] := by kernel_rfl
  rw [h]; intro p hp; cases hp
def S_laws_FnExactVerdictFor (fu : Nat) (xs : List (D RT den)) : Option (Out RT den) := match xs with | [.rs za0_0 .impl_Verdict na0_0 fa0_0, .int .i64 a1_0, .int .i64 a2_0] => some ⟨Bool, F_laws_FnExactVerdictFor fu (⟨za0_0, na0_0, fa0_0⟩ : (Sl S_impl_Verdict)) a1_0 a2_0, enc_bo, fun _ => true⟩ | _ => none
theorem hpc_laws_FnExactVerdictFor (fu : Nat) : ∀ f xs o, pc_laws_FnExactVerdictFor fu f xs = some o → ∀ y, o.x = some y → Good E Try.prog f xs (o.g y) := by
  intro f xs o h
  unfold pc_laws_FnExactVerdictFor at h
  split at h
  · exact good_laws_szVerdictS fu xs o h
  · exact good_spec_VerdictFor fu xs o h
  · exact good_laws_toVerdictS fu xs o h
  · exact good_impl_VerdictFor fu xs o h
  · exact good_laws_eqIntResult fu xs o h
  · exact good_laws_eqVerdictS fu xs o h
  · cases h
theorem goodv_laws_FnExactVerdictFor (fu : Nat) (aList_0 : (Sl S_impl_Verdict)) (aName_1 : Int) (aProbers_2 : Int) (y : Bool) (hy : F_laws_FnExactVerdictFor fu aList_0 aName_1 aProbers_2 = some y) : Good E Try.prog 6 [(.rs aList_0.z .impl_Verdict aList_0.n aList_0.f), (.int .i64 aName_1), (.int .i64 aProbers_2)] (enc_bo y) :=
  fun_good E_ok (pc_good (hpc_laws_FnExactVerdictFor fu)) (fn := Try.f6) (c := body_laws_FnExactVerdictFor) (out := out_bo) (y := y) (by kernel_rfl) (by kernel_rfl) (by kernel_rfl) (lpok_laws_FnExactVerdictFor fu) (fun d hd => out_bo_enc d _ hd) ((ev_laws_FnExactVerdictFor fu aList_0 aName_1 aProbers_2).trans hy)
theorem good_laws_FnExactVerdictFor (fu : Nat) : ∀ xs o, S_laws_FnExactVerdictFor fu xs = some o → ∀ y, o.x = some y → Good E Try.prog 6 xs (o.g y) := by
  intro xs o h y hy
  unfold S_laws_FnExactVerdictFor at h
  split at h
  · rename_i za0_0 na0_0 fa0_0 a1_0 a2_0
    cases h
    exact goodv_laws_FnExactVerdictFor fu (⟨za0_0, na0_0, fa0_0⟩ : (Sl S_impl_Verdict)) a1_0 a2_0 y hy
  · cases h

/-! laws.szBackendS -/
def F_laws_szBackendS (fu : Nat) (a_0 : (Sl S_impl_Backend)) (left_1 : Int) : Option (Int) :=
  (bif (decide ((IntKind.wrap .i64 (left_1 - ((a_0.n : Nat) : Int))) < 0)) then (some (-1)) else (some (IntKind.wrap .i64 (left_1 - ((a_0.n : Nat) : Int)))))
def pc_laws_szBackendS (fu : Nat) : Pc RT den := fun f xs => none
def msk_laws_szBackendS (b : Nat) : List Nat := []
def lp_laws_szBackendS (fu : Nat) : Lp RT den (Int) := fun b s k => none
theorem ev_laws_szBackendS (fu : Nat) (a_0 : (Sl S_impl_Backend)) (left_1 : Int) : evFun E (pc_laws_szBackendS fu) msk_laws_szBackendS (lp_laws_szBackendS fu) out_i64 70 [(.rs a_0.z .impl_Backend a_0.n a_0.f), (.int .i64 left_1)] = F_laws_szBackendS fu a_0 left_1 := by kernel_rfl
noncomputable def body_laws_szBackendS : Code := Try.f70.body.getD .skip
theorem lpok_laws_szBackendS (fu : Nat) : LpOk E (pc_laws_szBackendS fu) msk_laws_szBackendS (lp_laws_szBackendS fu) (loops 0 body_laws_szBackendS) := by
  have h : loops 0 body_laws_szBackendS = [] := by kernel_rfl
  rw [h]; intro p hp; cases hp
def S_laws_szBackendS (fu : Nat) (xs : List (D RT den)) : Option (Out RT den) := match xs with | [.rs za0_0 .impl_Backend na0_0 fa0_0, .int .i64 a1_0] => some ⟨Int, F_laws_szBackendS fu (⟨za0_0, na0_0, fa0_0⟩ : (Sl S_impl_Backend)) a1_0, enc_i64, fun _ => true⟩ | _ => none
theorem hpc_laws_szBackendS (fu : Nat) : ∀ f xs o, pc_laws_szBackendS fu f xs = some o → ∀ y, o.x = some y → Good E Try.prog f xs (o.g y) := by
  intro f xs o h
  cases h
theorem goodv_laws_szBackendS (fu : Nat) (a_0 : (Sl S_impl_Backend)) (left_1 : Int) (y : Int) (hy : F_laws_szBackendS fu a_0 left_1 = some y) : Good E Try.prog 70 [(.rs a_0.z .impl_Backend a_0.n a_0.f), (.int .i64 left_1)] (enc_i64 y) :=
  fun_good E_ok (pc_good (hpc_laws_szBackendS fu)) (fn := Try.f70) (c := body_laws_szBackendS) (out := out_i64) (y := y) (by kernel_rfl) (by kernel_rfl) (by kernel_rfl) (lpok_laws_szBackendS fu) (fun d hd => out_i64_enc d _ hd) ((ev_laws_szBackendS fu a_0 left_1).trans hy)
theorem good_laws_szBackendS (fu : Nat) : ∀ xs o, S_laws_szBackendS fu xs = some o → ∀ y, o.x = some y → Good E Try.prog 70 xs (o.g y) := by
  intro xs o h y hy
  unfold S_laws_szBackendS at h
  split at h
  · rename_i za0_0 na0_0 fa0_0 a1_0
    cases h
    exact goodv_laws_szBackendS fu (⟨za0_0, na0_0, fa0_0⟩ : (Sl S_impl_Backend)) a1_0 y hy
  · cases h

/-! laws.szInt64S -/
def F_laws_szInt64S (fu : Nat) (a_0 : (Sl Int)) (left_1 : Int) : Option (Int) :=
  (bif (decide ((IntKind.wrap .i64 (left_1 - ((a_0.n : Nat) : Int))) < 0)) then (some (-1)) else (some (IntKind.wrap .i64 (left_1 - ((a_0.n : Nat) : Int)))))
def pc_laws_szInt64S (fu : Nat) : Pc RT den := fun f xs => none
def msk_laws_szInt64S (b : Nat) : List Nat := []
def lp_laws_szInt64S (fu : Nat) : Lp RT den (Int) := fun b s k => none
theorem ev_laws_szInt64S (fu : Nat) (a_0 : (Sl Int)) (left_1 : Int) : evFun E (pc_laws_szInt64S fu) msk_laws_szInt64S (lp_laws_szInt64S fu) out_i64 109 [(.rs a_0.z .i64 a_0.n a_0.f), (.int .i64 left_1)] = F_laws_szInt64S fu a_0 left_1 := by kernel_rfl
noncomputable def body_laws_szInt64S : Code := Try.f109.body.getD .skip
theorem lpok_laws_szInt64S (fu : Nat) : LpOk E (pc_laws_szInt64S fu) msk_laws_szInt64S (lp_laws_szInt64S fu) (loops 0 body_laws_szInt64S) := by
  have h : loops 0 body_laws_szInt64S = [] := by kernel_rfl
  rw [h]; intro p hp; cases hp
def S_laws_szInt64S (fu : Nat) (xs : List (D RT den)) : Option (Out RT den) := match xs with | [.rs za0_0 .i64 na0_0 fa0_0, .int .i64 a1_0] => some ⟨Int, F_laws_szInt64S fu (⟨za0_0, na0_0, fa0_0⟩ : (Sl Int)) a1_0, enc_i64, fun _ => true⟩ | _ => none
theorem hpc_laws_szInt64S (fu : Nat) : ∀ f xs o, pc_laws_szInt64S fu f xs = some o → ∀ y, o.x = some y → Good E Try.prog f xs (o.g y) := by
  intro f xs o h
  cases h
theorem goodv_laws_szInt64S (fu : Nat) (a_0 : (Sl Int)) (left_1 : Int) (y : Int) (hy : F_laws_szInt64S fu a_0 left_1 = some y) : Good E Try.prog 109 [(.rs a_0.z .i64 a_0.n a_0.f), (.int .i64 left_1)] (enc_i64 y) :=
  fun_good E_ok (pc_good (hpc_laws_szInt64S fu)) (fn := Try.f109) (c := body_laws_szInt64S) (out := out_i64) (y := y) (by kernel_rfl) (by kernel_rfl) (by kernel_rfl) (lpok_laws_szInt64S fu) (fun d hd => out_i64_enc d _ hd) ((ev_laws_szInt64S fu a_0 left_1).trans hy)
theorem good_laws_szInt64S (fu : Nat) : ∀ xs o, S_laws_szInt64S fu xs = some o → ∀ y, o.x = some y → Good E Try.prog 109 xs (o.g y) := by
  intro xs o h y hy
  unfold S_laws_szInt64S at h
  split at h
  · rename_i za0_0 na0_0 fa0_0 a1_0
    cases h
    exact goodv_laws_szInt64S fu (⟨za0_0, na0_0, fa0_0⟩ : (Sl Int)) a1_0 y hy
  · cases h

/-! laws.szVip -/
def F_laws_szVip (fu : Nat) (a_0 : S_impl_Vip) (left_1 : Int) : Option (Int) :=
  ((F_laws_szInt64S fu a_0.Names left_1).bind fun y115 => (bif (decide (y115 < 0)) then (some (-1)) else (some y115)))
def pc_laws_szVip (fu : Nat) : Pc RT den := fun f xs => match f with | 109 => S_laws_szInt64S fu xs | _ => none
def msk_laws_szVip (b : Nat) : List Nat := []
def lp_laws_szVip (fu : Nat) : Lp RT den (Int) := fun b s k => none
theorem ev_laws_szVip (fu : Nat) (a_0 : S_impl_Vip) (left_1 : Int) : evFun E (pc_laws_szVip fu) msk_laws_szVip (lp_laws_szVip fu) out_i64 93 [(.agg [(.int .i64 a_0.Address), (.int .i64 a_0.Port), (.int .i64 a_0.Proto), (.rs a_0.Names.z .i64 a_0.Names.n a_0.Names.f)]), (.int .i64 left_1)] = F_laws_szVip fu a_0 left_1 := by kernel_rfl
noncomputable def body_laws_szVip : Code := Try.f93.body.getD .skip
theorem lpok_laws_szVip (fu : Nat) : LpOk E (pc_laws_szVip fu) msk_laws_szVip (lp_laws_szVip fu) (loops 0 body_laws_szVip) := by
  have h : loops 0 body_laws_szVip = [] := by kernel_rfl
  rw [h]; intro p hp; cases hp
def S_laws_szVip (fu : Nat) (xs : List (D RT den)) : Option (Out RT den) := match xs with | [.agg [.int .i64 a0_1, .int .i64 a0_2, .int .i64 a0_3, .rs za0_4 .i64 na0_4 fa0_4], .int .i64 a1_0] => some ⟨Int, F_laws_szVip fu (⟨a0_1, a0_2, a0_3, (⟨za0_4, na0_4, fa0_4⟩ : (Sl Int))⟩ : S_impl_Vip) a1_0, enc_i64, fun _ => true⟩ | _ => none
theorem hpc_laws_szVip (fu : Nat) : ∀ f xs o, pc_laws_szVip fu f xs = some o → ∀ y, o.x = some y → Good E Try.prog f xs (o.g y) := by
  intro f xs o h
  unfold pc_laws_szVip at h
  split at h
  · exact good_laws_szInt64S fu xs o h
  · cases h
theorem goodv_laws_szVip (fu : Nat) (a_0 : S_impl_Vip) (left_1 : Int) (y : Int) (hy : F_laws_szVip fu a_0 left_1 = some y) : Good E Try.prog 93 [(.agg [(.int .i64 a_0.Address), (.int .i64 a_0.Port), (.int .i64 a_0.Proto), (.rs a_0.Names.z .i64 a_0.Names.n a_0.Names.f)]), (.int .i64 left_1)] (enc_i64 y) :=
  fun_good E_ok (pc_good (hpc_laws_szVip fu)) (fn := Try.f93) (c := body_laws_szVip) (out := out_i64) (y := y) (by kernel_rfl) (by kernel_rfl) (by kernel_rfl) (lpok_laws_szVip fu) (fun d hd => out_i64_enc d _ hd) ((ev_laws_szVip fu a_0 left_1).trans hy)
theorem good_laws_szVip (fu : Nat) : ∀ xs o, S_laws_szVip fu xs = some o → ∀ y, o.x = some y → Good E Try.prog 93 xs (o.g y) := by
  intro xs o h y hy
  unfold S_laws_szVip at h
  split at h
  · rename_i a0_1 a0_2 a0_3 za0_4 na0_4 fa0_4 a1_0
    cases h
    exact goodv_laws_szVip fu (⟨a0_1, a0_2, a0_3, (⟨za0_4, na0_4, fa0_4⟩ : (Sl Int))⟩ : S_impl_Vip) a1_0 y hy
  · cases h

/-! laws.szVipS -/
def F_laws_szVipS_B0 {ρ : Type} (fu : Nat) (a0_0 : (Sl S_impl_Vip)) (k0 : Int → Option ρ) (k1 : Int → Option ρ) (left1_1 : Int) (i5_2 : Int) (go : Int → Int → Option ρ) : Option ρ :=
  (bif (decide (i5_2 < ((a0_0.n : Nat) : Int))) then ((bif (decide (0 ≤ i5_2) && decide ((Int.toNat i5_2) < a0_0.n)) then some () else none : Option Unit).bind fun _ =>
    ((F_laws_szVip fu (a0_0.f (Int.toNat i5_2)) left1_1).bind fun y112 => (bif (decide (y112 < 0)) then (k0 y112) else (go y112 (IntKind.wrap .i64 (i5_2 + 1)))))) else (k1 left1_1))
def F_laws_szVipS (fu : Nat) (a_0 : (Sl S_impl_Vip)) (left_1 : Int) : Option (Int) :=
  (bif (decide ((IntKind.wrap .i64 (left_1 - ((a_0.n : Nat) : Int))) < 0)) then (some (-1)) else (L (fun w0 go0 => F_laws_szVipS_B0 fu a_0 (fun z113 => (some (-1))) (fun z114 =>
    (some z114)) w0.1 w0.2 (fun q0 q1 => go0 (q0, q1))) fu (((IntKind.wrap .i64 (left_1 - ((a_0.n : Nat) : Int))), 0) : Int × Int)))
def pc_laws_szVipS (fu : Nat) : Pc RT den := fun f xs => match f with | 93 => S_laws_szVip fu xs | _ => none
def msk_laws_szVipS (b : Nat) : List Nat := match b with | 0 => [2, 3, 4, 6, 7, 8, 9, 10, 11, 12, 13, 14, 15, 16, 17, 18, 19, 20, 21, 22, 23, 24, 25, 26] | 100000 => [0, 2, 3, 5, 6, 7, 8, 9, 10, 11, 12, 13, 14, 15, 16, 17, 18, 19, 20, 21, 22, 23, 24, 25, 26] | _ => []
def ps_laws_szVipS_0 : List (Pat RT) := [.flat (.rs .impl_Vip), .flat (.int .i64), .flat .dead, .flat .dead, .flat .dead, .flat (.int .i64), .flat .dead, .flat .dead, .flat .dead, .flat .dead, .flat .dead, .flat .dead, .flat .dead, .flat .dead, .flat .dead, .flat .dead, .flat .dead, .flat .dead, .flat .dead, .flat .dead, .flat .dead, .flat .dead, .flat .dead, .flat .dead, .flat .dead, .flat .dead, .flat .dead]
def os_laws_szVipS_0 : List (OP RT) := []
def conv_laws_szVipS_0 (r : Raw den ps_laws_szVipS_0 os_laws_szVipS_0) : ((Sl S_impl_Vip)) × (Int × Int) := (r.1.1, (r.1.2.1, r.1.2.2.2.2.2.1))
def back_laws_szVipS_0 (c : (Sl S_impl_Vip)) (w : Int × Int) : St RT den := ⟨[(.rs c.z .impl_Vip c.n c.f), (.int .i64 w.1), .dead, .dead, .dead, (.int .i64 w.2), .dead, .dead, .dead, .dead, .dead, .dead, .dead, .dead, .dead, .dead, .dead, .dead, .dead, .dead, .dead, .dead, .dead, .dead, .dead, .dead, .dead], []⟩
def Bk_laws_szVipS_0 {ρ : Type} (fu : Nat) (c : (Sl S_impl_Vip)) (k : Ex → St RT den → Option ρ) (w : Int × Int) (go : (Int × Int) → Option ρ) : Option ρ := F_laws_szVipS_B0 fu c (fun a0 => k .ret ⟨[.dead, (.int .i64 a0), .dead, .dead, (.int .i64 (-1)), .dead, .dead, .dead, .dead, .dead, .dead, .dead, .dead, .dead, .dead, .dead, .dead, .dead, .dead, .dead, .dead, .dead, .dead, .dead, .dead, .dead, .dead], []⟩) (fun a0 => k (.exit 0) ⟨[.dead, (.int .i64 a0), .dead, .dead, .dead, .dead, .dead, .dead, .dead, .dead, .dead, .dead, .dead, .dead, .dead, .dead, .dead, .dead, .dead, .dead, .dead, .dead, .dead, .dead, .dead, .dead, .dead], []⟩) w.1 w.2 (fun q0 q1 => go (q0, q1))
def lp_laws_szVipS (fu : Nat) : Lp RT den (Int) := fun b s k => match b with | 0 => handle ps_laws_szVipS_0 os_laws_szVipS_0 conv_laws_szVipS_0 (Bk_laws_szVipS_0 fu) fu s k | _ => none
theorem ev_laws_szVipS (fu : Nat) (a_0 : (Sl S_impl_Vip)) (left_1 : Int) : evFun E (pc_laws_szVipS fu) msk_laws_szVipS (lp_laws_szVipS fu) out_i64 71 [(.rs a_0.z .impl_Vip a_0.n a_0.f), (.int .i64 left_1)] = F_laws_szVipS fu a_0 left_1 := by kernel_rfl
noncomputable def body_laws_szVipS : Code := Try.f71.body.getD .skip
noncomputable def lc_laws_szVipS_0 : Code := ((loops 0 body_laws_szVipS).getD 0 (0, .skip)).2
theorem round_laws_szVipS_0 (fu : Nat) (it : St RT den → Option (Int)) (k : Ex → St RT den → Option (Int)) c w : evCode E (pc_laws_szVipS fu) msk_laws_szVipS (lp_laws_szVipS fu) 0 lc_laws_szVipS_0 (back_laws_szVipS_0 c w) (after (msk_laws_szVipS 0) (msk_laws_szVipS 100000) 0 it k) = Bk_laws_szVipS_0 fu c k w (fun w => it (back_laws_szVipS_0 c w)) := by kernel_rfl
theorem lpok_laws_szVipS_0 (fu : Nat) : ∀ s k r, lp_laws_szVipS fu 0 s k = some r → ∃ fuel, iter (msk_laws_szVipS 0) (msk_laws_szVipS 100000) s.objs.length (evCode E (pc_laws_szVipS fu) msk_laws_szVipS (lp_laws_szVipS fu) 0 lc_laws_szVipS_0) fuel s k = some r :=
  handle_ok (ps := ps_laws_szVipS_0) (os := os_laws_szVipS_0) (conv := conv_laws_szVipS_0) (B := Bk_laws_szVipS_0 fu) (fu := fu) back_laws_szVipS_0 (fun raw => by kernel_rfl) 0 (fun c w => by kernel_rfl) (round_laws_szVipS_0 fu)
theorem lpok_laws_szVipS (fu : Nat) : LpOk E (pc_laws_szVipS fu) msk_laws_szVipS (lp_laws_szVipS fu) (loops 0 body_laws_szVipS) := loop_all 1 (by kernel_rfl) fun i hi => match i, hi with
  | 0, _ => by
    have h : (loops 0 body_laws_szVipS).getD 0 (0, .skip) = (0, lc_laws_szVipS_0) := by kernel_rfl
    rw [h]; exact lpok_laws_szVipS_0 fu
  | i + 1, hi => absurd hi (by omega)
def S_laws_szVipS (fu : Nat) (xs : List (D RT den)) : Option (Out RT den) := match xs with | [.rs za0_0 .impl_Vip na0_0 fa0_0, .int .i64 a1_0] => some ⟨Int, F_laws_szVipS fu (⟨za0_0, na0_0, fa0_0⟩ : (Sl S_impl_Vip)) a1_0, enc_i64, fun _ => true⟩ | _ => none
theorem hpc_laws_szVipS (fu : Nat) : ∀ f xs o, pc_laws_szVipS fu f xs = some o → ∀ y, o.x = some y → Good E Try.prog f xs (o.g y) := by
  intro f xs o h
  unfold pc_laws_szVipS at h
  split at h
  · exact good_laws_szVip fu xs o h
  · cases h
theorem goodv_laws_szVipS (fu : Nat) (a_0 : (Sl S_impl_Vip)) (left_1 : Int) (y : Int) (hy : F_laws_szVipS fu a_0 left_1 = some y) : Good E Try.prog 71 [(.rs a_0.z .impl_Vip a_0.n a_0.f), (.int .i64 left_1)] (enc_i64 y) :=
  fun_good E_ok (pc_good (hpc_laws_szVipS fu)) (fn := Try.f71) (c := body_laws_szVipS) (out := out_i64) (y := y) (by kernel_rfl) (by kernel_rfl) (by kernel_rfl) (lpok_laws_szVipS fu) (fun d hd => out_i64_enc d _ hd) ((ev_laws_szVipS fu a_0 left_1).trans hy)
theorem good_laws_szVipS (fu : Nat) : ∀ xs o, S_laws_szVipS fu xs = some o → ∀ y, o.x = some y → Good E Try.prog 71 xs (o.g y) := by
  intro xs o h y hy
  unfold S_laws_szVipS at h
  split at h
  · rename_i za0_0 na0_0 fa0_0 a1_0
    cases h
    exact goodv_laws_szVipS fu (⟨za0_0, na0_0, fa0_0⟩ : (Sl S_impl_Vip)) a1_0 y hy
  · cases h

/-! laws.szConfig -/
def F_laws_szConfig (fu : Nat) (a_0 : S_laws_Config) (left_1 : Int) : Option (Int) :=
  ((F_laws_szBackendS fu a_0.Backends left_1).bind fun y110 => (bif (decide (y110 < 0)) then (some (-1)) else ((F_laws_szVipS fu a_0.Vips y110).bind fun y111 => (bif (decide (y111 < 0)) then
    (some (-1)) else (some y111)))))
def pc_laws_szConfig (fu : Nat) : Pc RT den := fun f xs => match f with | 70 => S_laws_szBackendS fu xs | 71 => S_laws_szVipS fu xs | _ => none
def msk_laws_szConfig (b : Nat) : List Nat := []
def lp_laws_szConfig (fu : Nat) : Lp RT den (Int) := fun b s k => none
theorem ev_laws_szConfig (fu : Nat) (a_0 : S_laws_Config) (left_1 : Int) : evFun E (pc_laws_szConfig fu) msk_laws_szConfig (lp_laws_szConfig fu) out_i64 53 [(.agg [(.int .i64 a_0.Version), (.rs a_0.Backends.z .impl_Backend a_0.Backends.n a_0.Backends.f), (.rs a_0.Vips.z .impl_Vip a_0.Vips.n a_0.Vips.f)]), (.int .i64 left_1)] = F_laws_szConfig fu a_0 left_1 := by kernel_rfl
noncomputable def body_laws_szConfig : Code := Try.f53.body.getD .skip
theorem lpok_laws_szConfig (fu : Nat) : LpOk E (pc_laws_szConfig fu) msk_laws_szConfig (lp_laws_szConfig fu) (loops 0 body_laws_szConfig) := by
  have h : loops 0 body_laws_szConfig = [] := by kernel_rfl
  rw [h]; intro p hp; cases hp
def S_laws_szConfig (fu : Nat) (xs : List (D RT den)) : Option (Out RT den) := match xs with | [.agg [.int .i64 a0_1, .rs za0_2 .impl_Backend na0_2 fa0_2, .rs za0_3 .impl_Vip na0_3 fa0_3], .int .i64 a1_0] => some ⟨Int, F_laws_szConfig fu (⟨a0_1, (⟨za0_2, na0_2, fa0_2⟩ : (Sl S_impl_Backend)), (⟨za0_3, na0_3, fa0_3⟩ : (Sl S_impl_Vip))⟩ : S_laws_Config) a1_0, enc_i64, fun _ => true⟩ | _ => none
theorem hpc_laws_szConfig (fu : Nat) : ∀ f xs o, pc_laws_szConfig fu f xs = some o → ∀ y, o.x = some y → Good E Try.prog f xs (o.g y) := by
  intro f xs o h
  unfold pc_laws_szConfig at h
  split at h
  · exact good_laws_szBackendS fu xs o h
  · exact good_laws_szVipS fu xs o h
  · cases h
theorem goodv_laws_szConfig (fu : Nat) (a_0 : S_laws_Config) (left_1 : Int) (y : Int) (hy : F_laws_szConfig fu a_0 left_1 = some y) : Good E Try.prog 53 [(.agg [(.int .i64 a_0.Version), (.rs a_0.Backends.z .impl_Backend a_0.Backends.n a_0.Backends.f), (.rs a_0.Vips.z .impl_Vip a_0.Vips.n a_0.Vips.f)]), (.int .i64 left_1)] (enc_i64 y) :=
  fun_good E_ok (pc_good (hpc_laws_szConfig fu)) (fn := Try.f53) (c := body_laws_szConfig) (out := out_i64) (y := y) (by kernel_rfl) (by kernel_rfl) (by kernel_rfl) (lpok_laws_szConfig fu) (fun d hd => out_i64_enc d _ hd) ((ev_laws_szConfig fu a_0 left_1).trans hy)
theorem good_laws_szConfig (fu : Nat) : ∀ xs o, S_laws_szConfig fu xs = some o → ∀ y, o.x = some y → Good E Try.prog 53 xs (o.g y) := by
  intro xs o h y hy
  unfold S_laws_szConfig at h
  split at h
  · rename_i a0_1 za0_2 na0_2 fa0_2 za0_3 na0_3 fa0_3 a1_0
    cases h
    exact goodv_laws_szConfig fu (⟨a0_1, (⟨za0_2, na0_2, fa0_2⟩ : (Sl S_impl_Backend)), (⟨za0_3, na0_3, fa0_3⟩ : (Sl S_impl_Vip))⟩ : S_laws_Config) a1_0 y hy
  · cases h

/-! laws.szSessionS -/
def F_laws_szSessionS (fu : Nat) (a_0 : (Sl S_impl_Session)) (left_1 : Int) : Option (Int) :=
  (bif (decide ((IntKind.wrap .i64 (left_1 - ((a_0.n : Nat) : Int))) < 0)) then (some (-1)) else (some (IntKind.wrap .i64 (left_1 - ((a_0.n : Nat) : Int)))))
def pc_laws_szSessionS (fu : Nat) : Pc RT den := fun f xs => none
def msk_laws_szSessionS (b : Nat) : List Nat := []
def lp_laws_szSessionS (fu : Nat) : Lp RT den (Int) := fun b s k => none
theorem ev_laws_szSessionS (fu : Nat) (a_0 : (Sl S_impl_Session)) (left_1 : Int) : evFun E (pc_laws_szSessionS fu) msk_laws_szSessionS (lp_laws_szSessionS fu) out_i64 54 [(.rs a_0.z .impl_Session a_0.n a_0.f), (.int .i64 left_1)] = F_laws_szSessionS fu a_0 left_1 := by kernel_rfl
noncomputable def body_laws_szSessionS : Code := Try.f54.body.getD .skip
theorem lpok_laws_szSessionS (fu : Nat) : LpOk E (pc_laws_szSessionS fu) msk_laws_szSessionS (lp_laws_szSessionS fu) (loops 0 body_laws_szSessionS) := by
  have h : loops 0 body_laws_szSessionS = [] := by kernel_rfl
  rw [h]; intro p hp; cases hp
def S_laws_szSessionS (fu : Nat) (xs : List (D RT den)) : Option (Out RT den) := match xs with | [.rs za0_0 .impl_Session na0_0 fa0_0, .int .i64 a1_0] => some ⟨Int, F_laws_szSessionS fu (⟨za0_0, na0_0, fa0_0⟩ : (Sl S_impl_Session)) a1_0, enc_i64, fun _ => true⟩ | _ => none
theorem hpc_laws_szSessionS (fu : Nat) : ∀ f xs o, pc_laws_szSessionS fu f xs = some o → ∀ y, o.x = some y → Good E Try.prog f xs (o.g y) := by
  intro f xs o h
  cases h
theorem goodv_laws_szSessionS (fu : Nat) (a_0 : (Sl S_impl_Session)) (left_1 : Int) (y : Int) (hy : F_laws_szSessionS fu a_0 left_1 = some y) : Good E Try.prog 54 [(.rs a_0.z .impl_Session a_0.n a_0.f), (.int .i64 left_1)] (enc_i64 y) :=
  fun_good E_ok (pc_good (hpc_laws_szSessionS fu)) (fn := Try.f54) (c := body_laws_szSessionS) (out := out_i64) (y := y) (by kernel_rfl) (by kernel_rfl) (by kernel_rfl) (lpok_laws_szSessionS fu) (fun d hd => out_i64_enc d _ hd) ((ev_laws_szSessionS fu a_0 left_1).trans hy)
theorem good_laws_szSessionS (fu : Nat) : ∀ xs o, S_laws_szSessionS fu xs = some o → ∀ y, o.x = some y → Good E Try.prog 54 xs (o.g y) := by
  intro xs o h y hy
  unfold S_laws_szSessionS at h
  split at h
  · rename_i za0_0 na0_0 fa0_0 a1_0
    cases h
    exact goodv_laws_szSessionS fu (⟨za0_0, na0_0, fa0_0⟩ : (Sl S_impl_Session)) a1_0 y hy
  · cases h

/-! laws.szMachine -/
def F_laws_szMachine (fu : Nat) (a_0 : S_laws_Machine) (left_1 : Int) : Option (Int) :=
  ((F_laws_szConfig fu a_0.Config left_1).bind fun y108 => (bif (decide (y108 < 0)) then (some (-1)) else ((F_laws_szSessionS fu a_0.Sessions y108).bind fun y109 => (bif (decide (y109 < 0)) then
    (some (-1)) else (some y109)))))
def pc_laws_szMachine (fu : Nat) : Pc RT den := fun f xs => match f with | 53 => S_laws_szConfig fu xs | 54 => S_laws_szSessionS fu xs | _ => none
def msk_laws_szMachine (b : Nat) : List Nat := []
def lp_laws_szMachine (fu : Nat) : Lp RT den (Int) := fun b s k => none
theorem ev_laws_szMachine (fu : Nat) (a_0 : S_laws_Machine) (left_1 : Int) : evFun E (pc_laws_szMachine fu) msk_laws_szMachine (lp_laws_szMachine fu) out_i64 26 [(.agg [(.int .i64 a_0.Config.Version), (.rs a_0.Config.Backends.z .impl_Backend a_0.Config.Backends.n a_0.Config.Backends.f), (.rs a_0.Config.Vips.z .impl_Vip a_0.Config.Vips.n a_0.Config.Vips.f), (.rs a_0.Sessions.z .impl_Session a_0.Sessions.n a_0.Sessions.f)]), (.int .i64 left_1)] = F_laws_szMachine fu a_0 left_1 := by kernel_rfl
noncomputable def body_laws_szMachine : Code := Try.f26.body.getD .skip
theorem lpok_laws_szMachine (fu : Nat) : LpOk E (pc_laws_szMachine fu) msk_laws_szMachine (lp_laws_szMachine fu) (loops 0 body_laws_szMachine) := by
  have h : loops 0 body_laws_szMachine = [] := by kernel_rfl
  rw [h]; intro p hp; cases hp
def S_laws_szMachine (fu : Nat) (xs : List (D RT den)) : Option (Out RT den) := match xs with | [.agg [.int .i64 a0_2, .rs za0_3 .impl_Backend na0_3 fa0_3, .rs za0_4 .impl_Vip na0_4 fa0_4, .rs za0_5 .impl_Session na0_5 fa0_5], .int .i64 a1_0] => some ⟨Int, F_laws_szMachine fu (⟨(⟨a0_2, (⟨za0_3, na0_3, fa0_3⟩ : (Sl S_impl_Backend)), (⟨za0_4, na0_4, fa0_4⟩ : (Sl S_impl_Vip))⟩ : S_laws_Config), (⟨za0_5, na0_5, fa0_5⟩ : (Sl S_impl_Session))⟩ : S_laws_Machine) a1_0, enc_i64, fun _ => true⟩ | _ => none
theorem hpc_laws_szMachine (fu : Nat) : ∀ f xs o, pc_laws_szMachine fu f xs = some o → ∀ y, o.x = some y → Good E Try.prog f xs (o.g y) := by
  intro f xs o h
  unfold pc_laws_szMachine at h
  split at h
  · exact good_laws_szConfig fu xs o h
  · exact good_laws_szSessionS fu xs o h
  · cases h
theorem goodv_laws_szMachine (fu : Nat) (a_0 : S_laws_Machine) (left_1 : Int) (y : Int) (hy : F_laws_szMachine fu a_0 left_1 = some y) : Good E Try.prog 26 [(.agg [(.int .i64 a_0.Config.Version), (.rs a_0.Config.Backends.z .impl_Backend a_0.Config.Backends.n a_0.Config.Backends.f), (.rs a_0.Config.Vips.z .impl_Vip a_0.Config.Vips.n a_0.Config.Vips.f), (.rs a_0.Sessions.z .impl_Session a_0.Sessions.n a_0.Sessions.f)]), (.int .i64 left_1)] (enc_i64 y) :=
  fun_good E_ok (pc_good (hpc_laws_szMachine fu)) (fn := Try.f26) (c := body_laws_szMachine) (out := out_i64) (y := y) (by kernel_rfl) (by kernel_rfl) (by kernel_rfl) (lpok_laws_szMachine fu) (fun d hd => out_i64_enc d _ hd) ((ev_laws_szMachine fu a_0 left_1).trans hy)
theorem good_laws_szMachine (fu : Nat) : ∀ xs o, S_laws_szMachine fu xs = some o → ∀ y, o.x = some y → Good E Try.prog 26 xs (o.g y) := by
  intro xs o h y hy
  unfold S_laws_szMachine at h
  split at h
  · rename_i a0_2 za0_3 na0_3 fa0_3 za0_4 na0_4 fa0_4 za0_5 na0_5 fa0_5 a1_0
    cases h
    exact goodv_laws_szMachine fu (⟨(⟨a0_2, (⟨za0_3, na0_3, fa0_3⟩ : (Sl S_impl_Backend)), (⟨za0_4, na0_4, fa0_4⟩ : (Sl S_impl_Vip))⟩ : S_laws_Config), (⟨za0_5, na0_5, fa0_5⟩ : (Sl S_impl_Session))⟩ : S_laws_Machine) a1_0 y hy
  · cases h
end Go.Proofs.Ytnocoglmchnggaa.Pc
