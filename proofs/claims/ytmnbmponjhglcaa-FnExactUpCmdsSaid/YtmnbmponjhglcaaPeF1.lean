/- The functions' evaluated forms, each a proved summary. Conditions: none. -/
import Derived.Test.YtmnbmponjhglcaaPeF0
namespace Go.Proofs.Ytmnbmponjhglcaa.Pe
open Go Go.RowKit Go.Proofs Vm
set_option linter.unusedVariables false
set_option linter.unusedSimpArgs false
set_option maxRecDepth 100000
/-! spec.VerdictsFault -/
def F_spec_VerdictsFault_B0 {ρ : Type} (fu : Nat) (list0_0 : (Sl S_impl_Verdict)) (k0 : Int → Int → Bool → Int → Option ρ) (k1 : Option ρ) (i3_1 : Int) (go : Int → Option ρ) : Option ρ :=
  (bif (decide (i3_1 < ((list0_0.n : Nat) : Int))) then ((bif (decide (0 ≤ i3_1) && decide ((Int.toNat i3_1) < list0_0.n)) then some () else none : Option Unit).bind fun _ =>
    ((((F_spec_l1In fu (list0_0.f (Int.toNat i3_1)).Prober 0 9).bind fun y80 => (bif (!y80) then (some true) else ((F_spec_l3Name fu (list0_0.f (Int.toNat i3_1)).Name).bind fun y81 =>
    (bif (!y81) then (some true) else ((F_spec_l1In fu (list0_0.f (Int.toNat i3_1)).Epoch 0 1000000).bind fun y82 => (some (!y82))))))) : Option Bool).bind fun m83 => (bif m83 then
    (k0 (list0_0.f (Int.toNat i3_1)).Prober (list0_0.f (Int.toNat i3_1)).Name (list0_0.f (Int.toNat i3_1)).Up (list0_0.f (Int.toNat i3_1)).Epoch) else (go (IntKind.wrap .i64 (i3_1 + 1)))))) else
    k1)
def F_spec_VerdictsFault (fu : Nat) (list_0 : (Sl S_impl_Verdict)) : Option (Int) :=
  (bif (decide (((list_0.n : Nat) : Int) > 60)) then (some 2) else (L (fun w0 go0 => F_spec_VerdictsFault_B0 fu list_0 (fun z84 z85 z86 z87 => (some 3)) (some 0) w0 go0) fu (0 : Int)))
def pcf_a19 (fu : Nat) (f : Nat) (xs : List (D RT den)) : Option (Out RT den) := match f with | 65 => S_a8 fu xs | 127 => S_a10 fu xs | _ => none
def pc_a19 (fu : Nat) : Pc RT den := ⟨pcf_a19 fu, fun _ => false, fun _ => false, pcd0, pcx0⟩
def msk_a19 (b : Nat) : List Nat := match b with | 0 => [1, 2, 4, 5, 6, 7, 8, 9, 10, 11, 12, 13, 14, 15, 16, 17, 18, 19, 20, 21, 22, 23, 24, 25, 26, 27, 28, 29, 30, 31, 32, 33] | 100000 => [0, 1, 3, 4, 5, 6, 7, 8, 9, 10, 11, 12, 13, 14, 15, 16, 17, 18, 19, 20, 21, 22, 23, 24, 25, 26, 27, 28, 29, 30, 31, 32, 33] | 200007 => [33] | _ => []
def ps_a19_0 : List (Pat RT) := [.flat (.rs .impl_Verdict), .flat .q, .flat .q, .flat (.int .i64), .flat .q, .flat .q, .flat .q, .flat .q, .flat .q, .flat .q, .flat .q, .flat .q, .flat .q, .flat .q, .flat .q, .flat .q, .flat .q, .flat .q, .flat .q, .flat .q, .flat .q, .flat .q, .flat .q, .flat .q, .flat .q, .flat .q, .flat .q, .flat .q, .flat .q, .flat .q, .flat .q, .flat .q, .flat .q, .flat .q]
def os_a19_0 : List (OP RT) := []
def conv_a19_0 (r : Raw den ps_a19_0 os_a19_0) : ((Sl S_impl_Verdict)) × (Int) := (r.1.1, r.1.2.2.2.1)
def back_a19_0 (c : (Sl S_impl_Verdict)) (w : Int) : St RT den := ⟨[(.rs c.z .impl_Verdict c.n c.f), .q, .q, (.int .i64 w), .q, .q, .q, .q, .q, .q, .q, .q, .q, .q, .q, .q, .q, .q, .q, .q, .q, .q, .q, .q, .q, .q, .q, .q, .q, .q, .q, .q, .q, .q], []⟩
def Bk_a19_0 {ρ : Type} (fu : Nat) (c : (Sl S_impl_Verdict)) (k : Ex → St RT den → Option ρ) (w : Int) (go : (Int) → Option ρ) : Option ρ := F_spec_VerdictsFault_B0 fu c (fun a0 a1 a2 a3 => k .ret ⟨[.q, .q, (.int .i64 3), .q, .q, .q, .q, .q, .q, .q, .q, .q, .q, .q, .q, .q, .q, .q, .q, .q, .q, .q, .q, .q, .q, .q, .q, .q, .q, .q, .q, .q, .q, .q], [(.box false [(.int .i64 a0), (.int .i64 a1), (.bool a2), (.int .i64 a3)])]⟩) (k (.exit 0) ⟨[.q, .q, .q, .q, .q, .q, .q, .q, .q, .q, .q, .q, .q, .q, .q, .q, .q, .q, .q, .q, .q, .q, .q, .q, .q, .q, .q, .q, .q, .q, .q, .q, .q, .q], []⟩) w go
def lp_a19 (fu : Nat) : Lp RT den (Int) := fun b s k => match b with | 0 => handle ps_a19_0 os_a19_0 conv_a19_0 (Bk_a19_0 fu) fu s k | _ => none
theorem ev_a19 (fu : Nat) (list_0 : (Sl S_impl_Verdict)) : evFun E (pc_a19 fu) msk_a19 (lp_a19 fu) out_i64 64 [(.rs list_0.z .impl_Verdict list_0.n list_0.f)] = F_spec_VerdictsFault fu list_0 := by kernel_rfl
noncomputable def body_a19 : Code := Try.f64.body.getD .skip
noncomputable def lc_a19_0 : Code := ((loops 0 body_a19).getD 0 (0, .skip)).2
theorem round_a19_0 (fu : Nat) (it : St RT den → Option (Int)) (k : Ex → St RT den → Option (Int)) c w : evCode E (pc_a19 fu) msk_a19 (lp_a19 fu) 0 lc_a19_0 (back_a19_0 c w) (after (msk_a19 0) (msk_a19 100000) 0 it k) = Bk_a19_0 fu c k w (fun w => it (back_a19_0 c w)) := by kernel_rfl
theorem lpok_a19_0 (fu : Nat) : ∀ s k r, lp_a19 fu 0 s k = some r → ∃ fuel, iter (msk_a19 0) (msk_a19 100000) s.objs.length (evCode E (pc_a19 fu) msk_a19 (lp_a19 fu) 0 lc_a19_0) fuel s k = some r :=
  handle_ok (ps := ps_a19_0) (os := os_a19_0) (conv := conv_a19_0) (B := Bk_a19_0 fu) (fu := fu) back_a19_0 (fun raw => by kernel_rfl) 0 (fun c w => by kernel_rfl) (round_a19_0 fu)
theorem lpok_a19 (fu : Nat) : LpOk E (pc_a19 fu) msk_a19 (lp_a19 fu) (loops 0 body_a19) := loop_all 1 (by kernel_rfl) fun i hi => match i, hi with
  | 0, _ => by
    have h : (loops 0 body_a19).getD 0 (0, .skip) = (0, lc_a19_0) := by kernel_rfl
    rw [h]; exact lpok_a19_0 fu
  | i + 1, hi => absurd hi (by omega)
def S_a19 (fu : Nat) (xs : List (D RT den)) : Option (Out RT den) := match xs with | [.rs za0_0 .impl_Verdict na0_0 fa0_0] => some ⟨Int, F_spec_VerdictsFault fu (⟨za0_0, na0_0, fa0_0⟩ : (Sl S_impl_Verdict)), enc_i64, fun _ => true⟩ | _ => none
theorem hpc_a19 (fu : Nat) : ∀ f xs o, pcf_a19 fu f xs = some o → ∀ y, o.x = some y → Good E Try.prog f xs (o.g y) := by
  intro f xs o h
  unfold pcf_a19 at h
  split at h
  · exact good_a8 fu xs o h
  · exact good_a10 fu xs o h
  · cases h
theorem goodv_a19 (fu : Nat) (list_0 : (Sl S_impl_Verdict)) (y : Int) (hy : F_spec_VerdictsFault fu list_0 = some y) : Good E Try.prog 64 [(.rs list_0.z .impl_Verdict list_0.n list_0.f)] (enc_i64 y) :=
  fun_good E_ok (pc_good (pc := pc_a19 fu) (hpc_a19 fu) hpx0) (fn := Try.f64) (c := body_a19) (out := out_i64) (y := y) (by kernel_rfl) (by kernel_rfl) (by kernel_rfl) (lpok_a19 fu) (fun d hd => out_i64_enc d _ hd) ((ev_a19 fu list_0).trans hy)
theorem good_a19 (fu : Nat) : ∀ xs o, S_a19 fu xs = some o → ∀ y, o.x = some y → Good E Try.prog 64 xs (o.g y) := by
  intro xs o h y hy
  unfold S_a19 at h
  split at h
  · rename_i za0_0 na0_0 fa0_0
    cases h
    exact goodv_a19 fu (⟨za0_0, na0_0, fa0_0⟩ : (Sl S_impl_Verdict)) y hy
  · cases h

/-! spec.l12Says -/
def F_spec_l12Says_B0 {ρ : Type} (fu : Nat) (list0_0 : (Sl S_impl_Verdict)) (prober1_1 : Int) (name2_2 : Int) (k0 : Int → Option ρ) (best7_3 : Int) (i8_4 : Int) (go : Int → Int → Option ρ) : Option ρ :=
  (bif (decide (i8_4 < ((list0_0.n : Nat) : Int))) then ((bif (decide (0 ≤ i8_4) && decide ((Int.toNat i8_4) < list0_0.n)) then some () else none : Option Unit).bind fun _ => (((bif ((list0_0.f (Int.toNat i8_4)).Prober == prober1_1) then
    (bif ((list0_0.f (Int.toNat i8_4)).Name == name2_2) then (bif (decide (best7_3 < 0)) then (some true) else ((bif (decide (0 ≤ best7_3) && decide ((Int.toNat best7_3) < list0_0.n)) then
    some () else none : Option Unit).bind fun _ => (some (decide ((list0_0.f (Int.toNat i8_4)).Epoch > (list0_0.f (Int.toNat best7_3)).Epoch))))) else (some false)) else (some false)) : Option Bool).bind fun m91 =>
    (bif m91 then (go i8_4 (IntKind.wrap .i64 (i8_4 + 1))) else (go best7_3 (IntKind.wrap .i64 (i8_4 + 1)))))) else (k0 best7_3))
def F_spec_l12Says (fu : Nat) (list_0 : (Sl S_impl_Verdict)) (prober_1 : Int) (name_2 : Int) : Option (Int) :=
  (L (fun w0 go0 => F_spec_l12Says_B0 fu list_0 prober_1 name_2 (fun z92 => (bif (decide (z92 < 0)) then (some 0) else ((bif (decide (0 ≤ z92) && decide ((Int.toNat z92) < list_0.n)) then
    some () else none : Option Unit).bind fun _ => (bif (list_0.f (Int.toNat z92)).Up then (some 1) else (some 2))))) w0.1 w0.2 (fun q0 q1 => go0 (q0, q1))) fu (((-1), 0) : Int × Int))
def pc_a20 (fu : Nat) : Pc RT den := ⟨pcf0, fun _ => false, fun _ => false, pcd0, pcx0⟩
def msk_a20 (b : Nat) : List Nat := match b with | 0 => [3, 4, 5, 6, 9, 10, 11, 12, 13, 14, 15, 16, 17, 18, 19, 20, 21, 22, 23, 24, 25, 26, 27, 28, 29, 30, 31, 32, 33, 34, 35, 36, 37, 38, 39, 40, 41, 42, 43, 44, 45, 46, 47, 48, 49, 50, 51] | 100000 => [1, 2, 3, 4, 5, 8, 9, 10, 11, 12, 13, 14, 15, 16, 17, 18, 19, 20, 21, 22, 23, 24, 25, 26, 27, 28, 29, 30, 31, 32, 33, 34, 35, 36, 37, 38, 39, 40, 41, 42, 43, 44, 45, 46, 47, 48, 49, 50, 51] | 200006 => [43] | _ => []
def ps_a20_0 : List (Pat RT) := [.flat (.rs .impl_Verdict), .flat (.int .i64), .flat (.int .i64), .flat .q, .flat .q, .flat .q, .flat .q, .flat (.int .i64), .flat (.int .i64), .flat .q, .flat .q, .flat .q, .flat .q, .flat .q, .flat .q, .flat .q, .flat .q, .flat .q, .flat .q, .flat .q, .flat .q, .flat .q, .flat .q, .flat .q, .flat .q, .flat .q, .flat .q, .flat .q, .flat .q, .flat .q, .flat .q, .flat .q, .flat .q, .flat .q, .flat .q, .flat .q, .flat .q, .flat .q, .flat .q, .flat .q, .flat .q, .flat .q, .flat .q, .flat .q, .flat .q, .flat .q, .flat .q, .flat .q, .flat .q, .flat .q, .flat .q, .flat .q]
def os_a20_0 : List (OP RT) := []
def conv_a20_0 (r : Raw den ps_a20_0 os_a20_0) : ((Sl S_impl_Verdict) × Int × Int) × (Int × Int) := ((r.1.1, r.1.2.1, r.1.2.2.1), (r.1.2.2.2.2.2.2.2.1, r.1.2.2.2.2.2.2.2.2.1))
def back_a20_0 (c : (Sl S_impl_Verdict) × Int × Int) (w : Int × Int) : St RT den := ⟨[(.rs c.1.z .impl_Verdict c.1.n c.1.f), (.int .i64 c.2.1), (.int .i64 c.2.2), .q, .q, .q, .q, (.int .i64 w.1), (.int .i64 w.2), .q, .q, .q, .q, .q, .q, .q, .q, .q, .q, .q, .q, .q, .q, .q, .q, .q, .q, .q, .q, .q, .q, .q, .q, .q, .q, .q, .q, .q, .q, .q, .q, .q, .q, .q, .q, .q, .q, .q, .q, .q, .q, .q], []⟩
def Bk_a20_0 {ρ : Type} (fu : Nat) (c : (Sl S_impl_Verdict) × Int × Int) (k : Ex → St RT den → Option ρ) (w : Int × Int) (go : (Int × Int) → Option ρ) : Option ρ := F_spec_l12Says_B0 fu c.1 c.2.1 c.2.2 (fun a0 => k (.exit 0) ⟨[(.rs c.1.z .impl_Verdict c.1.n c.1.f), .q, .q, .q, .q, .q, .q, (.int .i64 a0), .q, .q, .q, .q, .q, .q, .q, .q, .q, .q, .q, .q, .q, .q, .q, .q, .q, .q, .q, .q, .q, .q, .q, .q, .q, .q, .q, .q, .q, .q, .q, .q, .q, .q, .q, .q, .q, .q, .q, .q, .q, .q, .q, .q], []⟩) w.1 w.2 (fun q0 q1 => go (q0, q1))
def lp_a20 (fu : Nat) : Lp RT den (Int) := fun b s k => match b with | 0 => handle ps_a20_0 os_a20_0 conv_a20_0 (Bk_a20_0 fu) fu s k | _ => none
theorem ev_a20 (fu : Nat) (list_0 : (Sl S_impl_Verdict)) (prober_1 : Int) (name_2 : Int) : evFun E (pc_a20 fu) msk_a20 (lp_a20 fu) out_i64 128 [(.rs list_0.z .impl_Verdict list_0.n list_0.f), (.int .i64 prober_1), (.int .i64 name_2)] = F_spec_l12Says fu list_0 prober_1 name_2 := by kernel_rfl
noncomputable def body_a20 : Code := Try.f128.body.getD .skip
noncomputable def lc_a20_0 : Code := ((loops 0 body_a20).getD 0 (0, .skip)).2
theorem round_a20_0 (fu : Nat) (it : St RT den → Option (Int)) (k : Ex → St RT den → Option (Int)) c w : evCode E (pc_a20 fu) msk_a20 (lp_a20 fu) 0 lc_a20_0 (back_a20_0 c w) (after (msk_a20 0) (msk_a20 100000) 0 it k) = Bk_a20_0 fu c k w (fun w => it (back_a20_0 c w)) := by kernel_rfl
theorem lpok_a20_0 (fu : Nat) : ∀ s k r, lp_a20 fu 0 s k = some r → ∃ fuel, iter (msk_a20 0) (msk_a20 100000) s.objs.length (evCode E (pc_a20 fu) msk_a20 (lp_a20 fu) 0 lc_a20_0) fuel s k = some r :=
  handle_ok (ps := ps_a20_0) (os := os_a20_0) (conv := conv_a20_0) (B := Bk_a20_0 fu) (fu := fu) back_a20_0 (fun raw => by kernel_rfl) 0 (fun c w => by kernel_rfl) (round_a20_0 fu)
theorem lpok_a20 (fu : Nat) : LpOk E (pc_a20 fu) msk_a20 (lp_a20 fu) (loops 0 body_a20) := loop_all 1 (by kernel_rfl) fun i hi => match i, hi with
  | 0, _ => by
    have h : (loops 0 body_a20).getD 0 (0, .skip) = (0, lc_a20_0) := by kernel_rfl
    rw [h]; exact lpok_a20_0 fu
  | i + 1, hi => absurd hi (by omega)
def S_a20 (fu : Nat) (xs : List (D RT den)) : Option (Out RT den) := match xs with | [.rs za0_0 .impl_Verdict na0_0 fa0_0, .int .i64 a1_0, .int .i64 a2_0] => some ⟨Int, F_spec_l12Says fu (⟨za0_0, na0_0, fa0_0⟩ : (Sl S_impl_Verdict)) a1_0 a2_0, enc_i64, fun _ => true⟩ | _ => none
theorem goodv_a20 (fu : Nat) (list_0 : (Sl S_impl_Verdict)) (prober_1 : Int) (name_2 : Int) (y : Int) (hy : F_spec_l12Says fu list_0 prober_1 name_2 = some y) : Good E Try.prog 128 [(.rs list_0.z .impl_Verdict list_0.n list_0.f), (.int .i64 prober_1), (.int .i64 name_2)] (enc_i64 y) :=
  fun_good E_ok (pc_good (pc := pc_a20 fu) hpc0 hpx0) (fn := Try.f128) (c := body_a20) (out := out_i64) (y := y) (by kernel_rfl) (by kernel_rfl) (by kernel_rfl) (lpok_a20 fu) (fun d hd => out_i64_enc d _ hd) ((ev_a20 fu list_0 prober_1 name_2).trans hy)
theorem good_a20 (fu : Nat) : ∀ xs o, S_a20 fu xs = some o → ∀ y, o.x = some y → Good E Try.prog 128 xs (o.g y) := by
  intro xs o h y hy
  unfold S_a20 at h
  split at h
  · rename_i za0_0 na0_0 fa0_0 a1_0 a2_0
    cases h
    exact goodv_a20 fu (⟨za0_0, na0_0, fa0_0⟩ : (Sl S_impl_Verdict)) a1_0 a2_0 y hy
  · cases h

/-! spec.l12Verdict -/
def F_spec_l12Verdict_B0 {ρ : Type} (fu : Nat) (list0_0 : (Sl S_impl_Verdict)) (name1_1 : Int) (probers2_2 : Int) (k0 : Int → Int → Option ρ) (up7_3 : Int) (down8_4 : Int) (p9_5 : Int) (go : Int → Int → Int → Option ρ) : Option ρ :=
  (bif (decide (p9_5 < probers2_2)) then ((F_spec_l12Says fu list0_0 p9_5 name1_1).bind fun y88 => (bif (y88 == 1) then (go (IntKind.wrap .i64 (up7_3 + 1)) down8_4 (IntKind.wrap .i64 (p9_5 + 1))) else
    (bif (y88 == 2) then (go up7_3 (IntKind.wrap .i64 (down8_4 + 1)) (IntKind.wrap .i64 (p9_5 + 1))) else (go up7_3 down8_4 (IntKind.wrap .i64 (p9_5 + 1)))))) else (k0 up7_3 down8_4))
def F_spec_l12Verdict (fu : Nat) (list_0 : (Sl S_impl_Verdict)) (name_1 : Int) (probers_2 : Int) : Option (Int) :=
  (L (fun w0 go0 => F_spec_l12Verdict_B0 fu list_0 name_1 probers_2 (fun z89 z90 => (bif (decide ((IntKind.wrap .i64 (2 * z89)) > probers_2)) then (some 1) else (bif (decide ((IntKind.wrap .i64 (2 * z90)) > probers_2)) then
    (some 2) else (some 0)))) w0.1 w0.2.1 w0.2.2 (fun q0 q1 q2 => go0 (q0, q1, q2))) fu ((0, 0, 0) : Int × Int × Int))
def pcf_a21 (fu : Nat) (f : Nat) (xs : List (D RT den)) : Option (Out RT den) := match f with | 128 => S_a20 fu xs | _ => none
def pc_a21 (fu : Nat) : Pc RT den := ⟨pcf_a21 fu, fun _ => false, fun _ => false, pcd0, pcx0⟩
def msk_a21 (b : Nat) : List Nat := match b with | 0 => [3, 4, 5, 6, 10, 11, 12, 13, 14, 15, 16, 17, 18, 19, 20, 21, 22, 23, 24, 25, 26, 27, 28, 29, 30, 31, 32, 33, 34] | 100000 => [0, 1, 3, 4, 5, 9, 10, 11, 12, 13, 14, 15, 16, 17, 18, 19, 20, 21, 22, 23, 24, 25, 26, 27, 28, 29, 30, 31, 32, 33, 34] | _ => []
def ps_a21_0 : List (Pat RT) := [.flat (.rs .impl_Verdict), .flat (.int .i64), .flat (.int .i64), .flat .q, .flat .q, .flat .q, .flat .q, .flat (.int .i64), .flat (.int .i64), .flat (.int .i64), .flat .q, .flat .q, .flat .q, .flat .q, .flat .q, .flat .q, .flat .q, .flat .q, .flat .q, .flat .q, .flat .q, .flat .q, .flat .q, .flat .q, .flat .q, .flat .q, .flat .q, .flat .q, .flat .q, .flat .q, .flat .q, .flat .q, .flat .q, .flat .q, .flat .q]
def os_a21_0 : List (OP RT) := []
def conv_a21_0 (r : Raw den ps_a21_0 os_a21_0) : ((Sl S_impl_Verdict) × Int × Int) × (Int × Int × Int) := ((r.1.1, r.1.2.1, r.1.2.2.1), (r.1.2.2.2.2.2.2.2.1, r.1.2.2.2.2.2.2.2.2.1, r.1.2.2.2.2.2.2.2.2.2.1))
def back_a21_0 (c : (Sl S_impl_Verdict) × Int × Int) (w : Int × Int × Int) : St RT den := ⟨[(.rs c.1.z .impl_Verdict c.1.n c.1.f), (.int .i64 c.2.1), (.int .i64 c.2.2), .q, .q, .q, .q, (.int .i64 w.1), (.int .i64 w.2.1), (.int .i64 w.2.2), .q, .q, .q, .q, .q, .q, .q, .q, .q, .q, .q, .q, .q, .q, .q, .q, .q, .q, .q, .q, .q, .q, .q, .q, .q], []⟩
def Bk_a21_0 {ρ : Type} (fu : Nat) (c : (Sl S_impl_Verdict) × Int × Int) (k : Ex → St RT den → Option ρ) (w : Int × Int × Int) (go : (Int × Int × Int) → Option ρ) : Option ρ := F_spec_l12Verdict_B0 fu c.1 c.2.1 c.2.2 (fun a0 a1 => k (.exit 0) ⟨[.q, .q, (.int .i64 c.2.2), .q, .q, .q, .q, (.int .i64 a0), (.int .i64 a1), .q, .q, .q, .q, .q, .q, .q, .q, .q, .q, .q, .q, .q, .q, .q, .q, .q, .q, .q, .q, .q, .q, .q, .q, .q, .q], []⟩) w.1 w.2.1 w.2.2 (fun q0 q1 q2 => go (q0, q1, q2))
def lp_a21 (fu : Nat) : Lp RT den (Int) := fun b s k => match b with | 0 => handle ps_a21_0 os_a21_0 conv_a21_0 (Bk_a21_0 fu) fu s k | _ => none
theorem ev_a21 (fu : Nat) (list_0 : (Sl S_impl_Verdict)) (name_1 : Int) (probers_2 : Int) : evFun E (pc_a21 fu) msk_a21 (lp_a21 fu) out_i64 66 [(.rs list_0.z .impl_Verdict list_0.n list_0.f), (.int .i64 name_1), (.int .i64 probers_2)] = F_spec_l12Verdict fu list_0 name_1 probers_2 := by kernel_rfl
noncomputable def body_a21 : Code := Try.f66.body.getD .skip
noncomputable def lc_a21_0 : Code := ((loops 0 body_a21).getD 0 (0, .skip)).2
theorem round_a21_0 (fu : Nat) (it : St RT den → Option (Int)) (k : Ex → St RT den → Option (Int)) c w : evCode E (pc_a21 fu) msk_a21 (lp_a21 fu) 0 lc_a21_0 (back_a21_0 c w) (after (msk_a21 0) (msk_a21 100000) 0 it k) = Bk_a21_0 fu c k w (fun w => it (back_a21_0 c w)) := by kernel_rfl
theorem lpok_a21_0 (fu : Nat) : ∀ s k r, lp_a21 fu 0 s k = some r → ∃ fuel, iter (msk_a21 0) (msk_a21 100000) s.objs.length (evCode E (pc_a21 fu) msk_a21 (lp_a21 fu) 0 lc_a21_0) fuel s k = some r :=
  handle_ok (ps := ps_a21_0) (os := os_a21_0) (conv := conv_a21_0) (B := Bk_a21_0 fu) (fu := fu) back_a21_0 (fun raw => by kernel_rfl) 0 (fun c w => by kernel_rfl) (round_a21_0 fu)
theorem lpok_a21 (fu : Nat) : LpOk E (pc_a21 fu) msk_a21 (lp_a21 fu) (loops 0 body_a21) := loop_all 1 (by kernel_rfl) fun i hi => match i, hi with
  | 0, _ => by
    have h : (loops 0 body_a21).getD 0 (0, .skip) = (0, lc_a21_0) := by kernel_rfl
    rw [h]; exact lpok_a21_0 fu
  | i + 1, hi => absurd hi (by omega)
def S_a21 (fu : Nat) (xs : List (D RT den)) : Option (Out RT den) := match xs with | [.rs za0_0 .impl_Verdict na0_0 fa0_0, .int .i64 a1_0, .int .i64 a2_0] => some ⟨Int, F_spec_l12Verdict fu (⟨za0_0, na0_0, fa0_0⟩ : (Sl S_impl_Verdict)) a1_0 a2_0, enc_i64, fun _ => true⟩ | _ => none
theorem hpc_a21 (fu : Nat) : ∀ f xs o, pcf_a21 fu f xs = some o → ∀ y, o.x = some y → Good E Try.prog f xs (o.g y) := by
  intro f xs o h
  unfold pcf_a21 at h
  split at h
  · exact good_a20 fu xs o h
  · cases h
theorem goodv_a21 (fu : Nat) (list_0 : (Sl S_impl_Verdict)) (name_1 : Int) (probers_2 : Int) (y : Int) (hy : F_spec_l12Verdict fu list_0 name_1 probers_2 = some y) : Good E Try.prog 66 [(.rs list_0.z .impl_Verdict list_0.n list_0.f), (.int .i64 name_1), (.int .i64 probers_2)] (enc_i64 y) :=
  fun_good E_ok (pc_good (pc := pc_a21 fu) (hpc_a21 fu) hpx0) (fn := Try.f66) (c := body_a21) (out := out_i64) (y := y) (by kernel_rfl) (by kernel_rfl) (by kernel_rfl) (lpok_a21 fu) (fun d hd => out_i64_enc d _ hd) ((ev_a21 fu list_0 name_1 probers_2).trans hy)
theorem good_a21 (fu : Nat) : ∀ xs o, S_a21 fu xs = some o → ∀ y, o.x = some y → Good E Try.prog 66 xs (o.g y) := by
  intro xs o h y hy
  unfold S_a21 at h
  split at h
  · rename_i za0_0 na0_0 fa0_0 a1_0 a2_0
    cases h
    exact goodv_a21 fu (⟨za0_0, na0_0, fa0_0⟩ : (Sl S_impl_Verdict)) a1_0 a2_0 y hy
  · cases h

/-! spec.UpCmds -/
def F_spec_UpCmds_H_B0 {ρ : Type} (fu : Nat) (list1_0 : (Sl S_impl_Verdict)) (probers2_1 : Int) (o0_3 : Int) (o1_4 : Int) (o1_5 : (Sl S_impl_Backend)) (o1_6 : (Sl S_impl_Vip)) (o2_7 : Int) (k0 : Nat → Nat → (Nat → S_impl_Cmd) → Option ρ) (i10_2 : Int) (o2_8 : Nat) (on3_9 : Nat) (of3_10 : (Nat → S_impl_Cmd)) (go : Int → Nat → Nat → (Nat → S_impl_Cmd) → Option ρ) : Option ρ :=
  (bif (decide (i10_2 < ((o1_5.n : Nat) : Int))) then ((bif (decide (0 ≤ i10_2) && decide ((Int.toNat i10_2) < o1_5.n)) then some () else none : Option Unit).bind fun _ =>
    ((F_spec_l12Verdict fu list1_0 (o1_5.f (Int.toNat i10_2)).Name probers2_1).bind fun y73 => (((bif (y73 == 1) then (some (!(o1_5.f (Int.toNat i10_2)).Up)) else (some false)) : Option Bool).bind fun m74 =>
    (bif m74 then (bif (decide ((o2_8 + 1) ≤ 9223372036854775807) && decide ((o2_8 + 1) * 48 ≤ 140737488355328)) then (((bif (y73 == 2) then (some ((o1_5.f (Int.toNat i10_2)).Up)) else
    (some false)) : Option Bool).bind fun m75 => (bif m75 then (bif (decide (((o2_8 + 1) + 1) ≤ 9223372036854775807) && decide (((o2_8 + 1) + 1) * 48 ≤ 140737488355328)) then (go (IntKind.wrap .i64 (i10_2 + 1)) ((o2_8 + 1) + 1) ((o2_8 + 1) + 1) (fun i =>
    if i < (o2_8 + 1) then ((fun i => if i < o2_8 then (of3_10 i) else ((fun i => [(⟨9, (-1), (o1_5.f (Int.toNat i10_2)).Name, 0, 1, 0⟩ : S_impl_Cmd)].getD i (dflt .impl_Cmd)) (i - o2_8))) i) else
    ((fun i => [(⟨9, (-1), (o1_5.f (Int.toNat i10_2)).Name, 0, 0, 0⟩ : S_impl_Cmd)].getD i (dflt .impl_Cmd)) (i - (o2_8 + 1))))) else none) else (go (IntKind.wrap .i64 (i10_2 + 1)) (o2_8 + 1) (o2_8 + 1) (fun i =>
    if i < o2_8 then (of3_10 i) else ((fun i => [(⟨9, (-1), (o1_5.f (Int.toNat i10_2)).Name, 0, 1, 0⟩ : S_impl_Cmd)].getD i (dflt .impl_Cmd)) (i - o2_8)))))) else none) else (((bif (y73 == 2) then
    (some ((o1_5.f (Int.toNat i10_2)).Up)) else (some false)) : Option Bool).bind fun m76 => (bif m76 then (bif (decide ((o2_8 + 1) ≤ 9223372036854775807) && decide ((o2_8 + 1) * 48 ≤ 140737488355328)) then
    (go (IntKind.wrap .i64 (i10_2 + 1)) (o2_8 + 1) (o2_8 + 1) (fun i => if i < o2_8 then (of3_10 i) else ((fun i => [(⟨9, (-1), (o1_5.f (Int.toNat i10_2)).Name, 0, 0, 0⟩ : S_impl_Cmd)].getD i (dflt .impl_Cmd)) (i - o2_8)))) else
    none) else (go (IntKind.wrap .i64 (i10_2 + 1)) o2_8 on3_9 of3_10))))))) else (k0 o2_8 on3_9 of3_10))
def F_spec_UpCmds_H (fu : Nat) (c_0 : S_impl_Config) (list_1 : (Sl S_impl_Verdict)) (probers_2 : Int) : Option (S_impl_CmdsResult) :=
  ((F_spec_l5Fault fu c_0).bind fun y70 => (bif (y70 != 0) then (some (⟨y70, (⟨(some true), 0, (fun _ => dflt .impl_Cmd)⟩ : (Sl S_impl_Cmd))⟩ : S_impl_CmdsResult)) else
    ((F_spec_VerdictsFault fu list_1).bind fun y71 => (bif (y71 != 0) then (some (⟨y71, (⟨(some true), 0, (fun _ => dflt .impl_Cmd)⟩ : (Sl S_impl_Cmd))⟩ : S_impl_CmdsResult)) else
    ((F_spec_l1In fu probers_2 1 10).bind fun y72 => (bif (!y72) then (some (⟨3, (⟨(some true), 0, (fun _ => dflt .impl_Cmd)⟩ : (Sl S_impl_Cmd))⟩ : S_impl_CmdsResult)) else (L (fun w0 go0 =>
    F_spec_UpCmds_H_B0 fu list_1 probers_2 0 c_0.Version c_0.Backends c_0.Vips 0 (fun z77 z78 z79 => (some (⟨0, (⟨none, z77, z79⟩ : (Sl S_impl_Cmd))⟩ : S_impl_CmdsResult))) w0.1 w0.2.1 w0.2.2.1 w0.2.2.2 (fun q0 q1 q2 q3 =>
    go0 (q0, q1, q2, q3))) fu ((0, 0, 0, (fun _ => dflt .impl_Cmd)) : Int × Nat × Nat × (Nat → S_impl_Cmd)))))))))
def pcf_a22 (fu : Nat) (f : Nat) (xs : List (D RT den)) : Option (Out RT den) := match f with | 63 => S_a18 fu xs | 64 => S_a19 fu xs | 65 => S_a8 fu xs | 66 => S_a21 fu xs | _ => none
def pc_a22 (fu : Nat) : Pc RT den := ⟨pcf_a22 fu, fun _ => false, fun _ => false, pcd0, pcx0⟩
def msk_a22 (b : Nat) : List Nat := match b with | 0 => [0, 4, 5, 7, 8, 11, 12, 13, 14, 15, 16, 17, 18, 19, 20, 21, 22, 23, 24, 25, 26, 27, 28, 29, 30, 31, 32, 33, 34, 35, 36, 37, 38, 39, 40, 41, 42, 43, 44, 45, 46, 47, 48, 49, 50, 51, 52, 53, 54, 55, 56, 57, 58, 59, 60, 61, 62, 63, 64, 65, 66, 67, 68, 69, 70, 71, 72, 73, 74, 75] | 100000 => [0, 1, 2, 3, 4, 5, 7, 8, 10, 11, 12, 13, 14, 15, 16, 17, 18, 19, 20, 21, 22, 23, 24, 25, 26, 27, 28, 29, 30, 31, 32, 33, 34, 35, 36, 37, 38, 39, 40, 41, 42, 43, 44, 45, 46, 47, 48, 49, 50, 51, 52, 53, 54, 55, 56, 57, 58, 59, 60, 61, 62, 63, 64, 65, 66, 67, 68, 69, 70, 71, 72, 73, 74, 75] | 200015 => [52] | 200017 => [66] | 300000 => [1002001] | _ => []
def ps_a22_0 : List (Pat RT) := [.flat .q, .flat (.rs .impl_Verdict), .flat (.int .i64), .flat (.ref 1 0), .flat .q, .flat .q, .flat (.ref 0 0), .flat .q, .flat .q, .flat (.ref 2 0), .flat (.int .i64), .flat .q, .flat .q, .flat .q, .flat .q, .flat .q, .flat .q, .flat .q, .flat .q, .flat .q, .flat .q, .flat .q, .flat .q, .flat .q, .flat .q, .flat .q, .flat .q, .flat .q, .flat .q, .flat .q, .flat .q, .flat .q, .flat .q, .flat .q, .flat .q, .flat .q, .flat .q, .flat .q, .flat .q, .flat .q, .flat .q, .flat .q, .flat .q, .flat .q, .flat .q, .flat .q, .flat .q, .flat .q, .flat .q, .flat .q, .flat .q, .flat .q, .flat .q, .flat .q, .flat .q, .flat .q, .flat .q, .flat .q, .flat .q, .flat .q, .flat .q, .flat .q, .flat .q, .flat .q, .flat .q, .flat .q, .flat .q, .flat .q, .flat .q, .flat .q, .flat .q, .flat .q, .flat .q, .flat .q, .flat .q, .flat .q]
def os_a22_0 : List (OP RT) := [.box false [(.int .i64), (.emp true .impl_Cmd)], .box false [(.int .i64), (.rs .impl_Backend), (.rs .impl_Vip)], .box false [(.int .i64), (.os 3)], .row false .impl_Cmd]
def conv_a22_0 (r : Raw den ps_a22_0 os_a22_0) : ((Sl S_impl_Verdict) × Int × Int × Int × (Sl S_impl_Backend) × (Sl S_impl_Vip) × Int) × (Int × Nat × Nat × (Nat → S_impl_Cmd)) := ((r.1.2.1, r.1.2.2.1, r.2.1.1, r.2.2.1.1, r.2.2.1.2.1, r.2.2.1.2.2.1, r.2.2.2.1.1), (r.1.2.2.2.2.2.2.2.2.2.2.1, r.2.2.2.1.2.1, r.2.2.2.2.1.1, r.2.2.2.2.1.2))
def back_a22_0 (c : (Sl S_impl_Verdict) × Int × Int × Int × (Sl S_impl_Backend) × (Sl S_impl_Vip) × Int) (w : Int × Nat × Nat × (Nat → S_impl_Cmd)) : St RT den := ⟨[.q, (.rs c.1.z .impl_Verdict c.1.n c.1.f), (.int .i64 c.2.1), (.ref 1 0), .q, .q, (.ref 0 0), .q, .q, (.ref 2 0), (.int .i64 w.1), .q, .q, .q, .q, .q, .q, .q, .q, .q, .q, .q, .q, .q, .q, .q, .q, .q, .q, .q, .q, .q, .q, .q, .q, .q, .q, .q, .q, .q, .q, .q, .q, .q, .q, .q, .q, .q, .q, .q, .q, .q, .q, .q, .q, .q, .q, .q, .q, .q, .q, .q, .q, .q, .q, .q, .q, .q, .q, .q, .q, .q, .q, .q, .q, .q], [(.box false [(.int .i64 c.2.2.1), (.emp true .impl_Cmd)]), (.box false [(.int .i64 c.2.2.2.1), (.rs c.2.2.2.2.1.z .impl_Backend c.2.2.2.2.1.n c.2.2.2.2.1.f), (.rs c.2.2.2.2.2.1.z .impl_Vip c.2.2.2.2.2.1.n c.2.2.2.2.2.1.f)]), (.box false [(.int .i64 c.2.2.2.2.2.2), (.os 3 w.2.1)]), (.row false .impl_Cmd w.2.2.1 w.2.2.2)]⟩
def Bk_a22_0 {ρ : Type} (fu : Nat) (c : (Sl S_impl_Verdict) × Int × Int × Int × (Sl S_impl_Backend) × (Sl S_impl_Vip) × Int) (k : Ex → St RT den → Option ρ) (w : Int × Nat × Nat × (Nat → S_impl_Cmd)) (go : (Int × Nat × Nat × (Nat → S_impl_Cmd)) → Option ρ) : Option ρ := F_spec_UpCmds_H_B0 fu c.1 c.2.1 c.2.2.1 c.2.2.2.1 c.2.2.2.2.1 c.2.2.2.2.2.1 c.2.2.2.2.2.2 (fun a0 a1 a2 => k (.exit 0) ⟨[.q, .q, .q, .q, .q, .q, (.ref 0 0), .q, .q, (.ref 2 0), .q, .q, .q, .q, .q, .q, .q, .q, .q, .q, .q, .q, .q, .q, .q, .q, .q, .q, .q, .q, .q, .q, .q, .q, .q, .q, .q, .q, .q, .q, .q, .q, .q, .q, .q, .q, .q, .q, .q, .q, .q, .q, .q, .q, .q, .q, .q, .q, .q, .q, .q, .q, .q, .q, .q, .q, .q, .q, .q, .q, .q, .q, .q, .q, .q, .q], [(.box false [(.int .i64 c.2.2.1), (.emp true .impl_Cmd)]), (.box false [(.int .i64 c.2.2.2.1), (.rs c.2.2.2.2.1.z .impl_Backend c.2.2.2.2.1.n c.2.2.2.2.1.f), (.rs c.2.2.2.2.2.1.z .impl_Vip c.2.2.2.2.2.1.n c.2.2.2.2.2.1.f)]), (.box false [(.int .i64 c.2.2.2.2.2.2), (.os 3 a0)]), (.row false .impl_Cmd a1 a2)]⟩) w.1 w.2.1 w.2.2.1 w.2.2.2 (fun q0 q1 q2 q3 => go (q0, q1, q2, q3))
def lp_a22 (fu : Nat) : Lp RT den (S_impl_CmdsResult) := fun b s k => match b with | 0 => handle ps_a22_0 os_a22_0 conv_a22_0 (Bk_a22_0 fu) fu s k | _ => none
theorem ev_a22 (fu : Nat) (c_0 : S_impl_Config) (list_1 : (Sl S_impl_Verdict)) (probers_2 : Int) : evFunX E false (pc_a22 fu) msk_a22 (lp_a22 fu) out_impl_CmdsResult_H 18 [(.agg [(.int .i64 c_0.Version), (.rs c_0.Backends.z .impl_Backend c_0.Backends.n c_0.Backends.f), (.rs c_0.Vips.z .impl_Vip c_0.Vips.n c_0.Vips.f)]), (.rs list_1.z .impl_Verdict list_1.n list_1.f), (.int .i64 probers_2)] [] = F_spec_UpCmds_H fu c_0 list_1 probers_2 := by kernel_rfl
noncomputable def body_a22 : Code := Try.f18.body.getD .skip
noncomputable def lc_a22_0 : Code := ((loops 0 body_a22).getD 0 (0, .skip)).2
theorem round_a22_0 (fu : Nat) (it : St RT den → Option (S_impl_CmdsResult)) (k : Ex → St RT den → Option (S_impl_CmdsResult)) c w : evCode E (pc_a22 fu) msk_a22 (lp_a22 fu) 0 lc_a22_0 (back_a22_0 c w) (after (msk_a22 0) (msk_a22 100000) 4 it k) = Bk_a22_0 fu c k w (fun w => it (back_a22_0 c w)) := by kernel_rfl
theorem lpok_a22_0 (fu : Nat) : ∀ s k r, lp_a22 fu 0 s k = some r → ∃ fuel, iter (msk_a22 0) (msk_a22 100000) s.objs.length (evCode E (pc_a22 fu) msk_a22 (lp_a22 fu) 0 lc_a22_0) fuel s k = some r :=
  handle_ok (ps := ps_a22_0) (os := os_a22_0) (conv := conv_a22_0) (B := Bk_a22_0 fu) (fu := fu) back_a22_0 (fun raw => by kernel_rfl) 4 (fun c w => by kernel_rfl) (round_a22_0 fu)
theorem lpok_a22 (fu : Nat) : LpOk E (pc_a22 fu) msk_a22 (lp_a22 fu) (loops 0 body_a22) := loop_all 1 (by kernel_rfl) fun i hi => match i, hi with
  | 0, _ => by
    have h : (loops 0 body_a22).getD 0 (0, .skip) = (0, lc_a22_0) := by kernel_rfl
    rw [h]; exact lpok_a22_0 fu
  | i + 1, hi => absurd hi (by omega)
def S_a22 (fu : Nat) (xs : List (D RT den)) (ins : List (Ob RT den)) : Option (OutX RT den) := match xs, ins with | [.agg [.int .i64 a0_1, .rs za0_2 .impl_Backend na0_2 fa0_2, .rs za0_3 .impl_Vip na0_3 fa0_3], .rs za1_0 .impl_Verdict na1_0 fa1_0, .int .i64 a2_0], [] => some ⟨S_impl_CmdsResult, F_spec_UpCmds_H fu (⟨a0_1, (⟨za0_2, na0_2, fa0_2⟩ : (Sl S_impl_Backend)), (⟨za0_3, na0_3, fa0_3⟩ : (Sl S_impl_Vip))⟩ : S_impl_Config) (⟨za1_0, na1_0, fa1_0⟩ : (Sl S_impl_Verdict)) a2_0, enc_impl_CmdsResult_H⟩ | _, _ => none
theorem hpc_a22 (fu : Nat) : ∀ f xs o, pcf_a22 fu f xs = some o → ∀ y, o.x = some y → Good E Try.prog f xs (o.g y) := by
  intro f xs o h
  unfold pcf_a22 at h
  split at h
  · exact good_a18 fu xs o h
  · exact good_a19 fu xs o h
  · exact good_a8 fu xs o h
  · exact good_a21 fu xs o h
  · cases h
theorem goodv_a22 (fu : Nat) (c_0 : S_impl_Config) (list_1 : (Sl S_impl_Verdict)) (probers_2 : Int) (y : S_impl_CmdsResult) (hy : F_spec_UpCmds_H fu c_0 list_1 probers_2 = some y) : GoodX E Try.prog 18 [(.agg [(.int .i64 c_0.Version), (.rs c_0.Backends.z .impl_Backend c_0.Backends.n c_0.Backends.f), (.rs c_0.Vips.z .impl_Vip c_0.Vips.n c_0.Vips.f)]), (.rs list_1.z .impl_Verdict list_1.n list_1.f), (.int .i64 probers_2)] [] (enc_impl_CmdsResult_H y).1 (enc_impl_CmdsResult_H y).2 :=
  funX_good (ke := false) E_ok (pc_good (pc := pc_a22 fu) (hpc_a22 fu) hpx0) (fn := Try.f18) (c := body_a22) (out := out_impl_CmdsResult_H) (y := y) (by kernel_rfl) (by kernel_rfl) (by kernel_rfl) (lpok_a22 fu) (by kernel_rfl) (Nat.zero_le _) (fun d os hd => out_impl_CmdsResult_H_enc d os _ hd) ((ev_a22 fu c_0 list_1 probers_2).trans hy)
theorem good_a22 (fu : Nat) : ∀ xs ins o, S_a22 fu xs ins = some o → ∀ y, o.x = some y → GoodX E Try.prog 18 xs ins (o.g y).1 (o.g y).2 := by
  intro xs ins o h y hy
  unfold S_a22 at h
  split at h
  · rename_i a0_1 za0_2 na0_2 fa0_2 za0_3 na0_3 fa0_3 za1_0 na1_0 fa1_0 a2_0
    cases h
    exact goodv_a22 fu (⟨a0_1, (⟨za0_2, na0_2, fa0_2⟩ : (Sl S_impl_Backend)), (⟨za0_3, na0_3, fa0_3⟩ : (Sl S_impl_Vip))⟩ : S_impl_Config) (⟨za1_0, na1_0, fa1_0⟩ : (Sl S_impl_Verdict)) a2_0 y hy
  · cases h

/-! impl.in -/
def F_impl_in (fu : Nat) (n_0 : Int) (low_1 : Int) (high_2 : Int) : Option (Bool) :=
  (((bif (decide (n_0 ≥ low_1)) then (some (decide (n_0 ≤ high_2))) else (some false)) : Option Bool).bind fun m154 => (some m154))
def pc_a23 (fu : Nat) : Pc RT den := ⟨pcf0, fun _ => false, fun _ => false, pcd0, pcx0⟩
def msk_a23 (b : Nat) : List Nat := match b with | 200001 => [6] | _ => []
def lp_a23 (fu : Nat) : Lp RT den (Bool) := fun b s k => none
theorem ev_a23 (fu : Nat) (n_0 : Int) (low_1 : Int) (high_2 : Int) : evFun E (pc_a23 fu) msk_a23 (lp_a23 fu) out_bo 72 [(.int .i64 n_0), (.int .i64 low_1), (.int .i64 high_2)] = F_impl_in fu n_0 low_1 high_2 := by kernel_rfl
noncomputable def body_a23 : Code := Try.f72.body.getD .skip
theorem lpok_a23 (fu : Nat) : LpOk E (pc_a23 fu) msk_a23 (lp_a23 fu) (loops 0 body_a23) := by
  have h : loops 0 body_a23 = [] := by kernel_rfl
  rw [h]; intro p hp; cases hp
def S_a23 (fu : Nat) (xs : List (D RT den)) : Option (Out RT den) := match xs with | [.int .i64 a0_0, .int .i64 a1_0, .int .i64 a2_0] => some ⟨Bool, F_impl_in fu a0_0 a1_0 a2_0, enc_bo, fun _ => true⟩ | _ => none
theorem goodv_a23 (fu : Nat) (n_0 : Int) (low_1 : Int) (high_2 : Int) (y : Bool) (hy : F_impl_in fu n_0 low_1 high_2 = some y) : Good E Try.prog 72 [(.int .i64 n_0), (.int .i64 low_1), (.int .i64 high_2)] (enc_bo y) :=
  fun_good E_ok (pc_good (pc := pc_a23 fu) hpc0 hpx0) (fn := Try.f72) (c := body_a23) (out := out_bo) (y := y) (by kernel_rfl) (by kernel_rfl) (by kernel_rfl) (lpok_a23 fu) (fun d hd => out_bo_enc d _ hd) ((ev_a23 fu n_0 low_1 high_2).trans hy)
theorem good_a23 (fu : Nat) : ∀ xs o, S_a23 fu xs = some o → ∀ y, o.x = some y → Good E Try.prog 72 xs (o.g y) := by
  intro xs o h y hy
  unfold S_a23 at h
  split at h
  · rename_i a0_0 a1_0 a2_0
    cases h
    exact goodv_a23 fu a0_0 a1_0 a2_0 y hy
  · cases h

/-! impl.isName -/
def F_impl_isName (fu : Nat) (name_0 : Int) : Option (Bool) :=
  ((F_impl_in fu name_0 1 999).bind fun y160 => (some y160))
def pcf_a24 (fu : Nat) (f : Nat) (xs : List (D RT den)) : Option (Out RT den) := match f with | 72 => S_a23 fu xs | _ => none
def pc_a24 (fu : Nat) : Pc RT den := ⟨pcf_a24 fu, fun _ => false, fun _ => false, pcd0, pcx0⟩
def msk_a24 (b : Nat) : List Nat := []
def lp_a24 (fu : Nat) : Lp RT den (Bool) := fun b s k => none
theorem ev_a24 (fu : Nat) (name_0 : Int) : evFun E (pc_a24 fu) msk_a24 (lp_a24 fu) out_bo 136 [(.int .i64 name_0)] = F_impl_isName fu name_0 := by kernel_rfl
noncomputable def body_a24 : Code := Try.f136.body.getD .skip
theorem lpok_a24 (fu : Nat) : LpOk E (pc_a24 fu) msk_a24 (lp_a24 fu) (loops 0 body_a24) := by
  have h : loops 0 body_a24 = [] := by kernel_rfl
  rw [h]; intro p hp; cases hp
def S_a24 (fu : Nat) (xs : List (D RT den)) : Option (Out RT den) := match xs with | [.int .i64 a0_0] => some ⟨Bool, F_impl_isName fu a0_0, enc_bo, fun _ => true⟩ | _ => none
theorem hpc_a24 (fu : Nat) : ∀ f xs o, pcf_a24 fu f xs = some o → ∀ y, o.x = some y → Good E Try.prog f xs (o.g y) := by
  intro f xs o h
  unfold pcf_a24 at h
  split at h
  · exact good_a23 fu xs o h
  · cases h
theorem goodv_a24 (fu : Nat) (name_0 : Int) (y : Bool) (hy : F_impl_isName fu name_0 = some y) : Good E Try.prog 136 [(.int .i64 name_0)] (enc_bo y) :=
  fun_good E_ok (pc_good (pc := pc_a24 fu) (hpc_a24 fu) hpx0) (fn := Try.f136) (c := body_a24) (out := out_bo) (y := y) (by kernel_rfl) (by kernel_rfl) (by kernel_rfl) (lpok_a24 fu) (fun d hd => out_bo_enc d _ hd) ((ev_a24 fu name_0).trans hy)
theorem good_a24 (fu : Nat) : ∀ xs o, S_a24 fu xs = some o → ∀ y, o.x = some y → Good E Try.prog 136 xs (o.g y) := by
  intro xs o h y hy
  unfold S_a24 at h
  split at h
  · rename_i a0_0
    cases h
    exact goodv_a24 fu a0_0 y hy
  · cases h

/-! impl.isAddress -/
def F_impl_isAddress (fu : Nat) (a_0 : Int) : Option (Bool) :=
  ((F_impl_in fu a_0 0 4294967295).bind fun y161 => (some y161))
def pcf_a25 (fu : Nat) (f : Nat) (xs : List (D RT den)) : Option (Out RT den) := match f with | 72 => S_a23 fu xs | _ => none
def pc_a25 (fu : Nat) : Pc RT den := ⟨pcf_a25 fu, fun _ => false, fun _ => false, pcd0, pcx0⟩
def msk_a25 (b : Nat) : List Nat := []
def lp_a25 (fu : Nat) : Lp RT den (Bool) := fun b s k => none
theorem ev_a25 (fu : Nat) (a_0 : Int) : evFun E (pc_a25 fu) msk_a25 (lp_a25 fu) out_bo 93 [(.int .i64 a_0)] = F_impl_isAddress fu a_0 := by kernel_rfl
noncomputable def body_a25 : Code := Try.f93.body.getD .skip
theorem lpok_a25 (fu : Nat) : LpOk E (pc_a25 fu) msk_a25 (lp_a25 fu) (loops 0 body_a25) := by
  have h : loops 0 body_a25 = [] := by kernel_rfl
  rw [h]; intro p hp; cases hp
def S_a25 (fu : Nat) (xs : List (D RT den)) : Option (Out RT den) := match xs with | [.int .i64 a0_0] => some ⟨Bool, F_impl_isAddress fu a0_0, enc_bo, fun _ => true⟩ | _ => none
theorem hpc_a25 (fu : Nat) : ∀ f xs o, pcf_a25 fu f xs = some o → ∀ y, o.x = some y → Good E Try.prog f xs (o.g y) := by
  intro f xs o h
  unfold pcf_a25 at h
  split at h
  · exact good_a23 fu xs o h
  · cases h
theorem goodv_a25 (fu : Nat) (a_0 : Int) (y : Bool) (hy : F_impl_isAddress fu a_0 = some y) : Good E Try.prog 93 [(.int .i64 a_0)] (enc_bo y) :=
  fun_good E_ok (pc_good (pc := pc_a25 fu) (hpc_a25 fu) hpx0) (fn := Try.f93) (c := body_a25) (out := out_bo) (y := y) (by kernel_rfl) (by kernel_rfl) (by kernel_rfl) (lpok_a25 fu) (fun d hd => out_bo_enc d _ hd) ((ev_a25 fu a_0).trans hy)
theorem good_a25 (fu : Nat) : ∀ xs o, S_a25 fu xs = some o → ∀ y, o.x = some y → Good E Try.prog 93 xs (o.g y) := by
  intro xs o h y hy
  unfold S_a25 at h
  split at h
  · rename_i a0_0
    cases h
    exact goodv_a25 fu a0_0 y hy
  · cases h

/-! impl.isBackend -/
def F_impl_isBackend (fu : Nat) (b_0 : S_impl_Backend) : Option (Bool) :=
  ((((F_impl_isName fu b_0.Name).bind fun y155 => (bif y155 then ((F_impl_isAddress fu b_0.Address).bind fun y156 => (bif y156 then ((F_impl_in fu b_0.Weight 0 9).bind fun y157 =>
    (bif y157 then ((F_impl_in fu b_0.Stage 1 3).bind fun y158 => (some y158)) else (some false))) else (some false))) else (some false))) : Option Bool).bind fun m159 => (some m159))
def pcf_a26 (fu : Nat) (f : Nat) (xs : List (D RT den)) : Option (Out RT den) := match f with | 72 => S_a23 fu xs | 93 => S_a25 fu xs | 136 => S_a24 fu xs | _ => none
def pc_a26 (fu : Nat) : Pc RT den := ⟨pcf_a26 fu, fun _ => false, fun _ => false, pcd0, pcx0⟩
def msk_a26 (b : Nat) : List Nat := match b with | 200001 => [2] | _ => []
def lp_a26 (fu : Nat) : Lp RT den (Bool) := fun b s k => none
theorem ev_a26 (fu : Nat) (b_0 : S_impl_Backend) : evFun E (pc_a26 fu) msk_a26 (lp_a26 fu) out_bo 131 [(.agg [(.int .i64 b_0.Name), (.int .i64 b_0.Address), (.int .i64 b_0.Weight), (.int .i64 b_0.Stage), (.bool b_0.Up)])] = F_impl_isBackend fu b_0 := by kernel_rfl
noncomputable def body_a26 : Code := Try.f131.body.getD .skip
theorem lpok_a26 (fu : Nat) : LpOk E (pc_a26 fu) msk_a26 (lp_a26 fu) (loops 0 body_a26) := by
  have h : loops 0 body_a26 = [] := by kernel_rfl
  rw [h]; intro p hp; cases hp
def S_a26 (fu : Nat) (xs : List (D RT den)) : Option (Out RT den) := match xs with | [.agg [.int .i64 a0_1, .int .i64 a0_2, .int .i64 a0_3, .int .i64 a0_4, .bool a0_5]] => some ⟨Bool, F_impl_isBackend fu (⟨a0_1, a0_2, a0_3, a0_4, a0_5⟩ : S_impl_Backend), enc_bo, fun _ => true⟩ | _ => none
theorem hpc_a26 (fu : Nat) : ∀ f xs o, pcf_a26 fu f xs = some o → ∀ y, o.x = some y → Good E Try.prog f xs (o.g y) := by
  intro f xs o h
  unfold pcf_a26 at h
  split at h
  · exact good_a23 fu xs o h
  · exact good_a25 fu xs o h
  · exact good_a24 fu xs o h
  · cases h
theorem goodv_a26 (fu : Nat) (b_0 : S_impl_Backend) (y : Bool) (hy : F_impl_isBackend fu b_0 = some y) : Good E Try.prog 131 [(.agg [(.int .i64 b_0.Name), (.int .i64 b_0.Address), (.int .i64 b_0.Weight), (.int .i64 b_0.Stage), (.bool b_0.Up)])] (enc_bo y) :=
  fun_good E_ok (pc_good (pc := pc_a26 fu) (hpc_a26 fu) hpx0) (fn := Try.f131) (c := body_a26) (out := out_bo) (y := y) (by kernel_rfl) (by kernel_rfl) (by kernel_rfl) (lpok_a26 fu) (fun d hd => out_bo_enc d _ hd) ((ev_a26 fu b_0).trans hy)
theorem good_a26 (fu : Nat) : ∀ xs o, S_a26 fu xs = some o → ∀ y, o.x = some y → Good E Try.prog 131 xs (o.g y) := by
  intro xs o h y hy
  unfold S_a26 at h
  split at h
  · rename_i a0_1 a0_2 a0_3 a0_4 a0_5
    cases h
    exact goodv_a26 fu (⟨a0_1, a0_2, a0_3, a0_4, a0_5⟩ : S_impl_Backend) y hy
  · cases h

/-! impl.isPort -/
def F_impl_isPort (fu : Nat) (n_0 : Int) : Option (Bool) :=
  ((F_impl_in fu n_0 0 65535).bind fun y162 => (some y162))
def pcf_a27 (fu : Nat) (f : Nat) (xs : List (D RT den)) : Option (Out RT den) := match f with | 72 => S_a23 fu xs | _ => none
def pc_a27 (fu : Nat) : Pc RT den := ⟨pcf_a27 fu, fun _ => false, fun _ => false, pcd0, pcx0⟩
def msk_a27 (b : Nat) : List Nat := []
def lp_a27 (fu : Nat) : Lp RT den (Bool) := fun b s k => none
theorem ev_a27 (fu : Nat) (n_0 : Int) : evFun E (pc_a27 fu) msk_a27 (lp_a27 fu) out_bo 132 [(.int .i64 n_0)] = F_impl_isPort fu n_0 := by kernel_rfl
noncomputable def body_a27 : Code := Try.f132.body.getD .skip
theorem lpok_a27 (fu : Nat) : LpOk E (pc_a27 fu) msk_a27 (lp_a27 fu) (loops 0 body_a27) := by
  have h : loops 0 body_a27 = [] := by kernel_rfl
  rw [h]; intro p hp; cases hp
def S_a27 (fu : Nat) (xs : List (D RT den)) : Option (Out RT den) := match xs with | [.int .i64 a0_0] => some ⟨Bool, F_impl_isPort fu a0_0, enc_bo, fun _ => true⟩ | _ => none
theorem hpc_a27 (fu : Nat) : ∀ f xs o, pcf_a27 fu f xs = some o → ∀ y, o.x = some y → Good E Try.prog f xs (o.g y) := by
  intro f xs o h
  unfold pcf_a27 at h
  split at h
  · exact good_a23 fu xs o h
  · cases h
theorem goodv_a27 (fu : Nat) (n_0 : Int) (y : Bool) (hy : F_impl_isPort fu n_0 = some y) : Good E Try.prog 132 [(.int .i64 n_0)] (enc_bo y) :=
  fun_good E_ok (pc_good (pc := pc_a27 fu) (hpc_a27 fu) hpx0) (fn := Try.f132) (c := body_a27) (out := out_bo) (y := y) (by kernel_rfl) (by kernel_rfl) (by kernel_rfl) (lpok_a27 fu) (fun d hd => out_bo_enc d _ hd) ((ev_a27 fu n_0).trans hy)
theorem good_a27 (fu : Nat) : ∀ xs o, S_a27 fu xs = some o → ∀ y, o.x = some y → Good E Try.prog 132 xs (o.g y) := by
  intro xs o h y hy
  unfold S_a27 at h
  split at h
  · rename_i a0_0
    cases h
    exact goodv_a27 fu a0_0 y hy
  · cases h

/-! impl.isProto -/
def F_impl_isProto (fu : Nat) (n_0 : Int) : Option (Bool) :=
  (((bif (n_0 == 6) then (some true) else (some (n_0 == 17))) : Option Bool).bind fun m163 => (some m163))
def pc_a28 (fu : Nat) : Pc RT den := ⟨pcf0, fun _ => false, fun _ => false, pcd0, pcx0⟩
def msk_a28 (b : Nat) : List Nat := match b with | 200001 => [2] | _ => []
def lp_a28 (fu : Nat) : Lp RT den (Bool) := fun b s k => none
theorem ev_a28 (fu : Nat) (n_0 : Int) : evFun E (pc_a28 fu) msk_a28 (lp_a28 fu) out_bo 133 [(.int .i64 n_0)] = F_impl_isProto fu n_0 := by kernel_rfl
noncomputable def body_a28 : Code := Try.f133.body.getD .skip
theorem lpok_a28 (fu : Nat) : LpOk E (pc_a28 fu) msk_a28 (lp_a28 fu) (loops 0 body_a28) := by
  have h : loops 0 body_a28 = [] := by kernel_rfl
  rw [h]; intro p hp; cases hp
def S_a28 (fu : Nat) (xs : List (D RT den)) : Option (Out RT den) := match xs with | [.int .i64 a0_0] => some ⟨Bool, F_impl_isProto fu a0_0, enc_bo, fun _ => true⟩ | _ => none
theorem goodv_a28 (fu : Nat) (n_0 : Int) (y : Bool) (hy : F_impl_isProto fu n_0 = some y) : Good E Try.prog 133 [(.int .i64 n_0)] (enc_bo y) :=
  fun_good E_ok (pc_good (pc := pc_a28 fu) hpc0 hpx0) (fn := Try.f133) (c := body_a28) (out := out_bo) (y := y) (by kernel_rfl) (by kernel_rfl) (by kernel_rfl) (lpok_a28 fu) (fun d hd => out_bo_enc d _ hd) ((ev_a28 fu n_0).trans hy)
theorem good_a28 (fu : Nat) : ∀ xs o, S_a28 fu xs = some o → ∀ y, o.x = some y → Good E Try.prog 133 xs (o.g y) := by
  intro xs o h y hy
  unfold S_a28 at h
  split at h
  · rename_i a0_0
    cases h
    exact goodv_a28 fu a0_0 y hy
  · cases h

/-! cmp.isNaN[int64] -/
def F_cmp_isNaN_int64 (fu : Nat) (x_0 : Int) : Option (Bool) :=
  (some (x_0 != x_0))
def pc_a29 (fu : Nat) : Pc RT den := ⟨pcf0, fun _ => false, fun _ => false, pcd0, pcx0⟩
def msk_a29 (b : Nat) : List Nat := []
def lp_a29 (fu : Nat) : Lp RT den (Bool) := fun b s k => none
theorem ev_a29 (fu : Nat) (x_0 : Int) : evFun E (pc_a29 fu) msk_a29 (lp_a29 fu) out_bo 199 [(.int .i64 x_0)] = F_cmp_isNaN_int64 fu x_0 := by kernel_rfl
noncomputable def body_a29 : Code := Try.f199.body.getD .skip
theorem lpok_a29 (fu : Nat) : LpOk E (pc_a29 fu) msk_a29 (lp_a29 fu) (loops 0 body_a29) := by
  have h : loops 0 body_a29 = [] := by kernel_rfl
  rw [h]; intro p hp; cases hp
def S_a29 (fu : Nat) (xs : List (D RT den)) : Option (Out RT den) := match xs with | [.int .i64 a0_0] => some ⟨Bool, F_cmp_isNaN_int64 fu a0_0, enc_bo, fun _ => true⟩ | _ => none
theorem goodv_a29 (fu : Nat) (x_0 : Int) (y : Bool) (hy : F_cmp_isNaN_int64 fu x_0 = some y) : Good E Try.prog 199 [(.int .i64 x_0)] (enc_bo y) :=
  fun_good E_ok (pc_good (pc := pc_a29 fu) hpc0 hpx0) (fn := Try.f199) (c := body_a29) (out := out_bo) (y := y) (by kernel_rfl) (by kernel_rfl) (by kernel_rfl) (lpok_a29 fu) (fun d hd => out_bo_enc d _ hd) ((ev_a29 fu x_0).trans hy)
theorem good_a29 (fu : Nat) : ∀ xs o, S_a29 fu xs = some o → ∀ y, o.x = some y → Good E Try.prog 199 xs (o.g y) := by
  intro xs o h y hy
  unfold S_a29 at h
  split at h
  · rename_i a0_0
    cases h
    exact goodv_a29 fu a0_0 y hy
  · cases h

/-! cmp.Compare[int64] -/
def F_cmp_Compare_int64 (fu : Nat) (x_0 : Int) (y_1 : Int) : Option (Int) :=
  ((F_cmp_isNaN_int64 fu x_0).bind fun y168 => ((F_cmp_isNaN_int64 fu y_1).bind fun y169 => (bif y168 then (bif y169 then (some 0) else (some (-1))) else (bif y169 then (some 1) else
    (bif (decide (x_0 < y_1)) then (some (-1)) else (bif (decide (x_0 > y_1)) then (some 1) else (some 0)))))))
def pcf_a30 (fu : Nat) (f : Nat) (xs : List (D RT den)) : Option (Out RT den) := match f with | 199 => S_a29 fu xs | _ => none
def pc_a30 (fu : Nat) : Pc RT den := ⟨pcf_a30 fu, fun _ => false, fun _ => false, pcd0, pcx0⟩
def msk_a30 (b : Nat) : List Nat := []
def lp_a30 (fu : Nat) : Lp RT den (Int) := fun b s k => none
theorem ev_a30 (fu : Nat) (x_0 : Int) (y_1 : Int) : evFun E (pc_a30 fu) msk_a30 (lp_a30 fu) out_i64 180 [(.int .i64 x_0), (.int .i64 y_1)] = F_cmp_Compare_int64 fu x_0 y_1 := by kernel_rfl
noncomputable def body_a30 : Code := Try.f180.body.getD .skip
theorem lpok_a30 (fu : Nat) : LpOk E (pc_a30 fu) msk_a30 (lp_a30 fu) (loops 0 body_a30) := by
  have h : loops 0 body_a30 = [] := by kernel_rfl
  rw [h]; intro p hp; cases hp
def S_a30 (fu : Nat) (xs : List (D RT den)) : Option (Out RT den) := match xs with | [.int .i64 a0_0, .int .i64 a1_0] => some ⟨Int, F_cmp_Compare_int64 fu a0_0 a1_0, enc_i64, fun _ => true⟩ | _ => none
theorem hpc_a30 (fu : Nat) : ∀ f xs o, pcf_a30 fu f xs = some o → ∀ y, o.x = some y → Good E Try.prog f xs (o.g y) := by
  intro f xs o h
  unfold pcf_a30 at h
  split at h
  · exact good_a29 fu xs o h
  · cases h
theorem goodv_a30 (fu : Nat) (x_0 : Int) (y_1 : Int) (y : Int) (hy : F_cmp_Compare_int64 fu x_0 y_1 = some y) : Good E Try.prog 180 [(.int .i64 x_0), (.int .i64 y_1)] (enc_i64 y) :=
  fun_good E_ok (pc_good (pc := pc_a30 fu) (hpc_a30 fu) hpx0) (fn := Try.f180) (c := body_a30) (out := out_i64) (y := y) (by kernel_rfl) (by kernel_rfl) (by kernel_rfl) (lpok_a30 fu) (fun d hd => out_i64_enc d _ hd) ((ev_a30 fu x_0 y_1).trans hy)
theorem good_a30 (fu : Nat) : ∀ xs o, S_a30 fu xs = some o → ∀ y, o.x = some y → Good E Try.prog 180 xs (o.g y) := by
  intro xs o h y hy
  unfold S_a30 at h
  split at h
  · rename_i a0_0 a1_0
    cases h
    exact goodv_a30 fu a0_0 a1_0 y hy
  · cases h

/-! cmp.Or[int] -/
def F_cmp_Or_int_B0 {ρ : Type} (fu : Nat) (zero3_0 : Int) (t6_1 : (Sl Int)) (t7_2 : Int) (k0 : Int → Option ρ) (k1 : Option ρ) (t8_3 : Int) (go : Int → Option ρ) : Option ρ :=
  (bif (decide (t8_3 < t7_2)) then ((bif (decide (0 ≤ t8_3) && decide ((Int.toNat t8_3) < t6_1.n)) then some () else none : Option Unit).bind fun _ => (bif ((t6_1.f (Int.toNat t8_3)) != zero3_0) then
    (k0 (t6_1.f (Int.toNat t8_3))) else (go (IntKind.wrap .i64 (t8_3 + 1))))) else k1)
def F_cmp_Or_int (fu : Nat) (vals_0 : (Sl Int)) : Option (Int) :=
  (L (fun w0 go0 => F_cmp_Or_int_B0 fu 0 vals_0 ((vals_0.n : Nat) : Int) (fun z170 => (some z170)) (some 0) w0 go0) fu (0 : Int))
def pc_a31 (fu : Nat) : Pc RT den := ⟨pcf0, fun _ => false, fun _ => false, pcd0, pcx0⟩
def msk_a31 (b : Nat) : List Nat := match b with | 0 => [0, 1, 2, 4, 5, 9, 10, 11, 12, 13, 14, 15, 16, 17] | 100000 => [0, 1, 4, 5, 6, 7, 8, 9, 10, 11, 12, 13, 14, 15, 16, 17] | _ => []
def ps_a31_0 : List (Pat RT) := [.flat .q, .flat .q, .flat .q, .flat (.int .i64), .flat .q, .flat .q, .flat (.rs .i64), .flat (.int .i64), .flat (.int .i64), .flat .q, .flat .q, .flat .q, .flat .q, .flat .q, .flat .q, .flat .q, .flat .q, .flat .q]
def os_a31_0 : List (OP RT) := []
def conv_a31_0 (r : Raw den ps_a31_0 os_a31_0) : (Int × (Sl Int) × Int) × (Int) := ((r.1.2.2.2.1, r.1.2.2.2.2.2.2.1, r.1.2.2.2.2.2.2.2.1), r.1.2.2.2.2.2.2.2.2.1)
def back_a31_0 (c : Int × (Sl Int) × Int) (w : Int) : St RT den := ⟨[.q, .q, .q, (.int .i64 c.1), .q, .q, (.rs c.2.1.z .i64 c.2.1.n c.2.1.f), (.int .i64 c.2.2), (.int .i64 w), .q, .q, .q, .q, .q, .q, .q, .q, .q], []⟩
def Bk_a31_0 {ρ : Type} (fu : Nat) (c : Int × (Sl Int) × Int) (k : Ex → St RT den → Option ρ) (w : Int) (go : (Int) → Option ρ) : Option ρ := F_cmp_Or_int_B0 fu c.1 c.2.1 c.2.2 (fun a0 => k .ret ⟨[.q, .q, (.int .i64 a0), (.int .i64 c.1), .q, .q, .q, .q, .q, .q, .q, .q, .q, .q, .q, .q, .q, .q], []⟩) (k (.exit 0) ⟨[.q, .q, .q, (.int .i64 c.1), .q, .q, .q, .q, .q, .q, .q, .q, .q, .q, .q, .q, .q, .q], []⟩) w go
def lp_a31 (fu : Nat) : Lp RT den (Int) := fun b s k => match b with | 0 => handle ps_a31_0 os_a31_0 conv_a31_0 (Bk_a31_0 fu) fu s k | _ => none
theorem ev_a31 (fu : Nat) (vals_0 : (Sl Int)) : evFun E (pc_a31 fu) msk_a31 (lp_a31 fu) out_i64 179 [(.rs vals_0.z .i64 vals_0.n vals_0.f)] = F_cmp_Or_int fu vals_0 := by kernel_rfl
noncomputable def body_a31 : Code := Try.f179.body.getD .skip
noncomputable def lc_a31_0 : Code := ((loops 0 body_a31).getD 0 (0, .skip)).2
theorem round_a31_0 (fu : Nat) (it : St RT den → Option (Int)) (k : Ex → St RT den → Option (Int)) c w : evCode E (pc_a31 fu) msk_a31 (lp_a31 fu) 0 lc_a31_0 (back_a31_0 c w) (after (msk_a31 0) (msk_a31 100000) 0 it k) = Bk_a31_0 fu c k w (fun w => it (back_a31_0 c w)) := by kernel_rfl
theorem lpok_a31_0 (fu : Nat) : ∀ s k r, lp_a31 fu 0 s k = some r → ∃ fuel, iter (msk_a31 0) (msk_a31 100000) s.objs.length (evCode E (pc_a31 fu) msk_a31 (lp_a31 fu) 0 lc_a31_0) fuel s k = some r :=
  handle_ok (ps := ps_a31_0) (os := os_a31_0) (conv := conv_a31_0) (B := Bk_a31_0 fu) (fu := fu) back_a31_0 (fun raw => by kernel_rfl) 0 (fun c w => by kernel_rfl) (round_a31_0 fu)
theorem lpok_a31 (fu : Nat) : LpOk E (pc_a31 fu) msk_a31 (lp_a31 fu) (loops 0 body_a31) := loop_all 1 (by kernel_rfl) fun i hi => match i, hi with
  | 0, _ => by
    have h : (loops 0 body_a31).getD 0 (0, .skip) = (0, lc_a31_0) := by kernel_rfl
    rw [h]; exact lpok_a31_0 fu
  | i + 1, hi => absurd hi (by omega)
def S_a31 (fu : Nat) (xs : List (D RT den)) : Option (Out RT den) := match xs with | [.rs za0_0 .i64 na0_0 fa0_0] => some ⟨Int, F_cmp_Or_int fu (⟨za0_0, na0_0, fa0_0⟩ : (Sl Int)), enc_i64, fun _ => true⟩ | _ => none
theorem goodv_a31 (fu : Nat) (vals_0 : (Sl Int)) (y : Int) (hy : F_cmp_Or_int fu vals_0 = some y) : Good E Try.prog 179 [(.rs vals_0.z .i64 vals_0.n vals_0.f)] (enc_i64 y) :=
  fun_good E_ok (pc_good (pc := pc_a31 fu) hpc0 hpx0) (fn := Try.f179) (c := body_a31) (out := out_i64) (y := y) (by kernel_rfl) (by kernel_rfl) (by kernel_rfl) (lpok_a31 fu) (fun d hd => out_i64_enc d _ hd) ((ev_a31 fu vals_0).trans hy)
theorem good_a31 (fu : Nat) : ∀ xs o, S_a31 fu xs = some o → ∀ y, o.x = some y → Good E Try.prog 179 xs (o.g y) := by
  intro xs o h y hy
  unfold S_a31 at h
  split at h
  · rename_i za0_0 na0_0 fa0_0
    cases h
    exact goodv_a31 fu (⟨za0_0, na0_0, fa0_0⟩ : (Sl Int)) y hy
  · cases h

/-! impl.compareVip -/
def F_impl_compareVip (fu : Nat) (a_0 : S_impl_Vip) (b_1 : S_impl_Vip) : Option (Int) :=
  ((F_cmp_Compare_int64 fu a_0.Address b_1.Address).bind fun y164 => ((F_cmp_Compare_int64 fu a_0.Port b_1.Port).bind fun y165 => ((F_cmp_Compare_int64 fu a_0.Proto b_1.Proto).bind fun y166 =>
    ((F_cmp_Or_int fu (⟨(some false), 3, (fun i => [y164, y165, y166].getD i (dflt .i64))⟩ : (Sl Int))).bind fun y167 => (some y167)))))
def pcf_a32 (fu : Nat) (f : Nat) (xs : List (D RT den)) : Option (Out RT den) := match f with | 179 => S_a31 fu xs | 180 => S_a30 fu xs | _ => none
def pc_a32 (fu : Nat) : Pc RT den := ⟨pcf_a32 fu, fun _ => false, fun _ => false, pcd0, pcx0⟩
def msk_a32 (b : Nat) : List Nat := []
def lp_a32 (fu : Nat) : Lp RT den (Int) := fun b s k => none
theorem ev_a32 (fu : Nat) (a_0 : S_impl_Vip) (b_1 : S_impl_Vip) : evFun E (pc_a32 fu) msk_a32 (lp_a32 fu) out_i64 134 [(.agg [(.int .i64 a_0.Address), (.int .i64 a_0.Port), (.int .i64 a_0.Proto), (.rs a_0.Names.z .i64 a_0.Names.n a_0.Names.f)]), (.agg [(.int .i64 b_1.Address), (.int .i64 b_1.Port), (.int .i64 b_1.Proto), (.rs b_1.Names.z .i64 b_1.Names.n b_1.Names.f)])] = F_impl_compareVip fu a_0 b_1 := by kernel_rfl
noncomputable def body_a32 : Code := Try.f134.body.getD .skip
theorem lpok_a32 (fu : Nat) : LpOk E (pc_a32 fu) msk_a32 (lp_a32 fu) (loops 0 body_a32) := by
  have h : loops 0 body_a32 = [] := by kernel_rfl
  rw [h]; intro p hp; cases hp
def S_a32 (fu : Nat) (xs : List (D RT den)) : Option (Out RT den) := match xs with | [.agg [.int .i64 a0_1, .int .i64 a0_2, .int .i64 a0_3, .rs za0_4 .i64 na0_4 fa0_4], .agg [.int .i64 a1_1, .int .i64 a1_2, .int .i64 a1_3, .rs za1_4 .i64 na1_4 fa1_4]] => some ⟨Int, F_impl_compareVip fu (⟨a0_1, a0_2, a0_3, (⟨za0_4, na0_4, fa0_4⟩ : (Sl Int))⟩ : S_impl_Vip) (⟨a1_1, a1_2, a1_3, (⟨za1_4, na1_4, fa1_4⟩ : (Sl Int))⟩ : S_impl_Vip), enc_i64, fun _ => true⟩ | _ => none
theorem hpc_a32 (fu : Nat) : ∀ f xs o, pcf_a32 fu f xs = some o → ∀ y, o.x = some y → Good E Try.prog f xs (o.g y) := by
  intro f xs o h
  unfold pcf_a32 at h
  split at h
  · exact good_a31 fu xs o h
  · exact good_a30 fu xs o h
  · cases h
theorem goodv_a32 (fu : Nat) (a_0 : S_impl_Vip) (b_1 : S_impl_Vip) (y : Int) (hy : F_impl_compareVip fu a_0 b_1 = some y) : Good E Try.prog 134 [(.agg [(.int .i64 a_0.Address), (.int .i64 a_0.Port), (.int .i64 a_0.Proto), (.rs a_0.Names.z .i64 a_0.Names.n a_0.Names.f)]), (.agg [(.int .i64 b_1.Address), (.int .i64 b_1.Port), (.int .i64 b_1.Proto), (.rs b_1.Names.z .i64 b_1.Names.n b_1.Names.f)])] (enc_i64 y) :=
  fun_good E_ok (pc_good (pc := pc_a32 fu) (hpc_a32 fu) hpx0) (fn := Try.f134) (c := body_a32) (out := out_i64) (y := y) (by kernel_rfl) (by kernel_rfl) (by kernel_rfl) (lpok_a32 fu) (fun d hd => out_i64_enc d _ hd) ((ev_a32 fu a_0 b_1).trans hy)
theorem good_a32 (fu : Nat) : ∀ xs o, S_a32 fu xs = some o → ∀ y, o.x = some y → Good E Try.prog 134 xs (o.g y) := by
  intro xs o h y hy
  unfold S_a32 at h
  split at h
  · rename_i a0_1 a0_2 a0_3 za0_4 na0_4 fa0_4 a1_1 a1_2 a1_3 za1_4 na1_4 fa1_4
    cases h
    exact goodv_a32 fu (⟨a0_1, a0_2, a0_3, (⟨za0_4, na0_4, fa0_4⟩ : (Sl Int))⟩ : S_impl_Vip) (⟨a1_1, a1_2, a1_3, (⟨za1_4, na1_4, fa1_4⟩ : (Sl Int))⟩ : S_impl_Vip) y hy
  · cases h

/-! (*impl.Config).backend'1 -/
def F_impl_Config_backend_c1 (fu : Nat) (b_0 : S_impl_Backend) (x_1_1 : Int) : Option (Bool) :=
  (some (b_0.Name == x_1_1))
def pc_a33 (fu : Nat) : Pc RT den := ⟨pcf0, fun _ => false, fun _ => false, pcd0, pcx0⟩
def msk_a33 (b : Nat) : List Nat := []
def lp_a33 (fu : Nat) : Lp RT den (Bool) := fun b s k => none
theorem ev_a33 (fu : Nat) (b_0 : S_impl_Backend) (x_1_1 : Int) : evFun E (pc_a33 fu) msk_a33 (lp_a33 fu) out_bo 155 [(.agg [(.int .i64 b_0.Name), (.int .i64 b_0.Address), (.int .i64 b_0.Weight), (.int .i64 b_0.Stage), (.bool b_0.Up)]), (.rptr [(.int .i64 x_1_1)])] = F_impl_Config_backend_c1 fu b_0 x_1_1 := by kernel_rfl
noncomputable def body_a33 : Code := Try.f155.body.getD .skip
theorem lpok_a33 (fu : Nat) : LpOk E (pc_a33 fu) msk_a33 (lp_a33 fu) (loops 0 body_a33) := by
  have h : loops 0 body_a33 = [] := by kernel_rfl
  rw [h]; intro p hp; cases hp
def S_a33 (fu : Nat) (xs : List (D RT den)) : Option (Out RT den) := match xs with | [.agg [.int .i64 a0_1, .int .i64 a0_2, .int .i64 a0_3, .int .i64 a0_4, .bool a0_5], .rptr [.int .i64 a1_0]] => some ⟨Bool, F_impl_Config_backend_c1 fu (⟨a0_1, a0_2, a0_3, a0_4, a0_5⟩ : S_impl_Backend) a1_0, enc_bo, fun _ => true⟩ | _ => none
theorem goodv_a33 (fu : Nat) (b_0 : S_impl_Backend) (x_1_1 : Int) (y : Bool) (hy : F_impl_Config_backend_c1 fu b_0 x_1_1 = some y) : Good E Try.prog 155 [(.agg [(.int .i64 b_0.Name), (.int .i64 b_0.Address), (.int .i64 b_0.Weight), (.int .i64 b_0.Stage), (.bool b_0.Up)]), (.rptr [(.int .i64 x_1_1)])] (enc_bo y) :=
  fun_good E_ok (pc_good (pc := pc_a33 fu) hpc0 hpx0) (fn := Try.f155) (c := body_a33) (out := out_bo) (y := y) (by kernel_rfl) (by kernel_rfl) (by kernel_rfl) (lpok_a33 fu) (fun d hd => out_bo_enc d _ hd) ((ev_a33 fu b_0 x_1_1).trans hy)
theorem good_a33 (fu : Nat) : ∀ xs o, S_a33 fu xs = some o → ∀ y, o.x = some y → Good E Try.prog 155 xs (o.g y) := by
  intro xs o h y hy
  unfold S_a33 at h
  split at h
  · rename_i a0_1 a0_2 a0_3 a0_4 a0_5 a1_0
    cases h
    exact goodv_a33 fu (⟨a0_1, a0_2, a0_3, a0_4, a0_5⟩ : S_impl_Backend) a1_0 y hy
  · cases h

/-! slices.IndexFunc[[]impl.Backend,impl.Backend] -/
def F_slices_IndexFunc_impl_Backend_impl_Backend_w_impl_Config_backend_c1_B0 {ρ : Type} (fu : Nat) (s0_0 : (Sl S_impl_Backend)) (f1_1 : Int) (t7_2 : Int) (k0 : Int → Option ρ) (k1 : Option ρ) (t8_3 : Int) (go : Int → Option ρ) : Option ρ :=
  (bif (decide (t8_3 < t7_2)) then ((bif (decide (0 ≤ t8_3) && decide ((Int.toNat t8_3) < s0_0.n)) then some () else none : Option Unit).bind fun _ => ((F_impl_Config_backend_c1 fu (s0_0.f (Int.toNat t8_3)) f1_1).bind fun y176 =>
    (bif y176 then (k0 t8_3) else (go (IntKind.wrap .i64 (t8_3 + 1)))))) else k1)
def F_slices_IndexFunc_impl_Backend_impl_Backend_w_impl_Config_backend_c1 (fu : Nat) (s_0 : (Sl S_impl_Backend)) (f_1_1 : Int) : Option (Int) :=
  (L (fun w0 go0 => F_slices_IndexFunc_impl_Backend_impl_Backend_w_impl_Config_backend_c1_B0 fu s_0 f_1_1 ((s_0.n : Nat) : Int) (fun z177 => (some z177)) (some (-1)) w0 go0) fu (0 : Int))
def pcf_a34 (fu : Nat) (f : Nat) (xs : List (D RT den)) : Option (Out RT den) := match f with | 155 => S_a33 fu xs | _ => none
def pc_a34 (fu : Nat) : Pc RT den := ⟨pcf_a34 fu, fun _ => false, fun _ => false, pcd0, pcx0⟩
def msk_a34 (b : Nat) : List Nat := match b with | 0 => [2, 3, 4, 5, 6, 9, 10, 11, 12, 13, 14, 15, 16, 17, 18] | 100000 => [0, 1, 2, 3, 5, 6, 7, 8, 9, 10, 11, 12, 13, 14, 15, 16, 17, 18] | _ => []
def ps_a34_0 : List (Pat RT) := [.flat (.rs .impl_Backend), .fn 155 [.rptr [(.int .i64)]], .flat .q, .flat .q, .flat .q, .flat .q, .flat .q, .flat (.int .i64), .flat (.int .i64), .flat .q, .flat .q, .flat .q, .flat .q, .flat .q, .flat .q, .flat .q, .flat .q, .flat .q, .flat .q]
def os_a34_0 : List (OP RT) := []
def conv_a34_0 (r : Raw den ps_a34_0 os_a34_0) : ((Sl S_impl_Backend) × Int × Int) × (Int) := ((r.1.1, r.1.2.1.1.1, r.1.2.2.2.2.2.2.2.1), r.1.2.2.2.2.2.2.2.2.1)
def back_a34_0 (c : (Sl S_impl_Backend) × Int × Int) (w : Int) : St RT den := ⟨[(.rs c.1.z .impl_Backend c.1.n c.1.f), (.fn 155 [(.rptr [(.int .i64 c.2.1)])]), .q, .q, .q, .q, .q, (.int .i64 c.2.2), (.int .i64 w), .q, .q, .q, .q, .q, .q, .q, .q, .q, .q], []⟩
def Bk_a34_0 {ρ : Type} (fu : Nat) (c : (Sl S_impl_Backend) × Int × Int) (k : Ex → St RT den → Option ρ) (w : Int) (go : (Int) → Option ρ) : Option ρ := F_slices_IndexFunc_impl_Backend_impl_Backend_w_impl_Config_backend_c1_B0 fu c.1 c.2.1 c.2.2 (fun a0 => k .ret ⟨[.q, .q, .q, .q, (.int .i64 a0), .q, .q, .q, .q, .q, .q, .q, .q, .q, .q, .q, .q, .q, .q], []⟩) (k (.exit 0) ⟨[.q, .q, .q, .q, .q, .q, .q, .q, .q, .q, .q, .q, .q, .q, .q, .q, .q, .q, .q], []⟩) w go
def lp_a34 (fu : Nat) : Lp RT den (Int) := fun b s k => match b with | 0 => handle ps_a34_0 os_a34_0 conv_a34_0 (Bk_a34_0 fu) fu s k | _ => none
theorem ev_a34 (fu : Nat) (s_0 : (Sl S_impl_Backend)) (f_1_1 : Int) : evFun E (pc_a34 fu) msk_a34 (lp_a34 fu) out_i64 154 [(.rs s_0.z .impl_Backend s_0.n s_0.f), (.fn 155 [(.rptr [(.int .i64 f_1_1)])])] = F_slices_IndexFunc_impl_Backend_impl_Backend_w_impl_Config_backend_c1 fu s_0 f_1_1 := by kernel_rfl
noncomputable def body_a34 : Code := Try.f154.body.getD .skip
noncomputable def lc_a34_0 : Code := ((loops 0 body_a34).getD 0 (0, .skip)).2
theorem round_a34_0 (fu : Nat) (it : St RT den → Option (Int)) (k : Ex → St RT den → Option (Int)) c w : evCode E (pc_a34 fu) msk_a34 (lp_a34 fu) 0 lc_a34_0 (back_a34_0 c w) (after (msk_a34 0) (msk_a34 100000) 0 it k) = Bk_a34_0 fu c k w (fun w => it (back_a34_0 c w)) := by kernel_rfl
theorem lpok_a34_0 (fu : Nat) : ∀ s k r, lp_a34 fu 0 s k = some r → ∃ fuel, iter (msk_a34 0) (msk_a34 100000) s.objs.length (evCode E (pc_a34 fu) msk_a34 (lp_a34 fu) 0 lc_a34_0) fuel s k = some r :=
  handle_ok (ps := ps_a34_0) (os := os_a34_0) (conv := conv_a34_0) (B := Bk_a34_0 fu) (fu := fu) back_a34_0 (fun raw => by kernel_rfl) 0 (fun c w => by kernel_rfl) (round_a34_0 fu)
theorem lpok_a34 (fu : Nat) : LpOk E (pc_a34 fu) msk_a34 (lp_a34 fu) (loops 0 body_a34) := loop_all 1 (by kernel_rfl) fun i hi => match i, hi with
  | 0, _ => by
    have h : (loops 0 body_a34).getD 0 (0, .skip) = (0, lc_a34_0) := by kernel_rfl
    rw [h]; exact lpok_a34_0 fu
  | i + 1, hi => absurd hi (by omega)
def S_a34 (fu : Nat) (xs : List (D RT den)) : Option (Out RT den) := match xs with | [.rs za0_0 .impl_Backend na0_0 fa0_0, .fn 155 [.rptr [.int .i64 a1_0]]] => some ⟨Int, F_slices_IndexFunc_impl_Backend_impl_Backend_w_impl_Config_backend_c1 fu (⟨za0_0, na0_0, fa0_0⟩ : (Sl S_impl_Backend)) a1_0, enc_i64, fun _ => true⟩ | _ => none
theorem hpc_a34 (fu : Nat) : ∀ f xs o, pcf_a34 fu f xs = some o → ∀ y, o.x = some y → Good E Try.prog f xs (o.g y) := by
  intro f xs o h
  unfold pcf_a34 at h
  split at h
  · exact good_a33 fu xs o h
  · cases h
theorem goodv_a34 (fu : Nat) (s_0 : (Sl S_impl_Backend)) (f_1_1 : Int) (y : Int) (hy : F_slices_IndexFunc_impl_Backend_impl_Backend_w_impl_Config_backend_c1 fu s_0 f_1_1 = some y) : Good E Try.prog 154 [(.rs s_0.z .impl_Backend s_0.n s_0.f), (.fn 155 [(.rptr [(.int .i64 f_1_1)])])] (enc_i64 y) :=
  fun_good E_ok (pc_good (pc := pc_a34 fu) (hpc_a34 fu) hpx0) (fn := Try.f154) (c := body_a34) (out := out_i64) (y := y) (by kernel_rfl) (by kernel_rfl) (by kernel_rfl) (lpok_a34 fu) (fun d hd => out_i64_enc d _ hd) ((ev_a34 fu s_0 f_1_1).trans hy)
theorem good_a34 (fu : Nat) : ∀ xs o, S_a34 fu xs = some o → ∀ y, o.x = some y → Good E Try.prog 154 xs (o.g y) := by
  intro xs o h y hy
  unfold S_a34 at h
  split at h
  · rename_i za0_0 na0_0 fa0_0 a1_0
    cases h
    exact goodv_a34 fu (⟨za0_0, na0_0, fa0_0⟩ : (Sl S_impl_Backend)) a1_0 y hy
  · cases h

/-! (*impl.Config).backend -/
def F_impl_Config_backend (fu : Nat) (c_0 : S_impl_Config) (name_1 : Int) : Option (Int) :=
  ((F_slices_IndexFunc_impl_Backend_impl_Backend_w_impl_Config_backend_c1 fu c_0.Backends name_1).bind fun y175 => (some y175))
def pcf_a35 (fu : Nat) (f : Nat) (xs : List (D RT den)) : Option (Out RT den) := match f with | 154 => S_a34 fu xs | _ => none
def pc_a35 (fu : Nat) : Pc RT den := ⟨pcf_a35 fu, fun _ => false, fun _ => false, pcd0, pcx0⟩
def msk_a35 (b : Nat) : List Nat := []
def lp_a35 (fu : Nat) : Lp RT den (Int) := fun b s k => none
theorem ev_a35 (fu : Nat) (c_0 : S_impl_Config) (name_1 : Int) : evFun E (pc_a35 fu) msk_a35 (lp_a35 fu) out_i64 101 [(.rptr [(.int .i64 c_0.Version), (.rs c_0.Backends.z .impl_Backend c_0.Backends.n c_0.Backends.f), (.rs c_0.Vips.z .impl_Vip c_0.Vips.n c_0.Vips.f)]), (.int .i64 name_1)] = F_impl_Config_backend fu c_0 name_1 := by kernel_rfl
noncomputable def body_a35 : Code := Try.f101.body.getD .skip
theorem lpok_a35 (fu : Nat) : LpOk E (pc_a35 fu) msk_a35 (lp_a35 fu) (loops 0 body_a35) := by
  have h : loops 0 body_a35 = [] := by kernel_rfl
  rw [h]; intro p hp; cases hp
def S_a35 (fu : Nat) (xs : List (D RT den)) : Option (Out RT den) := match xs with | [.rptr (.int .i64 a0_1 :: .rs za0_2 .impl_Backend na0_2 fa0_2 :: .rs za0_3 .impl_Vip na0_3 fa0_3 :: ra0), .int .i64 a1_0] => some ⟨Int, F_impl_Config_backend fu (⟨a0_1, (⟨za0_2, na0_2, fa0_2⟩ : (Sl S_impl_Backend)), (⟨za0_3, na0_3, fa0_3⟩ : (Sl S_impl_Vip))⟩ : S_impl_Config) a1_0, enc_i64, fun _ => true⟩ | _ => none
theorem hpc_a35 (fu : Nat) : ∀ f xs o, pcf_a35 fu f xs = some o → ∀ y, o.x = some y → Good E Try.prog f xs (o.g y) := by
  intro f xs o h
  unfold pcf_a35 at h
  split at h
  · exact good_a34 fu xs o h
  · cases h
theorem goodv_a35 (fu : Nat) (c_0 : S_impl_Config) (name_1 : Int) (y : Int) (hy : F_impl_Config_backend fu c_0 name_1 = some y) : Good E Try.prog 101 [(.rptr [(.int .i64 c_0.Version), (.rs c_0.Backends.z .impl_Backend c_0.Backends.n c_0.Backends.f), (.rs c_0.Vips.z .impl_Vip c_0.Vips.n c_0.Vips.f)]), (.int .i64 name_1)] (enc_i64 y) :=
  fun_good E_ok (pc_good (pc := pc_a35 fu) (hpc_a35 fu) hpx0) (fn := Try.f101) (c := body_a35) (out := out_i64) (y := y) (by kernel_rfl) (by kernel_rfl) (by kernel_rfl) (lpok_a35 fu) (fun d hd => out_i64_enc d _ hd) ((ev_a35 fu c_0 name_1).trans hy)
theorem good_a35 (fu : Nat) : ∀ xs o, S_a35 fu xs = some o → ∀ y, o.x = some y → Good E Try.prog 101 xs (o.g y) := by
  intro xs o h y hy
  unfold S_a35 at h
  split at h
  · rename_i a0_1 za0_2 na0_2 fa0_2 za0_3 na0_3 fa0_3 ra0 a1_0
    cases h
    exact (goodv_a35 fu (⟨a0_1, (⟨za0_2, na0_2, fa0_2⟩ : (Sl S_impl_Backend)), (⟨za0_3, na0_3, fa0_3⟩ : (Sl S_impl_Vip))⟩ : S_impl_Config) a1_0 y hy).sub ⟨Sub.of_eq ra0 rfl, .refl _, trivial⟩
  · cases h

/-! impl.ConfigFault'1 -/
def F_impl_ConfigFault_c1 (fu : Nat) (name_0 : Int) (x_1_1 : Int) (x_1_2 : (Sl S_impl_Backend)) (x_1_3 : (Sl S_impl_Vip)) : Option (Bool) :=
  ((F_impl_Config_backend fu (⟨x_1_1, x_1_2, x_1_3⟩ : S_impl_Config) name_0).bind fun y174 => (some (decide (y174 < 0))))
def pcf_a36 (fu : Nat) (f : Nat) (xs : List (D RT den)) : Option (Out RT den) := match f with | 101 => S_a35 fu xs | _ => none
def pc_a36 (fu : Nat) : Pc RT den := ⟨pcf_a36 fu, fun _ => false, fun _ => false, pcd0, pcx0⟩
def msk_a36 (b : Nat) : List Nat := []
def lp_a36 (fu : Nat) : Lp RT den (Bool) := fun b s k => none
theorem ev_a36 (fu : Nat) (name_0 : Int) (x_1_1 : Int) (x_1_2 : (Sl S_impl_Backend)) (x_1_3 : (Sl S_impl_Vip)) : evFun E (pc_a36 fu) msk_a36 (lp_a36 fu) out_bo 135 [(.int .i64 name_0), (.rptr [(.int .i64 x_1_1), (.rs x_1_2.z .impl_Backend x_1_2.n x_1_2.f), (.rs x_1_3.z .impl_Vip x_1_3.n x_1_3.f)])] = F_impl_ConfigFault_c1 fu name_0 x_1_1 x_1_2 x_1_3 := by kernel_rfl
noncomputable def body_a36 : Code := Try.f135.body.getD .skip
theorem lpok_a36 (fu : Nat) : LpOk E (pc_a36 fu) msk_a36 (lp_a36 fu) (loops 0 body_a36) := by
  have h : loops 0 body_a36 = [] := by kernel_rfl
  rw [h]; intro p hp; cases hp
def S_a36 (fu : Nat) (xs : List (D RT den)) : Option (Out RT den) := match xs with | [.int .i64 a0_0, .rptr [.int .i64 a1_0, .rs za1_1 .impl_Backend na1_1 fa1_1, .rs za1_2 .impl_Vip na1_2 fa1_2]] => some ⟨Bool, F_impl_ConfigFault_c1 fu a0_0 a1_0 (⟨za1_1, na1_1, fa1_1⟩ : (Sl S_impl_Backend)) (⟨za1_2, na1_2, fa1_2⟩ : (Sl S_impl_Vip)), enc_bo, fun _ => true⟩ | _ => none
theorem hpc_a36 (fu : Nat) : ∀ f xs o, pcf_a36 fu f xs = some o → ∀ y, o.x = some y → Good E Try.prog f xs (o.g y) := by
  intro f xs o h
  unfold pcf_a36 at h
  split at h
  · exact good_a35 fu xs o h
  · cases h
theorem goodv_a36 (fu : Nat) (name_0 : Int) (x_1_1 : Int) (x_1_2 : (Sl S_impl_Backend)) (x_1_3 : (Sl S_impl_Vip)) (y : Bool) (hy : F_impl_ConfigFault_c1 fu name_0 x_1_1 x_1_2 x_1_3 = some y) : Good E Try.prog 135 [(.int .i64 name_0), (.rptr [(.int .i64 x_1_1), (.rs x_1_2.z .impl_Backend x_1_2.n x_1_2.f), (.rs x_1_3.z .impl_Vip x_1_3.n x_1_3.f)])] (enc_bo y) :=
  fun_good E_ok (pc_good (pc := pc_a36 fu) (hpc_a36 fu) hpx0) (fn := Try.f135) (c := body_a36) (out := out_bo) (y := y) (by kernel_rfl) (by kernel_rfl) (by kernel_rfl) (lpok_a36 fu) (fun d hd => out_bo_enc d _ hd) ((ev_a36 fu name_0 x_1_1 x_1_2 x_1_3).trans hy)
theorem good_a36 (fu : Nat) : ∀ xs o, S_a36 fu xs = some o → ∀ y, o.x = some y → Good E Try.prog 135 xs (o.g y) := by
  intro xs o h y hy
  unfold S_a36 at h
  split at h
  · rename_i a0_0 a1_0 za1_1 na1_1 fa1_1 za1_2 na1_2 fa1_2
    cases h
    exact goodv_a36 fu a0_0 a1_0 (⟨za1_1, na1_1, fa1_1⟩ : (Sl S_impl_Backend)) (⟨za1_2, na1_2, fa1_2⟩ : (Sl S_impl_Vip)) y hy
  · cases h

/-! slices.IndexFunc[[]int64,int64] -/
def F_slices_IndexFunc_int64_int64_w_impl_ConfigFault_c1_B0 {ρ : Type} (fu : Nat) (s0_0 : (Sl Int)) (f1_1 : Int) (f1_2 : (Sl S_impl_Backend)) (f1_3 : (Sl S_impl_Vip)) (t7_4 : Int) (k0 : Int → Option ρ) (k1 : Option ρ) (t8_5 : Int) (go : Int → Option ρ) : Option ρ :=
  (bif (decide (t8_5 < t7_4)) then ((bif (decide (0 ≤ t8_5) && decide ((Int.toNat t8_5) < s0_0.n)) then some () else none : Option Unit).bind fun _ => ((F_impl_ConfigFault_c1 fu (s0_0.f (Int.toNat t8_5)) f1_1 f1_2 f1_3).bind fun y172 =>
    (bif y172 then (k0 t8_5) else (go (IntKind.wrap .i64 (t8_5 + 1)))))) else k1)
def F_slices_IndexFunc_int64_int64_w_impl_ConfigFault_c1 (fu : Nat) (s_0 : (Sl Int)) (f_1_1 : Int) (f_1_2 : (Sl S_impl_Backend)) (f_1_3 : (Sl S_impl_Vip)) : Option (Int) :=
  (L (fun w0 go0 => F_slices_IndexFunc_int64_int64_w_impl_ConfigFault_c1_B0 fu s_0 f_1_1 f_1_2 f_1_3 ((s_0.n : Nat) : Int) (fun z173 => (some z173)) (some (-1)) w0 go0) fu (0 : Int))
def pcf_a37 (fu : Nat) (f : Nat) (xs : List (D RT den)) : Option (Out RT den) := match f with | 135 => S_a36 fu xs | _ => none
def pc_a37 (fu : Nat) : Pc RT den := ⟨pcf_a37 fu, fun _ => false, fun _ => false, pcd0, pcx0⟩
def msk_a37 (b : Nat) : List Nat := match b with | 0 => [2, 3, 4, 5, 6, 9, 10, 11, 12, 13, 14, 15, 16, 17, 18] | 100000 => [0, 1, 2, 3, 5, 6, 7, 8, 9, 10, 11, 12, 13, 14, 15, 16, 17, 18] | _ => []
def ps_a37_0 : List (Pat RT) := [.flat (.rs .i64), .fn 135 [.rptr [(.int .i64), (.rs .impl_Backend), (.rs .impl_Vip)]], .flat .q, .flat .q, .flat .q, .flat .q, .flat .q, .flat (.int .i64), .flat (.int .i64), .flat .q, .flat .q, .flat .q, .flat .q, .flat .q, .flat .q, .flat .q, .flat .q, .flat .q, .flat .q]
def os_a37_0 : List (OP RT) := []
def conv_a37_0 (r : Raw den ps_a37_0 os_a37_0) : ((Sl Int) × Int × (Sl S_impl_Backend) × (Sl S_impl_Vip) × Int) × (Int) := ((r.1.1, r.1.2.1.1.1, r.1.2.1.1.2.1, r.1.2.1.1.2.2.1, r.1.2.2.2.2.2.2.2.1), r.1.2.2.2.2.2.2.2.2.1)
def back_a37_0 (c : (Sl Int) × Int × (Sl S_impl_Backend) × (Sl S_impl_Vip) × Int) (w : Int) : St RT den := ⟨[(.rs c.1.z .i64 c.1.n c.1.f), (.fn 135 [(.rptr [(.int .i64 c.2.1), (.rs c.2.2.1.z .impl_Backend c.2.2.1.n c.2.2.1.f), (.rs c.2.2.2.1.z .impl_Vip c.2.2.2.1.n c.2.2.2.1.f)])]), .q, .q, .q, .q, .q, (.int .i64 c.2.2.2.2), (.int .i64 w), .q, .q, .q, .q, .q, .q, .q, .q, .q, .q], []⟩
def Bk_a37_0 {ρ : Type} (fu : Nat) (c : (Sl Int) × Int × (Sl S_impl_Backend) × (Sl S_impl_Vip) × Int) (k : Ex → St RT den → Option ρ) (w : Int) (go : (Int) → Option ρ) : Option ρ := F_slices_IndexFunc_int64_int64_w_impl_ConfigFault_c1_B0 fu c.1 c.2.1 c.2.2.1 c.2.2.2.1 c.2.2.2.2 (fun a0 => k .ret ⟨[.q, .q, .q, .q, (.int .i64 a0), .q, .q, .q, .q, .q, .q, .q, .q, .q, .q, .q, .q, .q, .q], []⟩) (k (.exit 0) ⟨[.q, .q, .q, .q, .q, .q, .q, .q, .q, .q, .q, .q, .q, .q, .q, .q, .q, .q, .q], []⟩) w go
def lp_a37 (fu : Nat) : Lp RT den (Int) := fun b s k => match b with | 0 => handle ps_a37_0 os_a37_0 conv_a37_0 (Bk_a37_0 fu) fu s k | _ => none
theorem ev_a37 (fu : Nat) (s_0 : (Sl Int)) (f_1_1 : Int) (f_1_2 : (Sl S_impl_Backend)) (f_1_3 : (Sl S_impl_Vip)) : evFun E (pc_a37 fu) msk_a37 (lp_a37 fu) out_i64 151 [(.rs s_0.z .i64 s_0.n s_0.f), (.fn 135 [(.rptr [(.int .i64 f_1_1), (.rs f_1_2.z .impl_Backend f_1_2.n f_1_2.f), (.rs f_1_3.z .impl_Vip f_1_3.n f_1_3.f)])])] = F_slices_IndexFunc_int64_int64_w_impl_ConfigFault_c1 fu s_0 f_1_1 f_1_2 f_1_3 := by kernel_rfl
noncomputable def body_a37 : Code := Try.f151.body.getD .skip
noncomputable def lc_a37_0 : Code := ((loops 0 body_a37).getD 0 (0, .skip)).2
theorem round_a37_0 (fu : Nat) (it : St RT den → Option (Int)) (k : Ex → St RT den → Option (Int)) c w : evCode E (pc_a37 fu) msk_a37 (lp_a37 fu) 0 lc_a37_0 (back_a37_0 c w) (after (msk_a37 0) (msk_a37 100000) 0 it k) = Bk_a37_0 fu c k w (fun w => it (back_a37_0 c w)) := by kernel_rfl
theorem lpok_a37_0 (fu : Nat) : ∀ s k r, lp_a37 fu 0 s k = some r → ∃ fuel, iter (msk_a37 0) (msk_a37 100000) s.objs.length (evCode E (pc_a37 fu) msk_a37 (lp_a37 fu) 0 lc_a37_0) fuel s k = some r :=
  handle_ok (ps := ps_a37_0) (os := os_a37_0) (conv := conv_a37_0) (B := Bk_a37_0 fu) (fu := fu) back_a37_0 (fun raw => by kernel_rfl) 0 (fun c w => by kernel_rfl) (round_a37_0 fu)
theorem lpok_a37 (fu : Nat) : LpOk E (pc_a37 fu) msk_a37 (lp_a37 fu) (loops 0 body_a37) := loop_all 1 (by kernel_rfl) fun i hi => match i, hi with
  | 0, _ => by
    have h : (loops 0 body_a37).getD 0 (0, .skip) = (0, lc_a37_0) := by kernel_rfl
    rw [h]; exact lpok_a37_0 fu
  | i + 1, hi => absurd hi (by omega)
def S_a37 (fu : Nat) (xs : List (D RT den)) : Option (Out RT den) := match xs with | [.rs za0_0 .i64 na0_0 fa0_0, .fn 135 [.rptr [.int .i64 a1_0, .rs za1_1 .impl_Backend na1_1 fa1_1, .rs za1_2 .impl_Vip na1_2 fa1_2]]] => some ⟨Int, F_slices_IndexFunc_int64_int64_w_impl_ConfigFault_c1 fu (⟨za0_0, na0_0, fa0_0⟩ : (Sl Int)) a1_0 (⟨za1_1, na1_1, fa1_1⟩ : (Sl S_impl_Backend)) (⟨za1_2, na1_2, fa1_2⟩ : (Sl S_impl_Vip)), enc_i64, fun _ => true⟩ | _ => none
theorem hpc_a37 (fu : Nat) : ∀ f xs o, pcf_a37 fu f xs = some o → ∀ y, o.x = some y → Good E Try.prog f xs (o.g y) := by
  intro f xs o h
  unfold pcf_a37 at h
  split at h
  · exact good_a36 fu xs o h
  · cases h
theorem goodv_a37 (fu : Nat) (s_0 : (Sl Int)) (f_1_1 : Int) (f_1_2 : (Sl S_impl_Backend)) (f_1_3 : (Sl S_impl_Vip)) (y : Int) (hy : F_slices_IndexFunc_int64_int64_w_impl_ConfigFault_c1 fu s_0 f_1_1 f_1_2 f_1_3 = some y) : Good E Try.prog 151 [(.rs s_0.z .i64 s_0.n s_0.f), (.fn 135 [(.rptr [(.int .i64 f_1_1), (.rs f_1_2.z .impl_Backend f_1_2.n f_1_2.f), (.rs f_1_3.z .impl_Vip f_1_3.n f_1_3.f)])])] (enc_i64 y) :=
  fun_good E_ok (pc_good (pc := pc_a37 fu) (hpc_a37 fu) hpx0) (fn := Try.f151) (c := body_a37) (out := out_i64) (y := y) (by kernel_rfl) (by kernel_rfl) (by kernel_rfl) (lpok_a37 fu) (fun d hd => out_i64_enc d _ hd) ((ev_a37 fu s_0 f_1_1 f_1_2 f_1_3).trans hy)
theorem good_a37 (fu : Nat) : ∀ xs o, S_a37 fu xs = some o → ∀ y, o.x = some y → Good E Try.prog 151 xs (o.g y) := by
  intro xs o h y hy
  unfold S_a37 at h
  split at h
  · rename_i za0_0 na0_0 fa0_0 a1_0 za1_1 na1_1 fa1_1 za1_2 na1_2 fa1_2
    cases h
    exact goodv_a37 fu (⟨za0_0, na0_0, fa0_0⟩ : (Sl Int)) a1_0 (⟨za1_1, na1_1, fa1_1⟩ : (Sl S_impl_Backend)) (⟨za1_2, na1_2, fa1_2⟩ : (Sl S_impl_Vip)) y hy
  · cases h

/-! slices.ContainsFunc[[]int64,int64] -/
def F_slices_ContainsFunc_int64_int64_w_impl_ConfigFault_c1 (fu : Nat) (s_0 : (Sl Int)) (f_1_1 : Int) (f_1_2 : (Sl S_impl_Backend)) (f_1_3 : (Sl S_impl_Vip)) : Option (Bool) :=
  ((F_slices_IndexFunc_int64_int64_w_impl_ConfigFault_c1 fu s_0 f_1_1 f_1_2 f_1_3).bind fun y171 => (some (decide (y171 ≥ 0))))
def pcf_a38 (fu : Nat) (f : Nat) (xs : List (D RT den)) : Option (Out RT den) := match f with | 151 => S_a37 fu xs | _ => none
def pc_a38 (fu : Nat) : Pc RT den := ⟨pcf_a38 fu, fun _ => false, fun _ => false, pcd0, pcx0⟩
def msk_a38 (b : Nat) : List Nat := []
def lp_a38 (fu : Nat) : Lp RT den (Bool) := fun b s k => none
theorem ev_a38 (fu : Nat) (s_0 : (Sl Int)) (f_1_1 : Int) (f_1_2 : (Sl S_impl_Backend)) (f_1_3 : (Sl S_impl_Vip)) : evFun E (pc_a38 fu) msk_a38 (lp_a38 fu) out_bo 96 [(.rs s_0.z .i64 s_0.n s_0.f), (.fn 135 [(.rptr [(.int .i64 f_1_1), (.rs f_1_2.z .impl_Backend f_1_2.n f_1_2.f), (.rs f_1_3.z .impl_Vip f_1_3.n f_1_3.f)])])] = F_slices_ContainsFunc_int64_int64_w_impl_ConfigFault_c1 fu s_0 f_1_1 f_1_2 f_1_3 := by kernel_rfl
noncomputable def body_a38 : Code := Try.f96.body.getD .skip
theorem lpok_a38 (fu : Nat) : LpOk E (pc_a38 fu) msk_a38 (lp_a38 fu) (loops 0 body_a38) := by
  have h : loops 0 body_a38 = [] := by kernel_rfl
  rw [h]; intro p hp; cases hp
def S_a38 (fu : Nat) (xs : List (D RT den)) : Option (Out RT den) := match xs with | [.rs za0_0 .i64 na0_0 fa0_0, .fn 135 [.rptr [.int .i64 a1_0, .rs za1_1 .impl_Backend na1_1 fa1_1, .rs za1_2 .impl_Vip na1_2 fa1_2]]] => some ⟨Bool, F_slices_ContainsFunc_int64_int64_w_impl_ConfigFault_c1 fu (⟨za0_0, na0_0, fa0_0⟩ : (Sl Int)) a1_0 (⟨za1_1, na1_1, fa1_1⟩ : (Sl S_impl_Backend)) (⟨za1_2, na1_2, fa1_2⟩ : (Sl S_impl_Vip)), enc_bo, fun _ => true⟩ | _ => none
theorem hpc_a38 (fu : Nat) : ∀ f xs o, pcf_a38 fu f xs = some o → ∀ y, o.x = some y → Good E Try.prog f xs (o.g y) := by
  intro f xs o h
  unfold pcf_a38 at h
  split at h
  · exact good_a37 fu xs o h
  · cases h
theorem goodv_a38 (fu : Nat) (s_0 : (Sl Int)) (f_1_1 : Int) (f_1_2 : (Sl S_impl_Backend)) (f_1_3 : (Sl S_impl_Vip)) (y : Bool) (hy : F_slices_ContainsFunc_int64_int64_w_impl_ConfigFault_c1 fu s_0 f_1_1 f_1_2 f_1_3 = some y) : Good E Try.prog 96 [(.rs s_0.z .i64 s_0.n s_0.f), (.fn 135 [(.rptr [(.int .i64 f_1_1), (.rs f_1_2.z .impl_Backend f_1_2.n f_1_2.f), (.rs f_1_3.z .impl_Vip f_1_3.n f_1_3.f)])])] (enc_bo y) :=
  fun_good E_ok (pc_good (pc := pc_a38 fu) (hpc_a38 fu) hpx0) (fn := Try.f96) (c := body_a38) (out := out_bo) (y := y) (by kernel_rfl) (by kernel_rfl) (by kernel_rfl) (lpok_a38 fu) (fun d hd => out_bo_enc d _ hd) ((ev_a38 fu s_0 f_1_1 f_1_2 f_1_3).trans hy)
theorem good_a38 (fu : Nat) : ∀ xs o, S_a38 fu xs = some o → ∀ y, o.x = some y → Good E Try.prog 96 xs (o.g y) := by
  intro xs o h y hy
  unfold S_a38 at h
  split at h
  · rename_i za0_0 na0_0 fa0_0 a1_0 za1_1 na1_1 fa1_1 za1_2 na1_2 fa1_2
    cases h
    exact goodv_a38 fu (⟨za0_0, na0_0, fa0_0⟩ : (Sl Int)) a1_0 (⟨za1_1, na1_1, fa1_1⟩ : (Sl S_impl_Backend)) (⟨za1_2, na1_2, fa1_2⟩ : (Sl S_impl_Vip)) y hy
  · cases h
end Go.Proofs.Ytmnbmponjhglcaa.Pe
