/- The functions' evaluated forms, each a proved summary. Conditions: none. -/
import Derived.Test.YtohlgllpplbehaaPcF0
namespace Go.Proofs.Ytohlgllpplbehaa.Pc
open Go Go.RowKit Go.Proofs Vm
set_option linter.unusedVariables false
set_option linter.unusedSimpArgs false
set_option maxRecDepth 100000
/-! spec.l8Lists -/
def F_spec_l8Lists_B0 {ρ : Type} (fu : Nat) (n0_0 : Int) (n0_1 : Int) (n0_2 : Int) (n0_3 : Int) (n0_4 : (Sl S_impl_Entry)) (n0_5 : Int) (n0_6 : Int) (n0_7 : (Sl Int)) (n0_8 : (Sl Int)) (n0_9 : (Sl Int)) (k0 : Option ρ) (k1 : Option ρ) (i3_10 : Int) (go : Int → Option ρ) : Option ρ :=
  (bif (decide (i3_10 < ((n0_7.n : Nat) : Int))) then ((bif (decide (0 ≤ i3_10) && decide ((Int.toNat i3_10) < n0_7.n)) then some () else none : Option Unit).bind fun _ =>
    ((F_spec_l8Id fu (⟨n0_0, n0_1, n0_2, n0_3, n0_4, n0_5, n0_6, n0_7, n0_8, n0_9⟩ : S_impl_Node) (n0_7.f (Int.toNat i3_10))).bind fun y91 => (bif (!y91) then k0 else (go (IntKind.wrap .i64 (i3_10 + 1)))))) else
    k1)
def F_spec_l8Lists (fu : Nat) (n_0 : S_impl_Node) : Option (Bool) :=
  ((((F_spec_l8Rises fu n_0.Votes).bind fun y89 => (bif (!y89) then (some true) else (bif (decide (((n_0.Votes.n : Nat) : Int) > 0)) then (some (n_0.Role != 1)) else (some false)))) : Option Bool).bind fun m90 =>
    (bif m90 then (some false) else (L (fun w0 go0 => F_spec_l8Lists_B0 fu n_0.Id n_0.Peers n_0.Term n_0.Voted n_0.Log n_0.Role n_0.Commit n_0.Votes n_0.Next n_0.Match (some false) (bif (n_0.Role == 2) then
    (((bif (((n_0.Next.n : Nat) : Int) == n_0.Peers) then (some (((n_0.Match.n : Nat) : Int) == n_0.Peers)) else (some false)) : Option Bool).bind fun m92 => (some m92)) else (((bif (((n_0.Next.n : Nat) : Int) == 0) then
    (some (((n_0.Match.n : Nat) : Int) == 0)) else (some false)) : Option Bool).bind fun m93 => (some m93))) w0 go0) fu (0 : Int))))
def pcf_spec_l8Lists (fu : Nat) (f : Nat) (xs : List (D RT den)) : Option (Out RT den) := match f with | 92 => S_spec_l8Id fu xs | 108 => S_spec_l8Rises fu xs | _ => none
def pcx_spec_l8Lists (fu : Nat) (f : Nat) (xs : List (D RT den)) (ins : List (Ob RT den)) : Option (OutX RT den) := none
def pc_spec_l8Lists (fu : Nat) : Pc RT den := ⟨pcf_spec_l8Lists fu, fun _ => false, fun _ => false, pcx_spec_l8Lists fu⟩
def msk_spec_l8Lists (b : Nat) : List Nat := match b with | 0 => [1, 2, 4, 5, 6, 7, 8, 9, 10, 11, 12, 13, 14, 15, 16, 17, 18, 19, 20, 21, 22, 23, 24, 25, 26, 27, 28, 29, 30, 31, 32, 33, 34, 35, 36, 37, 38, 39, 40, 41, 42, 43, 44, 45, 46, 47, 48, 49, 50, 51, 52, 53, 54, 55, 56, 57, 58, 59, 60, 61, 62, 63, 64, 65, 66, 67, 68, 69] | 100000 => [1, 3, 4, 5, 6, 7, 8, 9, 10, 11, 12, 13, 14, 15, 16, 17, 18, 19, 20, 21, 22, 23, 24, 25, 26, 27, 28, 29, 30, 31, 32, 33, 34, 35, 36, 37, 38, 39, 40, 41, 42, 43, 44, 45, 46, 47, 48, 49, 50, 51, 52, 53, 54, 55, 56, 57, 58, 59, 60, 61, 62, 63, 64, 65, 66, 67, 68, 69] | 200001 => [25] | 200011 => [2] | _ => []
def ps_spec_l8Lists_0 : List (Pat RT) := [.rptr [(.int .i64), (.int .i64), (.int .i64), (.int .i64), (.rs .impl_Entry), (.int .i64), (.int .i64), (.rs .i64), (.rs .i64), (.rs .i64)], .flat .dead, .flat .dead, .flat (.int .i64), .flat .dead, .flat .dead, .flat .dead, .flat .dead, .flat .dead, .flat .dead, .flat .dead, .flat .dead, .flat .dead, .flat .dead, .flat .dead, .flat .dead, .flat .dead, .flat .dead, .flat .dead, .flat .dead, .flat .dead, .flat .dead, .flat .dead, .flat .dead, .flat .dead, .flat .dead, .flat .dead, .flat .dead, .flat .dead, .flat .dead, .flat .dead, .flat .dead, .flat .dead, .flat .dead, .flat .dead, .flat .dead, .flat .dead, .flat .dead, .flat .dead, .flat .dead, .flat .dead, .flat .dead, .flat .dead, .flat .dead, .flat .dead, .flat .dead, .flat .dead, .flat .dead, .flat .dead, .flat .dead, .flat .dead, .flat .dead, .flat .dead, .flat .dead, .flat .dead, .flat .dead, .flat .dead, .flat .dead, .flat .dead, .flat .dead, .flat .dead, .flat .dead, .flat .dead, .flat .dead, .flat .dead, .flat .dead, .flat .dead, .flat .dead, .flat .dead, .flat .dead]
def os_spec_l8Lists_0 : List (OP RT) := []
def conv_spec_l8Lists_0 (r : Raw den ps_spec_l8Lists_0 os_spec_l8Lists_0) : (Int × Int × Int × Int × (Sl S_impl_Entry) × Int × Int × (Sl Int) × (Sl Int) × (Sl Int)) × (Int) := ((r.1.1.1, r.1.1.2.1, r.1.1.2.2.1, r.1.1.2.2.2.1, r.1.1.2.2.2.2.1, r.1.1.2.2.2.2.2.1, r.1.1.2.2.2.2.2.2.1, r.1.1.2.2.2.2.2.2.2.1, r.1.1.2.2.2.2.2.2.2.2.1, r.1.1.2.2.2.2.2.2.2.2.2.1), r.1.2.2.2.1)
def back_spec_l8Lists_0 (c : Int × Int × Int × Int × (Sl S_impl_Entry) × Int × Int × (Sl Int) × (Sl Int) × (Sl Int)) (w : Int) : St RT den := ⟨[(.rptr [(.int .i64 c.1), (.int .i64 c.2.1), (.int .i64 c.2.2.1), (.int .i64 c.2.2.2.1), (.rs c.2.2.2.2.1.z .impl_Entry c.2.2.2.2.1.n c.2.2.2.2.1.f), (.int .i64 c.2.2.2.2.2.1), (.int .i64 c.2.2.2.2.2.2.1), (.rs c.2.2.2.2.2.2.2.1.z .i64 c.2.2.2.2.2.2.2.1.n c.2.2.2.2.2.2.2.1.f), (.rs c.2.2.2.2.2.2.2.2.1.z .i64 c.2.2.2.2.2.2.2.2.1.n c.2.2.2.2.2.2.2.2.1.f), (.rs c.2.2.2.2.2.2.2.2.2.z .i64 c.2.2.2.2.2.2.2.2.2.n c.2.2.2.2.2.2.2.2.2.f)]), .dead, .dead, (.int .i64 w), .dead, .dead, .dead, .dead, .dead, .dead, .dead, .dead, .dead, .dead, .dead, .dead, .dead, .dead, .dead, .dead, .dead, .dead, .dead, .dead, .dead, .dead, .dead, .dead, .dead, .dead, .dead, .dead, .dead, .dead, .dead, .dead, .dead, .dead, .dead, .dead, .dead, .dead, .dead, .dead, .dead, .dead, .dead, .dead, .dead, .dead, .dead, .dead, .dead, .dead, .dead, .dead, .dead, .dead, .dead, .dead, .dead, .dead, .dead, .dead, .dead, .dead, .dead, .dead, .dead, .dead], []⟩
def Bk_spec_l8Lists_0 {ρ : Type} (fu : Nat) (c : Int × Int × Int × Int × (Sl S_impl_Entry) × Int × Int × (Sl Int) × (Sl Int) × (Sl Int)) (k : Ex → St RT den → Option ρ) (w : Int) (go : (Int) → Option ρ) : Option ρ := F_spec_l8Lists_B0 fu c.1 c.2.1 c.2.2.1 c.2.2.2.1 c.2.2.2.2.1 c.2.2.2.2.2.1 c.2.2.2.2.2.2.1 c.2.2.2.2.2.2.2.1 c.2.2.2.2.2.2.2.2.1 c.2.2.2.2.2.2.2.2.2 (k .ret ⟨[(.rptr [(.int .i64 c.1), (.int .i64 c.2.1), (.int .i64 c.2.2.1), (.int .i64 c.2.2.2.1), (.rs c.2.2.2.2.1.z .impl_Entry c.2.2.2.2.1.n c.2.2.2.2.1.f), (.int .i64 c.2.2.2.2.2.1), (.int .i64 c.2.2.2.2.2.2.1), (.rs c.2.2.2.2.2.2.2.1.z .i64 c.2.2.2.2.2.2.2.1.n c.2.2.2.2.2.2.2.1.f), (.rs c.2.2.2.2.2.2.2.2.1.z .i64 c.2.2.2.2.2.2.2.2.1.n c.2.2.2.2.2.2.2.2.1.f), (.rs c.2.2.2.2.2.2.2.2.2.z .i64 c.2.2.2.2.2.2.2.2.2.n c.2.2.2.2.2.2.2.2.2.f)]), .dead, (.bool false), .dead, .dead, .dead, .dead, .dead, .dead, .dead, .dead, .dead, .dead, .dead, .dead, .dead, .dead, .dead, .dead, .dead, .dead, .dead, .dead, .dead, .dead, .dead, .dead, .dead, .dead, .dead, .dead, .dead, .dead, .dead, .dead, .dead, .dead, .dead, .dead, .dead, .dead, .dead, .dead, .dead, .dead, .dead, .dead, .dead, .dead, .dead, .dead, .dead, .dead, .dead, .dead, .dead, .dead, .dead, .dead, .dead, .dead, .dead, .dead, .dead, .dead, .dead, .dead, .dead, .dead, .dead], []⟩) (k (.exit 0) ⟨[(.rptr [(.int .i64 c.1), (.int .i64 c.2.1), (.int .i64 c.2.2.1), (.int .i64 c.2.2.2.1), (.rs c.2.2.2.2.1.z .impl_Entry c.2.2.2.2.1.n c.2.2.2.2.1.f), (.int .i64 c.2.2.2.2.2.1), (.int .i64 c.2.2.2.2.2.2.1), (.rs c.2.2.2.2.2.2.2.1.z .i64 c.2.2.2.2.2.2.2.1.n c.2.2.2.2.2.2.2.1.f), (.rs c.2.2.2.2.2.2.2.2.1.z .i64 c.2.2.2.2.2.2.2.2.1.n c.2.2.2.2.2.2.2.2.1.f), (.rs c.2.2.2.2.2.2.2.2.2.z .i64 c.2.2.2.2.2.2.2.2.2.n c.2.2.2.2.2.2.2.2.2.f)]), .dead, .dead, .dead, .dead, .dead, .dead, .dead, .dead, .dead, .dead, .dead, .dead, .dead, .dead, .dead, .dead, .dead, .dead, .dead, .dead, .dead, .dead, .dead, .dead, .dead, .dead, .dead, .dead, .dead, .dead, .dead, .dead, .dead, .dead, .dead, .dead, .dead, .dead, .dead, .dead, .dead, .dead, .dead, .dead, .dead, .dead, .dead, .dead, .dead, .dead, .dead, .dead, .dead, .dead, .dead, .dead, .dead, .dead, .dead, .dead, .dead, .dead, .dead, .dead, .dead, .dead, .dead, .dead, .dead], []⟩) w go
def lp_spec_l8Lists (fu : Nat) : Lp RT den (Bool) := fun b s k => match b with | 0 => handle ps_spec_l8Lists_0 os_spec_l8Lists_0 conv_spec_l8Lists_0 (Bk_spec_l8Lists_0 fu) fu s k | _ => none
theorem ev_spec_l8Lists (fu : Nat) (n_0 : S_impl_Node) : evFun E (pc_spec_l8Lists fu) msk_spec_l8Lists (lp_spec_l8Lists fu) out_bo 93 [(.rptr [(.int .i64 n_0.Id), (.int .i64 n_0.Peers), (.int .i64 n_0.Term), (.int .i64 n_0.Voted), (.rs n_0.Log.z .impl_Entry n_0.Log.n n_0.Log.f), (.int .i64 n_0.Role), (.int .i64 n_0.Commit), (.rs n_0.Votes.z .i64 n_0.Votes.n n_0.Votes.f), (.rs n_0.Next.z .i64 n_0.Next.n n_0.Next.f), (.rs n_0.Match.z .i64 n_0.Match.n n_0.Match.f)])] = F_spec_l8Lists fu n_0 := by kernel_rfl
noncomputable def body_spec_l8Lists : Code := Try.f93.body.getD .skip
noncomputable def lc_spec_l8Lists_0 : Code := ((loops 0 body_spec_l8Lists).getD 0 (0, .skip)).2
theorem round_spec_l8Lists_0 (fu : Nat) (it : St RT den → Option (Bool)) (k : Ex → St RT den → Option (Bool)) c w : evCode E (pc_spec_l8Lists fu) msk_spec_l8Lists (lp_spec_l8Lists fu) 0 lc_spec_l8Lists_0 (back_spec_l8Lists_0 c w) (after (msk_spec_l8Lists 0) (msk_spec_l8Lists 100000) 0 it k) = Bk_spec_l8Lists_0 fu c k w (fun w => it (back_spec_l8Lists_0 c w)) := by kernel_rfl
theorem lpok_spec_l8Lists_0 (fu : Nat) : ∀ s k r, lp_spec_l8Lists fu 0 s k = some r → ∃ fuel, iter (msk_spec_l8Lists 0) (msk_spec_l8Lists 100000) s.objs.length (evCode E (pc_spec_l8Lists fu) msk_spec_l8Lists (lp_spec_l8Lists fu) 0 lc_spec_l8Lists_0) fuel s k = some r :=
  handle_ok (ps := ps_spec_l8Lists_0) (os := os_spec_l8Lists_0) (conv := conv_spec_l8Lists_0) (B := Bk_spec_l8Lists_0 fu) (fu := fu) back_spec_l8Lists_0 (fun raw => by kernel_rfl) 0 (fun c w => by kernel_rfl) (round_spec_l8Lists_0 fu)
theorem lpok_spec_l8Lists (fu : Nat) : LpOk E (pc_spec_l8Lists fu) msk_spec_l8Lists (lp_spec_l8Lists fu) (loops 0 body_spec_l8Lists) := loop_all 1 (by kernel_rfl) fun i hi => match i, hi with
  | 0, _ => by
    have h : (loops 0 body_spec_l8Lists).getD 0 (0, .skip) = (0, lc_spec_l8Lists_0) := by kernel_rfl
    rw [h]; exact lpok_spec_l8Lists_0 fu
  | i + 1, hi => absurd hi (by omega)
def S_spec_l8Lists (fu : Nat) (xs : List (D RT den)) : Option (Out RT den) := match xs with | [.rptr (.int .i64 a0_1 :: .int .i64 a0_2 :: .int .i64 a0_3 :: .int .i64 a0_4 :: .rs za0_5 .impl_Entry na0_5 fa0_5 :: .int .i64 a0_6 :: .int .i64 a0_7 :: .rs za0_8 .i64 na0_8 fa0_8 :: .rs za0_9 .i64 na0_9 fa0_9 :: .rs za0_10 .i64 na0_10 fa0_10 :: ra0)] => some ⟨Bool, F_spec_l8Lists fu (⟨a0_1, a0_2, a0_3, a0_4, (⟨za0_5, na0_5, fa0_5⟩ : (Sl S_impl_Entry)), a0_6, a0_7, (⟨za0_8, na0_8, fa0_8⟩ : (Sl Int)), (⟨za0_9, na0_9, fa0_9⟩ : (Sl Int)), (⟨za0_10, na0_10, fa0_10⟩ : (Sl Int))⟩ : S_impl_Node), enc_bo, fun _ => true⟩ | _ => none
theorem hpc_spec_l8Lists (fu : Nat) : ∀ f xs o, pcf_spec_l8Lists fu f xs = some o → ∀ y, o.x = some y → Good E Try.prog f xs (o.g y) := by
  intro f xs o h
  unfold pcf_spec_l8Lists at h
  split at h
  · exact good_spec_l8Id fu xs o h
  · exact good_spec_l8Rises fu xs o h
  · cases h
theorem hpx_spec_l8Lists (fu : Nat) : ∀ f xs ins o, pcx_spec_l8Lists fu f xs ins = some o → ∀ y, o.x = some y → GoodX E Try.prog f xs ins (o.g y).1 (o.g y).2 := by
  intro f xs ins o h
  cases h
theorem goodv_spec_l8Lists (fu : Nat) (n_0 : S_impl_Node) (y : Bool) (hy : F_spec_l8Lists fu n_0 = some y) : Good E Try.prog 93 [(.rptr [(.int .i64 n_0.Id), (.int .i64 n_0.Peers), (.int .i64 n_0.Term), (.int .i64 n_0.Voted), (.rs n_0.Log.z .impl_Entry n_0.Log.n n_0.Log.f), (.int .i64 n_0.Role), (.int .i64 n_0.Commit), (.rs n_0.Votes.z .i64 n_0.Votes.n n_0.Votes.f), (.rs n_0.Next.z .i64 n_0.Next.n n_0.Next.f), (.rs n_0.Match.z .i64 n_0.Match.n n_0.Match.f)])] (enc_bo y) :=
  fun_good E_ok (pc_good (pc := pc_spec_l8Lists fu) (hpc_spec_l8Lists fu) (hpx_spec_l8Lists fu)) (fn := Try.f93) (c := body_spec_l8Lists) (out := out_bo) (y := y) (by kernel_rfl) (by kernel_rfl) (by kernel_rfl) (lpok_spec_l8Lists fu) (fun d hd => out_bo_enc d _ hd) ((ev_spec_l8Lists fu n_0).trans hy)
theorem good_spec_l8Lists (fu : Nat) : ∀ xs o, S_spec_l8Lists fu xs = some o → ∀ y, o.x = some y → Good E Try.prog 93 xs (o.g y) := by
  intro xs o h y hy
  unfold S_spec_l8Lists at h
  split at h
  · rename_i a0_1 a0_2 a0_3 a0_4 za0_5 na0_5 fa0_5 a0_6 a0_7 za0_8 na0_8 fa0_8 za0_9 na0_9 fa0_9 za0_10 na0_10 fa0_10 ra0
    cases h
    exact (goodv_spec_l8Lists fu (⟨a0_1, a0_2, a0_3, a0_4, (⟨za0_5, na0_5, fa0_5⟩ : (Sl S_impl_Entry)), a0_6, a0_7, (⟨za0_8, na0_8, fa0_8⟩ : (Sl Int)), (⟨za0_9, na0_9, fa0_9⟩ : (Sl Int)), (⟨za0_10, na0_10, fa0_10⟩ : (Sl Int))⟩ : S_impl_Node) y hy).sub ⟨Sub.of_eq ra0 rfl, trivial⟩
  · cases h

/-! spec.l8Fault -/
def F_spec_l8Fault_B0 {ρ : Type} (fu : Nat) (t0_0 : Int) (t0_1 : Int) (t0_2 : Int) (t0_3 : Int) (t0_4 : (Sl S_impl_Entry)) (t0_5 : Int) (t0_6 : Int) (t0_7 : (Sl Int)) (t0_8 : (Sl Int)) (t0_9 : (Sl Int)) (r4_10 : Int) (k0 : Option ρ) (k1 : Option ρ) (a5_11 : Int) (go : Int → Option ρ) : Option ρ :=
  (bif (decide (a5_11 < ((t0_8.n : Nat) : Int))) then ((((bif (decide (0 ≤ a5_11) && decide ((Int.toNat a5_11) < t0_8.n)) then some () else none : Option Unit).bind fun _ =>
    ((F_spec_l1In fu (t0_8.f (Int.toNat a5_11)) 1 (IntKind.wrap .i64 (r4_10 + 1))).bind fun y29 => (bif (!y29) then (some true) else ((bif (decide (0 ≤ a5_11) && decide ((Int.toNat a5_11) < t0_9.n)) then
    some () else none : Option Unit).bind fun _ => ((F_spec_l1In fu (t0_9.f (Int.toNat a5_11)) 0 r4_10).bind fun y30 => (some (!y30))))))) : Option Bool).bind fun m31 => (bif m31 then
    k0 else (go (IntKind.wrap .i64 (a5_11 + 1))))) else k1)
def F_spec_l8Fault (fu : Nat) (t_0 : S_impl_Node) : Option (Int) :=
  ((((F_spec_l1In fu t_0.Peers 1 5).bind fun y19 => (bif (!y19) then (some true) else ((F_spec_l8Id fu t_0 t_0.Id).bind fun y20 => (bif (!y20) then (some true) else ((F_spec_l1In fu t_0.Term 0 100000).bind fun y21 =>
    (bif (!y21) then (some true) else ((F_spec_l1In fu t_0.Voted (-1) (IntKind.wrap .i64 (t_0.Peers - 1))).bind fun y22 => (bif (!y22) then (some true) else ((F_spec_l1In fu t_0.Role 0 2).bind fun y23 =>
    (some (!y23))))))))))) : Option Bool).bind fun m24 => (bif m24 then (some 3) else ((F_spec_LogFault fu t_0.Log).bind fun y25 => (bif (y25 != 0) then (some y25) else
    ((F_spec_LastOf fu t_0.Log).bind fun y26 => (bif (decide (y26.Term > t_0.Term)) then (some 1) else ((F_spec_l1In fu t_0.Commit 0 ((t_0.Log.n : Nat) : Int)).bind fun y27 => (bif (!y27) then
    (some 3) else ((F_spec_l8Lists fu t_0).bind fun y28 => (bif (!y28) then (some 1) else (L (fun w0 go0 => F_spec_l8Fault_B0 fu t_0.Id t_0.Peers t_0.Term t_0.Voted t_0.Log t_0.Role t_0.Commit t_0.Votes t_0.Next t_0.Match ((t_0.Log.n : Nat) : Int) (some 3) (((bif (t_0.Role != 0) then
    (bif (t_0.Voted != t_0.Id) then (some true) else (some (t_0.Term == 0))) else (some false)) : Option Bool).bind fun m32 => (bif m32 then (some 1) else (some 0))) w0 go0) fu (0 : Int))))))))))))
def pcf_spec_l8Fault (fu : Nat) (f : Nat) (xs : List (D RT den)) : Option (Out RT den) := match f with | 62 => S_spec_LastOf fu xs | 72 => S_spec_l1In fu xs | 78 => S_spec_LogFault fu xs | 92 => S_spec_l8Id fu xs | 93 => S_spec_l8Lists fu xs | _ => none
def pcx_spec_l8Fault (fu : Nat) (f : Nat) (xs : List (D RT den)) (ins : List (Ob RT den)) : Option (OutX RT den) := none
def pc_spec_l8Fault (fu : Nat) : Pc RT den := ⟨pcf_spec_l8Fault fu, fun _ => false, fun _ => false, pcx_spec_l8Fault fu⟩
def msk_spec_l8Fault (b : Nat) : List Nat := match b with | 0 => [1, 2, 3, 6, 7, 8, 9, 10, 11, 12, 13, 14, 15, 16, 17, 18, 19, 20, 21, 22, 23, 24, 25, 26, 27, 28, 29, 30, 31, 32, 33, 34, 35, 36, 37, 38, 39, 40, 41, 42, 43, 44, 45, 46, 47, 48, 49, 50, 51, 52, 53, 54, 55, 56, 57, 58, 59, 60, 61, 62, 63, 64, 65, 66, 67, 68, 69, 70, 71, 72, 73, 74, 75, 76, 77, 78, 79, 80, 81, 82, 83, 84, 85, 86, 87, 88, 89, 90, 91, 92, 93, 94, 95, 96, 97, 98, 99, 100, 101, 102, 103, 104, 105, 106, 107, 108, 109, 110, 111, 112, 113, 114, 115, 116, 117, 118, 119, 120, 121, 122, 123, 124, 125, 126, 127, 128, 129, 130, 131, 132, 133, 134, 135, 136, 137, 138] | 100000 => [1, 3, 4, 5, 6, 7, 8, 9, 10, 11, 12, 13, 14, 15, 16, 17, 18, 19, 20, 21, 22, 23, 24, 25, 26, 27, 28, 29, 30, 31, 32, 33, 34, 35, 36, 37, 38, 39, 40, 41, 42, 43, 44, 45, 46, 47, 48, 49, 50, 51, 52, 53, 54, 55, 56, 57, 58, 59, 60, 61, 62, 63, 64, 65, 66, 67, 68, 69, 70, 71, 72, 73, 74, 75, 76, 77, 78, 79, 80, 81, 82, 83, 84, 85, 86, 87, 88, 89, 90, 91, 92, 93, 94, 95, 96, 97, 98, 99, 100, 101, 102, 103, 104, 105, 106, 107, 108, 109, 110, 111, 112, 113, 114, 115, 116, 117, 118, 119, 120, 121, 122, 123, 124, 125, 126, 127, 128, 129, 130, 131, 132, 133, 134, 135, 136, 137, 138] | 200001 => [49] | 200016 => [115] | 200018 => [138] | _ => []
def ps_spec_l8Fault_0 : List (Pat RT) := [.rptr [(.int .i64), (.int .i64), (.int .i64), (.int .i64), (.rs .impl_Entry), (.int .i64), (.int .i64), (.rs .i64), (.rs .i64), (.rs .i64)], .flat .dead, .flat .dead, .flat .dead, .flat (.int .i64), .flat (.int .i64), .flat .dead, .flat .dead, .flat .dead, .flat .dead, .flat .dead, .flat .dead, .flat .dead, .flat .dead, .flat .dead, .flat .dead, .flat .dead, .flat .dead, .flat .dead, .flat .dead, .flat .dead, .flat .dead, .flat .dead, .flat .dead, .flat .dead, .flat .dead, .flat .dead, .flat .dead, .flat .dead, .flat .dead, .flat .dead, .flat .dead, .flat .dead, .flat .dead, .flat .dead, .flat .dead, .flat .dead, .flat .dead, .flat .dead, .flat .dead, .flat .dead, .flat .dead, .flat .dead, .flat .dead, .flat .dead, .flat .dead, .flat .dead, .flat .dead, .flat .dead, .flat .dead, .flat .dead, .flat .dead, .flat .dead, .flat .dead, .flat .dead, .flat .dead, .flat .dead, .flat .dead, .flat .dead, .flat .dead, .flat .dead, .flat .dead, .flat .dead, .flat .dead, .flat .dead, .flat .dead, .flat .dead, .flat .dead, .flat .dead, .flat .dead, .flat .dead, .flat .dead, .flat .dead, .flat .dead, .flat .dead, .flat .dead, .flat .dead, .flat .dead, .flat .dead, .flat .dead, .flat .dead, .flat .dead, .flat .dead, .flat .dead, .flat .dead, .flat .dead, .flat .dead, .flat .dead, .flat .dead, .flat .dead, .flat .dead, .flat .dead, .flat .dead, .flat .dead, .flat .dead, .flat .dead, .flat .dead, .flat .dead, .flat .dead, .flat .dead, .flat .dead, .flat .dead, .flat .dead, .flat .dead, .flat .dead, .flat .dead, .flat .dead, .flat .dead, .flat .dead, .flat .dead, .flat .dead, .flat .dead, .flat .dead, .flat .dead, .flat .dead, .flat .dead, .flat .dead, .flat .dead, .flat .dead, .flat .dead, .flat .dead, .flat .dead, .flat .dead, .flat .dead, .flat .dead, .flat .dead, .flat .dead, .flat .dead, .flat .dead, .flat .dead, .flat .dead, .flat .dead, .flat .dead, .flat .dead, .flat .dead, .flat .dead, .flat .dead, .flat .dead, .flat .dead]
def os_spec_l8Fault_0 : List (OP RT) := []
def conv_spec_l8Fault_0 (r : Raw den ps_spec_l8Fault_0 os_spec_l8Fault_0) : (Int × Int × Int × Int × (Sl S_impl_Entry) × Int × Int × (Sl Int) × (Sl Int) × (Sl Int) × Int) × (Int) := ((r.1.1.1, r.1.1.2.1, r.1.1.2.2.1, r.1.1.2.2.2.1, r.1.1.2.2.2.2.1, r.1.1.2.2.2.2.2.1, r.1.1.2.2.2.2.2.2.1, r.1.1.2.2.2.2.2.2.2.1, r.1.1.2.2.2.2.2.2.2.2.1, r.1.1.2.2.2.2.2.2.2.2.2.1, r.1.2.2.2.2.1), r.1.2.2.2.2.2.1)
def back_spec_l8Fault_0 (c : Int × Int × Int × Int × (Sl S_impl_Entry) × Int × Int × (Sl Int) × (Sl Int) × (Sl Int) × Int) (w : Int) : St RT den := ⟨[(.rptr [(.int .i64 c.1), (.int .i64 c.2.1), (.int .i64 c.2.2.1), (.int .i64 c.2.2.2.1), (.rs c.2.2.2.2.1.z .impl_Entry c.2.2.2.2.1.n c.2.2.2.2.1.f), (.int .i64 c.2.2.2.2.2.1), (.int .i64 c.2.2.2.2.2.2.1), (.rs c.2.2.2.2.2.2.2.1.z .i64 c.2.2.2.2.2.2.2.1.n c.2.2.2.2.2.2.2.1.f), (.rs c.2.2.2.2.2.2.2.2.1.z .i64 c.2.2.2.2.2.2.2.2.1.n c.2.2.2.2.2.2.2.2.1.f), (.rs c.2.2.2.2.2.2.2.2.2.1.z .i64 c.2.2.2.2.2.2.2.2.2.1.n c.2.2.2.2.2.2.2.2.2.1.f)]), .dead, .dead, .dead, (.int .i64 c.2.2.2.2.2.2.2.2.2.2), (.int .i64 w), .dead, .dead, .dead, .dead, .dead, .dead, .dead, .dead, .dead, .dead, .dead, .dead, .dead, .dead, .dead, .dead, .dead, .dead, .dead, .dead, .dead, .dead, .dead, .dead, .dead, .dead, .dead, .dead, .dead, .dead, .dead, .dead, .dead, .dead, .dead, .dead, .dead, .dead, .dead, .dead, .dead, .dead, .dead, .dead, .dead, .dead, .dead, .dead, .dead, .dead, .dead, .dead, .dead, .dead, .dead, .dead, .dead, .dead, .dead, .dead, .dead, .dead, .dead, .dead, .dead, .dead, .dead, .dead, .dead, .dead, .dead, .dead, .dead, .dead, .dead, .dead, .dead, .dead, .dead, .dead, .dead, .dead, .dead, .dead, .dead, .dead, .dead, .dead, .dead, .dead, .dead, .dead, .dead, .dead, .dead, .dead, .dead, .dead, .dead, .dead, .dead, .dead, .dead, .dead, .dead, .dead, .dead, .dead, .dead, .dead, .dead, .dead, .dead, .dead, .dead, .dead, .dead, .dead, .dead, .dead, .dead, .dead, .dead, .dead, .dead, .dead, .dead, .dead, .dead, .dead, .dead, .dead, .dead], []⟩
def Bk_spec_l8Fault_0 {ρ : Type} (fu : Nat) (c : Int × Int × Int × Int × (Sl S_impl_Entry) × Int × Int × (Sl Int) × (Sl Int) × (Sl Int) × Int) (k : Ex → St RT den → Option ρ) (w : Int) (go : (Int) → Option ρ) : Option ρ := F_spec_l8Fault_B0 fu c.1 c.2.1 c.2.2.1 c.2.2.2.1 c.2.2.2.2.1 c.2.2.2.2.2.1 c.2.2.2.2.2.2.1 c.2.2.2.2.2.2.2.1 c.2.2.2.2.2.2.2.2.1 c.2.2.2.2.2.2.2.2.2.1 c.2.2.2.2.2.2.2.2.2.2 (k .ret ⟨[(.rptr [(.int .i64 c.1), (.int .i64 c.2.1), (.int .i64 c.2.2.1), (.int .i64 c.2.2.2.1), (.rs c.2.2.2.2.1.z .impl_Entry c.2.2.2.2.1.n c.2.2.2.2.1.f), (.int .i64 c.2.2.2.2.2.1), (.int .i64 c.2.2.2.2.2.2.1), (.rs c.2.2.2.2.2.2.2.1.z .i64 c.2.2.2.2.2.2.2.1.n c.2.2.2.2.2.2.2.1.f), (.rs c.2.2.2.2.2.2.2.2.1.z .i64 c.2.2.2.2.2.2.2.2.1.n c.2.2.2.2.2.2.2.2.1.f), (.rs c.2.2.2.2.2.2.2.2.2.1.z .i64 c.2.2.2.2.2.2.2.2.2.1.n c.2.2.2.2.2.2.2.2.2.1.f)]), .dead, (.int .i64 3), .dead, .dead, .dead, .dead, .dead, .dead, .dead, .dead, .dead, .dead, .dead, .dead, .dead, .dead, .dead, .dead, .dead, .dead, .dead, .dead, .dead, .dead, .dead, .dead, .dead, .dead, .dead, .dead, .dead, .dead, .dead, .dead, .dead, .dead, .dead, .dead, .dead, .dead, .dead, .dead, .dead, .dead, .dead, .dead, .dead, .dead, .dead, .dead, .dead, .dead, .dead, .dead, .dead, .dead, .dead, .dead, .dead, .dead, .dead, .dead, .dead, .dead, .dead, .dead, .dead, .dead, .dead, .dead, .dead, .dead, .dead, .dead, .dead, .dead, .dead, .dead, .dead, .dead, .dead, .dead, .dead, .dead, .dead, .dead, .dead, .dead, .dead, .dead, .dead, .dead, .dead, .dead, .dead, .dead, .dead, .dead, .dead, .dead, .dead, .dead, .dead, .dead, .dead, .dead, .dead, .dead, .dead, .dead, .dead, .dead, .dead, .dead, .dead, .dead, .dead, .dead, .dead, .dead, .dead, .dead, .dead, .dead, .dead, .dead, .dead, .dead, .dead, .dead, .dead, .dead, .dead, .dead, .dead, .dead, .dead, .dead], []⟩) (k (.exit 0) ⟨[(.rptr [(.int .i64 c.1), (.int .i64 c.2.1), (.int .i64 c.2.2.1), (.int .i64 c.2.2.2.1), (.rs c.2.2.2.2.1.z .impl_Entry c.2.2.2.2.1.n c.2.2.2.2.1.f), (.int .i64 c.2.2.2.2.2.1), (.int .i64 c.2.2.2.2.2.2.1), (.rs c.2.2.2.2.2.2.2.1.z .i64 c.2.2.2.2.2.2.2.1.n c.2.2.2.2.2.2.2.1.f), (.rs c.2.2.2.2.2.2.2.2.1.z .i64 c.2.2.2.2.2.2.2.2.1.n c.2.2.2.2.2.2.2.2.1.f), (.rs c.2.2.2.2.2.2.2.2.2.1.z .i64 c.2.2.2.2.2.2.2.2.2.1.n c.2.2.2.2.2.2.2.2.2.1.f)]), .dead, .dead, .dead, .dead, .dead, .dead, .dead, .dead, .dead, .dead, .dead, .dead, .dead, .dead, .dead, .dead, .dead, .dead, .dead, .dead, .dead, .dead, .dead, .dead, .dead, .dead, .dead, .dead, .dead, .dead, .dead, .dead, .dead, .dead, .dead, .dead, .dead, .dead, .dead, .dead, .dead, .dead, .dead, .dead, .dead, .dead, .dead, .dead, .dead, .dead, .dead, .dead, .dead, .dead, .dead, .dead, .dead, .dead, .dead, .dead, .dead, .dead, .dead, .dead, .dead, .dead, .dead, .dead, .dead, .dead, .dead, .dead, .dead, .dead, .dead, .dead, .dead, .dead, .dead, .dead, .dead, .dead, .dead, .dead, .dead, .dead, .dead, .dead, .dead, .dead, .dead, .dead, .dead, .dead, .dead, .dead, .dead, .dead, .dead, .dead, .dead, .dead, .dead, .dead, .dead, .dead, .dead, .dead, .dead, .dead, .dead, .dead, .dead, .dead, .dead, .dead, .dead, .dead, .dead, .dead, .dead, .dead, .dead, .dead, .dead, .dead, .dead, .dead, .dead, .dead, .dead, .dead, .dead, .dead, .dead, .dead, .dead, .dead], []⟩) w go
def lp_spec_l8Fault (fu : Nat) : Lp RT den (Int) := fun b s k => match b with | 0 => handle ps_spec_l8Fault_0 os_spec_l8Fault_0 conv_spec_l8Fault_0 (Bk_spec_l8Fault_0 fu) fu s k | _ => none
theorem ev_spec_l8Fault (fu : Nat) (t_0 : S_impl_Node) : evFun E (pc_spec_l8Fault fu) msk_spec_l8Fault (lp_spec_l8Fault fu) out_i64 36 [(.rptr [(.int .i64 t_0.Id), (.int .i64 t_0.Peers), (.int .i64 t_0.Term), (.int .i64 t_0.Voted), (.rs t_0.Log.z .impl_Entry t_0.Log.n t_0.Log.f), (.int .i64 t_0.Role), (.int .i64 t_0.Commit), (.rs t_0.Votes.z .i64 t_0.Votes.n t_0.Votes.f), (.rs t_0.Next.z .i64 t_0.Next.n t_0.Next.f), (.rs t_0.Match.z .i64 t_0.Match.n t_0.Match.f)])] = F_spec_l8Fault fu t_0 := by kernel_rfl
noncomputable def body_spec_l8Fault : Code := Try.f36.body.getD .skip
noncomputable def lc_spec_l8Fault_0 : Code := ((loops 0 body_spec_l8Fault).getD 0 (0, .skip)).2
theorem round_spec_l8Fault_0 (fu : Nat) (it : St RT den → Option (Int)) (k : Ex → St RT den → Option (Int)) c w : evCode E (pc_spec_l8Fault fu) msk_spec_l8Fault (lp_spec_l8Fault fu) 0 lc_spec_l8Fault_0 (back_spec_l8Fault_0 c w) (after (msk_spec_l8Fault 0) (msk_spec_l8Fault 100000) 0 it k) = Bk_spec_l8Fault_0 fu c k w (fun w => it (back_spec_l8Fault_0 c w)) := by kernel_rfl
theorem lpok_spec_l8Fault_0 (fu : Nat) : ∀ s k r, lp_spec_l8Fault fu 0 s k = some r → ∃ fuel, iter (msk_spec_l8Fault 0) (msk_spec_l8Fault 100000) s.objs.length (evCode E (pc_spec_l8Fault fu) msk_spec_l8Fault (lp_spec_l8Fault fu) 0 lc_spec_l8Fault_0) fuel s k = some r :=
  handle_ok (ps := ps_spec_l8Fault_0) (os := os_spec_l8Fault_0) (conv := conv_spec_l8Fault_0) (B := Bk_spec_l8Fault_0 fu) (fu := fu) back_spec_l8Fault_0 (fun raw => by kernel_rfl) 0 (fun c w => by kernel_rfl) (round_spec_l8Fault_0 fu)
theorem lpok_spec_l8Fault (fu : Nat) : LpOk E (pc_spec_l8Fault fu) msk_spec_l8Fault (lp_spec_l8Fault fu) (loops 0 body_spec_l8Fault) := loop_all 1 (by kernel_rfl) fun i hi => match i, hi with
  | 0, _ => by
    have h : (loops 0 body_spec_l8Fault).getD 0 (0, .skip) = (0, lc_spec_l8Fault_0) := by kernel_rfl
    rw [h]; exact lpok_spec_l8Fault_0 fu
  | i + 1, hi => absurd hi (by omega)
def S_spec_l8Fault (fu : Nat) (xs : List (D RT den)) : Option (Out RT den) := match xs with | [.rptr (.int .i64 a0_1 :: .int .i64 a0_2 :: .int .i64 a0_3 :: .int .i64 a0_4 :: .rs za0_5 .impl_Entry na0_5 fa0_5 :: .int .i64 a0_6 :: .int .i64 a0_7 :: .rs za0_8 .i64 na0_8 fa0_8 :: .rs za0_9 .i64 na0_9 fa0_9 :: .rs za0_10 .i64 na0_10 fa0_10 :: ra0)] => some ⟨Int, F_spec_l8Fault fu (⟨a0_1, a0_2, a0_3, a0_4, (⟨za0_5, na0_5, fa0_5⟩ : (Sl S_impl_Entry)), a0_6, a0_7, (⟨za0_8, na0_8, fa0_8⟩ : (Sl Int)), (⟨za0_9, na0_9, fa0_9⟩ : (Sl Int)), (⟨za0_10, na0_10, fa0_10⟩ : (Sl Int))⟩ : S_impl_Node), enc_i64, fun _ => true⟩ | _ => none
theorem hpc_spec_l8Fault (fu : Nat) : ∀ f xs o, pcf_spec_l8Fault fu f xs = some o → ∀ y, o.x = some y → Good E Try.prog f xs (o.g y) := by
  intro f xs o h
  unfold pcf_spec_l8Fault at h
  split at h
  · exact good_spec_LastOf fu xs o h
  · exact good_spec_l1In fu xs o h
  · exact good_spec_LogFault fu xs o h
  · exact good_spec_l8Id fu xs o h
  · exact good_spec_l8Lists fu xs o h
  · cases h
theorem hpx_spec_l8Fault (fu : Nat) : ∀ f xs ins o, pcx_spec_l8Fault fu f xs ins = some o → ∀ y, o.x = some y → GoodX E Try.prog f xs ins (o.g y).1 (o.g y).2 := by
  intro f xs ins o h
  cases h
theorem goodv_spec_l8Fault (fu : Nat) (t_0 : S_impl_Node) (y : Int) (hy : F_spec_l8Fault fu t_0 = some y) : Good E Try.prog 36 [(.rptr [(.int .i64 t_0.Id), (.int .i64 t_0.Peers), (.int .i64 t_0.Term), (.int .i64 t_0.Voted), (.rs t_0.Log.z .impl_Entry t_0.Log.n t_0.Log.f), (.int .i64 t_0.Role), (.int .i64 t_0.Commit), (.rs t_0.Votes.z .i64 t_0.Votes.n t_0.Votes.f), (.rs t_0.Next.z .i64 t_0.Next.n t_0.Next.f), (.rs t_0.Match.z .i64 t_0.Match.n t_0.Match.f)])] (enc_i64 y) :=
  fun_good E_ok (pc_good (pc := pc_spec_l8Fault fu) (hpc_spec_l8Fault fu) (hpx_spec_l8Fault fu)) (fn := Try.f36) (c := body_spec_l8Fault) (out := out_i64) (y := y) (by kernel_rfl) (by kernel_rfl) (by kernel_rfl) (lpok_spec_l8Fault fu) (fun d hd => out_i64_enc d _ hd) ((ev_spec_l8Fault fu t_0).trans hy)
theorem good_spec_l8Fault (fu : Nat) : ∀ xs o, S_spec_l8Fault fu xs = some o → ∀ y, o.x = some y → Good E Try.prog 36 xs (o.g y) := by
  intro xs o h y hy
  unfold S_spec_l8Fault at h
  split at h
  · rename_i a0_1 a0_2 a0_3 a0_4 za0_5 na0_5 fa0_5 a0_6 a0_7 za0_8 na0_8 fa0_8 za0_9 na0_9 fa0_9 za0_10 na0_10 fa0_10 ra0
    cases h
    exact (goodv_spec_l8Fault fu (⟨a0_1, a0_2, a0_3, a0_4, (⟨za0_5, na0_5, fa0_5⟩ : (Sl S_impl_Entry)), a0_6, a0_7, (⟨za0_8, na0_8, fa0_8⟩ : (Sl Int)), (⟨za0_9, na0_9, fa0_9⟩ : (Sl Int)), (⟨za0_10, na0_10, fa0_10⟩ : (Sl Int))⟩ : S_impl_Node) y hy).sub ⟨Sub.of_eq ra0 rfl, trivial⟩
  · cases h

/-! spec.l8Bad -/
def F_spec_l8Bad_E (fu : Nat) (c_0 : Int) : Option (S_impl_NodeResult) :=
  (some (⟨c_0, (⟨0, 0, 0, 0, (⟨(some true), 0, (fun _ => dflt .impl_Entry)⟩ : (Sl S_impl_Entry)), 0, 0, (⟨(some true), 0, (fun _ => dflt .i64)⟩ : (Sl Int)), (⟨(some true), 0, (fun _ =>
    dflt .i64)⟩ : (Sl Int)), (⟨(some true), 0, (fun _ => dflt .i64)⟩ : (Sl Int))⟩ : S_impl_Node), (⟨(some true), 0, (fun _ => dflt .impl_Mail)⟩ : (Sl S_impl_Mail))⟩ : S_impl_NodeResult))
def pcf_spec_l8Bad_E (fu : Nat) (f : Nat) (xs : List (D RT den)) : Option (Out RT den) := none
def pcx_spec_l8Bad_E (fu : Nat) (f : Nat) (xs : List (D RT den)) (ins : List (Ob RT den)) : Option (OutX RT den) := none
def pc_spec_l8Bad_E (fu : Nat) : Pc RT den := ⟨pcf_spec_l8Bad_E fu, fun _ => false, fun _ => false, pcx_spec_l8Bad_E fu⟩
def msk_spec_l8Bad_E (b : Nat) : List Nat := []
def lp_spec_l8Bad_E (fu : Nat) : Lp RT den (S_impl_NodeResult) := fun b s k => none
theorem ev_spec_l8Bad_E (fu : Nat) (c_0 : Int) : evFunX E true (pc_spec_l8Bad_E fu) msk_spec_l8Bad_E (lp_spec_l8Bad_E fu) out_impl_NodeResult_E 37 [(.int .i64 c_0)] [] = F_spec_l8Bad_E fu c_0 := by kernel_rfl
noncomputable def body_spec_l8Bad_E : Code := Try.f37.body.getD .skip
theorem lpok_spec_l8Bad_E (fu : Nat) : LpOk E (pc_spec_l8Bad_E fu) msk_spec_l8Bad_E (lp_spec_l8Bad_E fu) (loops 0 body_spec_l8Bad_E) := by
  have h : loops 0 body_spec_l8Bad_E = [] := by kernel_rfl
  rw [h]; intro p hp; cases hp
def S_spec_l8Bad_E (fu : Nat) (xs : List (D RT den)) (ins : List (Ob RT den)) : Option (OutX RT den) := match xs, ins with | [.int .i64 a0_0], [] => some ⟨S_impl_NodeResult, F_spec_l8Bad_E fu a0_0, enc_impl_NodeResult_E⟩ | _, _ => none
theorem hpc_spec_l8Bad_E (fu : Nat) : ∀ f xs o, pcf_spec_l8Bad_E fu f xs = some o → ∀ y, o.x = some y → Good E Try.prog f xs (o.g y) := by
  intro f xs o h
  cases h
theorem hpx_spec_l8Bad_E (fu : Nat) : ∀ f xs ins o, pcx_spec_l8Bad_E fu f xs ins = some o → ∀ y, o.x = some y → GoodX E Try.prog f xs ins (o.g y).1 (o.g y).2 := by
  intro f xs ins o h
  cases h
theorem goodv_spec_l8Bad_E (fu : Nat) (c_0 : Int) (y : S_impl_NodeResult) (hy : F_spec_l8Bad_E fu c_0 = some y) : GoodX E Try.prog 37 [(.int .i64 c_0)] [] (enc_impl_NodeResult_E y).1 (enc_impl_NodeResult_E y).2 :=
  funX_good (ke := true) E_ok (pc_good (pc := pc_spec_l8Bad_E fu) (hpc_spec_l8Bad_E fu) (hpx_spec_l8Bad_E fu)) (fn := Try.f37) (c := body_spec_l8Bad_E) (out := out_impl_NodeResult_E) (y := y) (by kernel_rfl) (by kernel_rfl) (by kernel_rfl) (lpok_spec_l8Bad_E fu) (by kernel_rfl) (Nat.zero_le _) (fun d os hd => out_impl_NodeResult_E_enc d os _ hd) ((ev_spec_l8Bad_E fu c_0).trans hy)
theorem good_spec_l8Bad_E (fu : Nat) : ∀ xs ins o, S_spec_l8Bad_E fu xs ins = some o → ∀ y, o.x = some y → GoodX E Try.prog 37 xs ins (o.g y).1 (o.g y).2 := by
  intro xs ins o h y hy
  unfold S_spec_l8Bad_E at h
  split at h
  · rename_i a0_0
    cases h
    exact goodv_spec_l8Bad_E fu a0_0 y hy
  · cases h

/-! spec.l7Copy -/
def F_spec_l7Copy_H (fu : Nat) (log_0 : (Sl S_impl_Entry)) : Option ((Sl S_impl_Entry)) :=
  (bif (decide (log_0.n ≤ 9223372036854775807) && decide (log_0.n * 72 ≤ 140737488355328)) then (some (⟨none, log_0.n, log_0.f⟩ : (Sl S_impl_Entry))) else none)
def pcf_spec_l7Copy_H (fu : Nat) (f : Nat) (xs : List (D RT den)) : Option (Out RT den) := none
def pcx_spec_l7Copy_H (fu : Nat) (f : Nat) (xs : List (D RT den)) (ins : List (Ob RT den)) : Option (OutX RT den) := none
def pc_spec_l7Copy_H (fu : Nat) : Pc RT den := ⟨pcf_spec_l7Copy_H fu, fun _ => false, fun _ => false, pcx_spec_l7Copy_H fu⟩
def msk_spec_l7Copy_H (b : Nat) : List Nat := []
def lp_spec_l7Copy_H (fu : Nat) : Lp RT den ((Sl S_impl_Entry)) := fun b s k => none
theorem ev_spec_l7Copy_H (fu : Nat) (log_0 : (Sl S_impl_Entry)) : evFunX E false (pc_spec_l7Copy_H fu) msk_spec_l7Copy_H (lp_spec_l7Copy_H fu) out_sl_impl_Entry_H 73 [(.rs log_0.z .impl_Entry log_0.n log_0.f)] [] = F_spec_l7Copy_H fu log_0 := by kernel_rfl
noncomputable def body_spec_l7Copy_H : Code := Try.f73.body.getD .skip
theorem lpok_spec_l7Copy_H (fu : Nat) : LpOk E (pc_spec_l7Copy_H fu) msk_spec_l7Copy_H (lp_spec_l7Copy_H fu) (loops 0 body_spec_l7Copy_H) := by
  have h : loops 0 body_spec_l7Copy_H = [] := by kernel_rfl
  rw [h]; intro p hp; cases hp
def S_spec_l7Copy_H (fu : Nat) (xs : List (D RT den)) (ins : List (Ob RT den)) : Option (OutX RT den) := match xs, ins with | [.rs za0_0 .impl_Entry na0_0 fa0_0], [] => some ⟨(Sl S_impl_Entry), F_spec_l7Copy_H fu (⟨za0_0, na0_0, fa0_0⟩ : (Sl S_impl_Entry)), enc_sl_impl_Entry_H⟩ | _, _ => none
theorem hpc_spec_l7Copy_H (fu : Nat) : ∀ f xs o, pcf_spec_l7Copy_H fu f xs = some o → ∀ y, o.x = some y → Good E Try.prog f xs (o.g y) := by
  intro f xs o h
  cases h
theorem hpx_spec_l7Copy_H (fu : Nat) : ∀ f xs ins o, pcx_spec_l7Copy_H fu f xs ins = some o → ∀ y, o.x = some y → GoodX E Try.prog f xs ins (o.g y).1 (o.g y).2 := by
  intro f xs ins o h
  cases h
theorem goodv_spec_l7Copy_H (fu : Nat) (log_0 : (Sl S_impl_Entry)) (y : (Sl S_impl_Entry)) (hy : F_spec_l7Copy_H fu log_0 = some y) : GoodX E Try.prog 73 [(.rs log_0.z .impl_Entry log_0.n log_0.f)] [] (enc_sl_impl_Entry_H y).1 (enc_sl_impl_Entry_H y).2 :=
  funX_good (ke := false) E_ok (pc_good (pc := pc_spec_l7Copy_H fu) (hpc_spec_l7Copy_H fu) (hpx_spec_l7Copy_H fu)) (fn := Try.f73) (c := body_spec_l7Copy_H) (out := out_sl_impl_Entry_H) (y := y) (by kernel_rfl) (by kernel_rfl) (by kernel_rfl) (lpok_spec_l7Copy_H fu) (by kernel_rfl) (Nat.zero_le _) (fun d os hd => out_sl_impl_Entry_H_enc d os _ hd) ((ev_spec_l7Copy_H fu log_0).trans hy)
theorem good_spec_l7Copy_H (fu : Nat) : ∀ xs ins o, S_spec_l7Copy_H fu xs ins = some o → ∀ y, o.x = some y → GoodX E Try.prog 73 xs ins (o.g y).1 (o.g y).2 := by
  intro xs ins o h y hy
  unfold S_spec_l7Copy_H at h
  split at h
  · rename_i za0_0 na0_0 fa0_0
    cases h
    exact goodv_spec_l7Copy_H fu (⟨za0_0, na0_0, fa0_0⟩ : (Sl S_impl_Entry)) y hy
  · cases h

/-! spec.l8Copy -/
def F_spec_l8Copy_H (fu : Nat) (n_0 : S_impl_Node) : Option (S_impl_Node) :=
  ((F_spec_l7Copy_H fu n_0.Log).bind fun y102 => (bif (decide (n_0.Votes.n ≤ 9223372036854775807) && decide (n_0.Votes.n * 8 ≤ 140737488355328)) then (bif (decide (n_0.Next.n ≤ 9223372036854775807) &&
    decide (n_0.Next.n * 8 ≤ 140737488355328)) then (bif (decide (n_0.Match.n ≤ 9223372036854775807) && decide (n_0.Match.n * 8 ≤ 140737488355328)) then (some (⟨n_0.Id, n_0.Peers,
    n_0.Term, n_0.Voted, (⟨none, y102.n, y102.f⟩ : (Sl S_impl_Entry)), n_0.Role, n_0.Commit, (⟨none, n_0.Votes.n, n_0.Votes.f⟩ : (Sl Int)), (⟨none, n_0.Next.n, n_0.Next.f⟩ : (Sl Int)),
    (⟨none, n_0.Match.n, n_0.Match.f⟩ : (Sl Int))⟩ : S_impl_Node)) else none) else none) else none))
def pcf_spec_l8Copy_H (fu : Nat) (f : Nat) (xs : List (D RT den)) : Option (Out RT den) := none
def pcx_spec_l8Copy_H (fu : Nat) (f : Nat) (xs : List (D RT den)) (ins : List (Ob RT den)) : Option (OutX RT den) := match f with | 73 => S_spec_l7Copy_H fu xs ins | _ => none
def pc_spec_l8Copy_H (fu : Nat) : Pc RT den := ⟨pcf_spec_l8Copy_H fu, fun f => match f with | 73 => true | _ => false, fun _ => false, pcx_spec_l8Copy_H fu⟩
def msk_spec_l8Copy_H (b : Nat) : List Nat := []
def lp_spec_l8Copy_H (fu : Nat) : Lp RT den (S_impl_Node) := fun b s k => none
theorem ev_spec_l8Copy_H (fu : Nat) (n_0 : S_impl_Node) : evFunX E false (pc_spec_l8Copy_H fu) msk_spec_l8Copy_H (lp_spec_l8Copy_H fu) out_impl_Node_H 38 [(.agg [(.int .i64 n_0.Id), (.int .i64 n_0.Peers), (.int .i64 n_0.Term), (.int .i64 n_0.Voted), (.rs n_0.Log.z .impl_Entry n_0.Log.n n_0.Log.f), (.int .i64 n_0.Role), (.int .i64 n_0.Commit), (.rs n_0.Votes.z .i64 n_0.Votes.n n_0.Votes.f), (.rs n_0.Next.z .i64 n_0.Next.n n_0.Next.f), (.rs n_0.Match.z .i64 n_0.Match.n n_0.Match.f)])] [] = F_spec_l8Copy_H fu n_0 := by kernel_rfl
noncomputable def body_spec_l8Copy_H : Code := Try.f38.body.getD .skip
theorem lpok_spec_l8Copy_H (fu : Nat) : LpOk E (pc_spec_l8Copy_H fu) msk_spec_l8Copy_H (lp_spec_l8Copy_H fu) (loops 0 body_spec_l8Copy_H) := by
  have h : loops 0 body_spec_l8Copy_H = [] := by kernel_rfl
  rw [h]; intro p hp; cases hp
def S_spec_l8Copy_H (fu : Nat) (xs : List (D RT den)) (ins : List (Ob RT den)) : Option (OutX RT den) := match xs, ins with | [.agg [.int .i64 a0_1, .int .i64 a0_2, .int .i64 a0_3, .int .i64 a0_4, .rs za0_5 .impl_Entry na0_5 fa0_5, .int .i64 a0_6, .int .i64 a0_7, .rs za0_8 .i64 na0_8 fa0_8, .rs za0_9 .i64 na0_9 fa0_9, .rs za0_10 .i64 na0_10 fa0_10]], [] => some ⟨S_impl_Node, F_spec_l8Copy_H fu (⟨a0_1, a0_2, a0_3, a0_4, (⟨za0_5, na0_5, fa0_5⟩ : (Sl S_impl_Entry)), a0_6, a0_7, (⟨za0_8, na0_8, fa0_8⟩ : (Sl Int)), (⟨za0_9, na0_9, fa0_9⟩ : (Sl Int)), (⟨za0_10, na0_10, fa0_10⟩ : (Sl Int))⟩ : S_impl_Node), enc_impl_Node_H⟩ | _, _ => none
theorem hpc_spec_l8Copy_H (fu : Nat) : ∀ f xs o, pcf_spec_l8Copy_H fu f xs = some o → ∀ y, o.x = some y → Good E Try.prog f xs (o.g y) := by
  intro f xs o h
  cases h
theorem hpx_spec_l8Copy_H (fu : Nat) : ∀ f xs ins o, pcx_spec_l8Copy_H fu f xs ins = some o → ∀ y, o.x = some y → GoodX E Try.prog f xs ins (o.g y).1 (o.g y).2 := by
  intro f xs ins o h
  unfold pcx_spec_l8Copy_H at h
  split at h
  · exact good_spec_l7Copy_H fu xs ins o h
  · cases h
theorem goodv_spec_l8Copy_H (fu : Nat) (n_0 : S_impl_Node) (y : S_impl_Node) (hy : F_spec_l8Copy_H fu n_0 = some y) : GoodX E Try.prog 38 [(.agg [(.int .i64 n_0.Id), (.int .i64 n_0.Peers), (.int .i64 n_0.Term), (.int .i64 n_0.Voted), (.rs n_0.Log.z .impl_Entry n_0.Log.n n_0.Log.f), (.int .i64 n_0.Role), (.int .i64 n_0.Commit), (.rs n_0.Votes.z .i64 n_0.Votes.n n_0.Votes.f), (.rs n_0.Next.z .i64 n_0.Next.n n_0.Next.f), (.rs n_0.Match.z .i64 n_0.Match.n n_0.Match.f)])] [] (enc_impl_Node_H y).1 (enc_impl_Node_H y).2 :=
  funX_good (ke := false) E_ok (pc_good (pc := pc_spec_l8Copy_H fu) (hpc_spec_l8Copy_H fu) (hpx_spec_l8Copy_H fu)) (fn := Try.f38) (c := body_spec_l8Copy_H) (out := out_impl_Node_H) (y := y) (by kernel_rfl) (by kernel_rfl) (by kernel_rfl) (lpok_spec_l8Copy_H fu) (by kernel_rfl) (Nat.zero_le _) (fun d os hd => out_impl_Node_H_enc d os _ hd) ((ev_spec_l8Copy_H fu n_0).trans hy)
theorem good_spec_l8Copy_H (fu : Nat) : ∀ xs ins o, S_spec_l8Copy_H fu xs ins = some o → ∀ y, o.x = some y → GoodX E Try.prog 38 xs ins (o.g y).1 (o.g y).2 := by
  intro xs ins o h y hy
  unfold S_spec_l8Copy_H at h
  split at h
  · rename_i a0_1 a0_2 a0_3 a0_4 za0_5 na0_5 fa0_5 a0_6 a0_7 za0_8 na0_8 fa0_8 za0_9 na0_9 fa0_9 za0_10 na0_10 fa0_10
    cases h
    exact goodv_spec_l8Copy_H fu (⟨a0_1, a0_2, a0_3, a0_4, (⟨za0_5, na0_5, fa0_5⟩ : (Sl S_impl_Entry)), a0_6, a0_7, (⟨za0_8, na0_8, fa0_8⟩ : (Sl Int)), (⟨za0_9, na0_9, fa0_9⟩ : (Sl Int)), (⟨za0_10, na0_10, fa0_10⟩ : (Sl Int))⟩ : S_impl_Node) y hy
  · cases h

/-! spec.l8Quorum -/
def F_spec_l8Quorum (fu : Nat) (n_0 : S_impl_Node) (count_1 : Int) : Option (Bool) :=
  (some (decide ((IntKind.wrap .i64 (2 * count_1)) > n_0.Peers)))
def pcf_spec_l8Quorum (fu : Nat) (f : Nat) (xs : List (D RT den)) : Option (Out RT den) := none
def pcx_spec_l8Quorum (fu : Nat) (f : Nat) (xs : List (D RT den)) (ins : List (Ob RT den)) : Option (OutX RT den) := none
def pc_spec_l8Quorum (fu : Nat) : Pc RT den := ⟨pcf_spec_l8Quorum fu, fun _ => false, fun _ => false, pcx_spec_l8Quorum fu⟩
def msk_spec_l8Quorum (b : Nat) : List Nat := []
def lp_spec_l8Quorum (fu : Nat) : Lp RT den (Bool) := fun b s k => none
theorem ev_spec_l8Quorum (fu : Nat) (n_0 : S_impl_Node) (count_1 : Int) : evFun E (pc_spec_l8Quorum fu) msk_spec_l8Quorum (lp_spec_l8Quorum fu) out_bo 63 [(.rptr [(.int .i64 n_0.Id), (.int .i64 n_0.Peers), (.int .i64 n_0.Term), (.int .i64 n_0.Voted), (.rs n_0.Log.z .impl_Entry n_0.Log.n n_0.Log.f), (.int .i64 n_0.Role), (.int .i64 n_0.Commit), (.rs n_0.Votes.z .i64 n_0.Votes.n n_0.Votes.f), (.rs n_0.Next.z .i64 n_0.Next.n n_0.Next.f), (.rs n_0.Match.z .i64 n_0.Match.n n_0.Match.f)]), (.int .i64 count_1)] = F_spec_l8Quorum fu n_0 count_1 := by kernel_rfl
noncomputable def body_spec_l8Quorum : Code := Try.f63.body.getD .skip
theorem lpok_spec_l8Quorum (fu : Nat) : LpOk E (pc_spec_l8Quorum fu) msk_spec_l8Quorum (lp_spec_l8Quorum fu) (loops 0 body_spec_l8Quorum) := by
  have h : loops 0 body_spec_l8Quorum = [] := by kernel_rfl
  rw [h]; intro p hp; cases hp
def S_spec_l8Quorum (fu : Nat) (xs : List (D RT den)) : Option (Out RT den) := match xs with | [.rptr (.int .i64 a0_1 :: .int .i64 a0_2 :: .int .i64 a0_3 :: .int .i64 a0_4 :: .rs za0_5 .impl_Entry na0_5 fa0_5 :: .int .i64 a0_6 :: .int .i64 a0_7 :: .rs za0_8 .i64 na0_8 fa0_8 :: .rs za0_9 .i64 na0_9 fa0_9 :: .rs za0_10 .i64 na0_10 fa0_10 :: ra0), .int .i64 a1_0] => some ⟨Bool, F_spec_l8Quorum fu (⟨a0_1, a0_2, a0_3, a0_4, (⟨za0_5, na0_5, fa0_5⟩ : (Sl S_impl_Entry)), a0_6, a0_7, (⟨za0_8, na0_8, fa0_8⟩ : (Sl Int)), (⟨za0_9, na0_9, fa0_9⟩ : (Sl Int)), (⟨za0_10, na0_10, fa0_10⟩ : (Sl Int))⟩ : S_impl_Node) a1_0, enc_bo, fun _ => true⟩ | _ => none
theorem hpc_spec_l8Quorum (fu : Nat) : ∀ f xs o, pcf_spec_l8Quorum fu f xs = some o → ∀ y, o.x = some y → Good E Try.prog f xs (o.g y) := by
  intro f xs o h
  cases h
theorem hpx_spec_l8Quorum (fu : Nat) : ∀ f xs ins o, pcx_spec_l8Quorum fu f xs ins = some o → ∀ y, o.x = some y → GoodX E Try.prog f xs ins (o.g y).1 (o.g y).2 := by
  intro f xs ins o h
  cases h
theorem goodv_spec_l8Quorum (fu : Nat) (n_0 : S_impl_Node) (count_1 : Int) (y : Bool) (hy : F_spec_l8Quorum fu n_0 count_1 = some y) : Good E Try.prog 63 [(.rptr [(.int .i64 n_0.Id), (.int .i64 n_0.Peers), (.int .i64 n_0.Term), (.int .i64 n_0.Voted), (.rs n_0.Log.z .impl_Entry n_0.Log.n n_0.Log.f), (.int .i64 n_0.Role), (.int .i64 n_0.Commit), (.rs n_0.Votes.z .i64 n_0.Votes.n n_0.Votes.f), (.rs n_0.Next.z .i64 n_0.Next.n n_0.Next.f), (.rs n_0.Match.z .i64 n_0.Match.n n_0.Match.f)]), (.int .i64 count_1)] (enc_bo y) :=
  fun_good E_ok (pc_good (pc := pc_spec_l8Quorum fu) (hpc_spec_l8Quorum fu) (hpx_spec_l8Quorum fu)) (fn := Try.f63) (c := body_spec_l8Quorum) (out := out_bo) (y := y) (by kernel_rfl) (by kernel_rfl) (by kernel_rfl) (lpok_spec_l8Quorum fu) (fun d hd => out_bo_enc d _ hd) ((ev_spec_l8Quorum fu n_0 count_1).trans hy)
theorem good_spec_l8Quorum (fu : Nat) : ∀ xs o, S_spec_l8Quorum fu xs = some o → ∀ y, o.x = some y → Good E Try.prog 63 xs (o.g y) := by
  intro xs o h y hy
  unfold S_spec_l8Quorum at h
  split at h
  · rename_i a0_1 a0_2 a0_3 a0_4 za0_5 na0_5 fa0_5 a0_6 a0_7 za0_8 na0_8 fa0_8 za0_9 na0_9 fa0_9 za0_10 na0_10 fa0_10 ra0 a1_0
    cases h
    exact (goodv_spec_l8Quorum fu (⟨a0_1, a0_2, a0_3, a0_4, (⟨za0_5, na0_5, fa0_5⟩ : (Sl S_impl_Entry)), a0_6, a0_7, (⟨za0_8, na0_8, fa0_8⟩ : (Sl Int)), (⟨za0_9, na0_9, fa0_9⟩ : (Sl Int)), (⟨za0_10, na0_10, fa0_10⟩ : (Sl Int))⟩ : S_impl_Node) a1_0 y hy).sub ⟨Sub.of_eq ra0 rfl, .refl _, trivial⟩
  · cases h

/-! spec.l8Agree -/
def F_spec_l8Agree_M_B2 {ρ : Type} (fu : Nat) (index2_0 : Int) (o0_3 : Int) (o0_4 : Int) (o0_5 : Int) (o0_6 : Int) (o0_7 : Int) (o0_8 : Nat) (o0_9 : Int) (o0_10 : Int) (o0_11 : Nat) (o0_12 : Nat) (o0_13 : Nat) (on1_14 : Nat) (of1_15 : (Nat → S_impl_Entry)) (on2_16 : Nat) (of2_17 : (Nat → Int)) (on3_18 : Nat) (of3_19 : (Nat → Int)) (on4_20 : Nat) (of4_21 : (Nat → Int)) (k0 : Int → Option ρ) (count3_1 : Int) (i4_2 : Int) (go : Int → Int → Option ρ) : Option ρ :=
  (bif (decide (i4_2 < ((o0_13 : Nat) : Int))) then ((bif (decide (0 ≤ i4_2) && decide ((Int.toNat i4_2) < o0_13)) then some () else none : Option Unit).bind fun _ => (bif (decide ((of4_21 (Int.toNat i4_2)) ≥ index2_0)) then
    (go (IntKind.wrap .i64 (count3_1 + 1)) (IntKind.wrap .i64 (i4_2 + 1))) else (go count3_1 (IntKind.wrap .i64 (i4_2 + 1))))) else (k0 count3_1))
def F_spec_l8Agree_M_B0 {ρ : Type} (fu : Nat) (o0_1 : Int) (o0_2 : Int) (o0_3 : Int) (o0_4 : Int) (o0_5 : Int) (o0_6 : Nat) (o0_7 : Int) (o0_8 : Int) (o0_9 : Nat) (o0_10 : Nat) (o0_11 : Nat) (on1_12 : Nat) (of1_13 : (Nat → S_impl_Entry)) (on2_14 : Nat) (of2_15 : (Nat → Int)) (on3_16 : Nat) (of3_17 : (Nat → Int)) (on4_18 : Nat) (of4_19 : (Nat → Int)) (k0 : Int → Option ρ) (k1 : Option ρ) (index2_0 : Int) (go : Int → Option ρ) : Option ρ :=
  (bif (decide (index2_0 > o0_8)) then (L (fun w2 go2 => F_spec_l8Agree_M_B2 fu index2_0 o0_1 o0_2 o0_3 o0_4 o0_5 o0_6 o0_7 o0_8 o0_9 o0_10 o0_11 on1_12 of1_13 on2_14 of2_15 on3_16 of3_17 on4_18 of4_19 (fun z107 =>
    ((((F_spec_l8Quorum fu (⟨o0_2, o0_3, o0_4, o0_5, (⟨none, o0_6, of1_13⟩ : (Sl S_impl_Entry)), o0_7, o0_8, (⟨none, o0_9, of2_15⟩ : (Sl Int)), (⟨none, o0_10, of3_17⟩ : (Sl Int)),
    (⟨none, o0_11, of4_19⟩ : (Sl Int))⟩ : S_impl_Node) z107).bind fun y108 => (bif y108 then ((bif (decide (0 ≤ (IntKind.wrap .i64 (index2_0 - 1))) && decide ((Int.toNat (IntKind.wrap .i64 (index2_0 - 1))) < o0_6)) then
    some () else none : Option Unit).bind fun _ => (some ((of1_13 (Int.toNat (IntKind.wrap .i64 (index2_0 - 1)))).Term == o0_4))) else (some false))) : Option Bool).bind fun m109 =>
    (bif m109 then (k0 index2_0) else (go (IntKind.wrap .i64 (index2_0 - 1)))))) w2.1 w2.2 (fun q0 q1 => go2 (q0, q1))) fu ((0, 0) : Int × Int)) else k1)
def F_spec_l8Agree_M (fu : Nat) (b0_0 : Int) (b0_1 : Int) (b0_2 : Int) (b0_3 : Int) (b0_4 : Int) (b0_5 : Nat) (b0_6 : Int) (b0_7 : Int) (b0_8 : Nat) (b0_9 : Nat) (b0_10 : Nat) (rn1 : Nat) (rf1 : (Nat → S_impl_Entry)) (rn2 : Nat) (rf2 : (Nat → Int)) (rn3 : Nat) (rf3 : (Nat → Int)) (rn4 : Nat) (rf4 : (Nat → Int)) : Option (Int × Int × Int × Int × Int × Nat × Int × Int × Nat × Nat × Nat × Nat × (Nat → S_impl_Entry) × Nat × (Nat → Int) × Nat × (Nat → Int) × Nat × (Nat → Int)) :=
  (L (fun w0 go0 => F_spec_l8Agree_M_B0 fu b0_0 b0_1 b0_2 b0_3 b0_4 b0_5 b0_6 b0_7 b0_8 b0_9 b0_10 rn1 rf1 rn2 rf2 rn3 rf3 rn4 rf4 (fun z110 => (some (b0_0, b0_1, b0_2, b0_3, b0_4,
    b0_5, b0_6, z110, b0_8, b0_9, b0_10, rn1, rf1, rn2, rf2, rn3, rf3, rn4, rf4))) (some (b0_0, b0_1, b0_2, b0_3, b0_4, b0_5, b0_6, b0_7, b0_8, b0_9, b0_10, rn1, rf1, rn2, rf2, rn3,
    rf3, rn4, rf4)) w0 go0) fu (((b0_5 : Nat) : Int) : Int))
def pcf_spec_l8Agree_M (fu : Nat) (f : Nat) (xs : List (D RT den)) : Option (Out RT den) := match f with | 63 => S_spec_l8Quorum fu xs | _ => none
def pcx_spec_l8Agree_M (fu : Nat) (f : Nat) (xs : List (D RT den)) (ins : List (Ob RT den)) : Option (OutX RT den) := none
def pc_spec_l8Agree_M (fu : Nat) : Pc RT den := ⟨pcf_spec_l8Agree_M fu, fun _ => false, fun _ => false, pcx_spec_l8Agree_M fu⟩
def msk_spec_l8Agree_M (b : Nat) : List Nat := match b with | 0 => [1, 3, 4, 5, 6, 7, 8, 9, 10, 11, 12, 13, 14, 15, 16, 17, 18, 19, 20, 21, 22, 23, 24, 25, 26, 27, 28, 29, 30, 31, 32, 33, 34, 35, 36, 37, 38, 39, 40, 41, 42, 43, 44, 45, 46, 47, 48, 49, 50, 51, 52, 53, 54, 55, 56, 57, 58, 59, 60] | 100000 => [0, 1, 2, 3, 4, 5, 6, 7, 8, 9, 10, 11, 12, 13, 14, 15, 16, 17, 18, 19, 20, 21, 22, 23, 24, 25, 26, 27, 28, 29, 30, 31, 32, 33, 34, 35, 36, 37, 38, 39, 40, 41, 42, 43, 44, 45, 46, 47, 48, 49, 50, 51, 52, 53, 54, 55, 56, 57, 58, 59, 60] | 2 => [1, 5, 6, 7, 8, 9, 10, 11, 12, 13, 14, 15, 16, 17, 18, 19, 20, 21, 22, 23, 24, 25, 26, 27, 28, 29, 30, 31, 32, 33, 34, 35, 36, 37, 38, 39, 40, 41, 42, 43, 44, 45, 46, 47, 48, 49, 50, 51, 52, 53, 54, 55, 56, 57, 58, 59, 60] | 100002 => [1, 4, 5, 6, 7, 8, 9, 10, 11, 12, 13, 14, 15, 16, 17, 18, 19, 20, 21, 22, 23, 24, 25, 26, 27, 28, 29, 30, 31, 32, 33, 34, 35, 36, 37, 38, 39, 40, 41, 42, 43, 44, 45, 46, 47, 48, 49, 50, 51, 52, 53, 54, 55, 56, 57, 58, 59, 60] | 200009 => [56] | _ => []
def ps_spec_l8Agree_M_2 : List (Pat RT) := [.flat (.ref 0 1), .flat .dead, .flat (.int .i64), .flat (.int .i64), .flat (.int .i64), .flat .dead, .flat .dead, .flat .dead, .flat .dead, .flat .dead, .flat .dead, .flat .dead, .flat .dead, .flat .dead, .flat .dead, .flat .dead, .flat .dead, .flat .dead, .flat .dead, .flat .dead, .flat .dead, .flat .dead, .flat .dead, .flat .dead, .flat .dead, .flat .dead, .flat .dead, .flat .dead, .flat .dead, .flat .dead, .flat .dead, .flat .dead, .flat .dead, .flat .dead, .flat .dead, .flat .dead, .flat .dead, .flat .dead, .flat .dead, .flat .dead, .flat .dead, .flat .dead, .flat .dead, .flat .dead, .flat .dead, .flat .dead, .flat .dead, .flat .dead, .flat .dead, .flat .dead, .flat .dead, .flat .dead, .flat .dead, .flat .dead, .flat .dead, .flat .dead, .flat .dead, .flat .dead, .flat .dead, .flat .dead, .flat .dead]
def os_spec_l8Agree_M_2 : List (OP RT) := [.box true [(.int .i64), (.int .i64), (.int .i64), (.int .i64), (.int .i64), (.os 1), (.int .i64), (.int .i64), (.os 2), (.os 3), (.os 4), (.emp true .impl_Mail)], .row true .impl_Entry, .row true .i64, .row true .i64, .row true .i64]
def conv_spec_l8Agree_M_2 (r : Raw den ps_spec_l8Agree_M_2 os_spec_l8Agree_M_2) : (Int × Int × Int × Int × Int × Int × Nat × Int × Int × Nat × Nat × Nat × Nat × (Nat → S_impl_Entry) × Nat × (Nat → Int) × Nat × (Nat → Int) × Nat × (Nat → Int)) × (Int × Int) := ((r.1.2.2.1, r.2.1.1, r.2.1.2.1, r.2.1.2.2.1, r.2.1.2.2.2.1, r.2.1.2.2.2.2.1, r.2.1.2.2.2.2.2.1, r.2.1.2.2.2.2.2.2.1, r.2.1.2.2.2.2.2.2.2.1, r.2.1.2.2.2.2.2.2.2.2.1, r.2.1.2.2.2.2.2.2.2.2.2.1, r.2.1.2.2.2.2.2.2.2.2.2.2.1, r.2.2.1.1, r.2.2.1.2, r.2.2.2.1.1, r.2.2.2.1.2, r.2.2.2.2.1.1, r.2.2.2.2.1.2, r.2.2.2.2.2.1.1, r.2.2.2.2.2.1.2), (r.1.2.2.2.1, r.1.2.2.2.2.1))
def back_spec_l8Agree_M_2 (c : Int × Int × Int × Int × Int × Int × Nat × Int × Int × Nat × Nat × Nat × Nat × (Nat → S_impl_Entry) × Nat × (Nat → Int) × Nat × (Nat → Int) × Nat × (Nat → Int)) (w : Int × Int) : St RT den := ⟨[(.ref 0 1), .dead, (.int .i64 c.1), (.int .i64 w.1), (.int .i64 w.2), .dead, .dead, .dead, .dead, .dead, .dead, .dead, .dead, .dead, .dead, .dead, .dead, .dead, .dead, .dead, .dead, .dead, .dead, .dead, .dead, .dead, .dead, .dead, .dead, .dead, .dead, .dead, .dead, .dead, .dead, .dead, .dead, .dead, .dead, .dead, .dead, .dead, .dead, .dead, .dead, .dead, .dead, .dead, .dead, .dead, .dead, .dead, .dead, .dead, .dead, .dead, .dead, .dead, .dead, .dead, .dead], [(.box true [(.int .i64 c.2.1), (.int .i64 c.2.2.1), (.int .i64 c.2.2.2.1), (.int .i64 c.2.2.2.2.1), (.int .i64 c.2.2.2.2.2.1), (.os 1 c.2.2.2.2.2.2.1), (.int .i64 c.2.2.2.2.2.2.2.1), (.int .i64 c.2.2.2.2.2.2.2.2.1), (.os 2 c.2.2.2.2.2.2.2.2.2.1), (.os 3 c.2.2.2.2.2.2.2.2.2.2.1), (.os 4 c.2.2.2.2.2.2.2.2.2.2.2.1), (.emp true .impl_Mail)]), (.row true .impl_Entry c.2.2.2.2.2.2.2.2.2.2.2.2.1 c.2.2.2.2.2.2.2.2.2.2.2.2.2.1), (.row true .i64 c.2.2.2.2.2.2.2.2.2.2.2.2.2.2.1 c.2.2.2.2.2.2.2.2.2.2.2.2.2.2.2.1), (.row true .i64 c.2.2.2.2.2.2.2.2.2.2.2.2.2.2.2.2.1 c.2.2.2.2.2.2.2.2.2.2.2.2.2.2.2.2.2.1), (.row true .i64 c.2.2.2.2.2.2.2.2.2.2.2.2.2.2.2.2.2.2.1 c.2.2.2.2.2.2.2.2.2.2.2.2.2.2.2.2.2.2.2)]⟩
def Bk_spec_l8Agree_M_2 {ρ : Type} (fu : Nat) (c : Int × Int × Int × Int × Int × Int × Nat × Int × Int × Nat × Nat × Nat × Nat × (Nat → S_impl_Entry) × Nat × (Nat → Int) × Nat × (Nat → Int) × Nat × (Nat → Int)) (k : Ex → St RT den → Option ρ) (w : Int × Int) (go : (Int × Int) → Option ρ) : Option ρ := F_spec_l8Agree_M_B2 fu c.1 c.2.1 c.2.2.1 c.2.2.2.1 c.2.2.2.2.1 c.2.2.2.2.2.1 c.2.2.2.2.2.2.1 c.2.2.2.2.2.2.2.1 c.2.2.2.2.2.2.2.2.1 c.2.2.2.2.2.2.2.2.2.1 c.2.2.2.2.2.2.2.2.2.2.1 c.2.2.2.2.2.2.2.2.2.2.2.1 c.2.2.2.2.2.2.2.2.2.2.2.2.1 c.2.2.2.2.2.2.2.2.2.2.2.2.2.1 c.2.2.2.2.2.2.2.2.2.2.2.2.2.2.1 c.2.2.2.2.2.2.2.2.2.2.2.2.2.2.2.1 c.2.2.2.2.2.2.2.2.2.2.2.2.2.2.2.2.1 c.2.2.2.2.2.2.2.2.2.2.2.2.2.2.2.2.2.1 c.2.2.2.2.2.2.2.2.2.2.2.2.2.2.2.2.2.2.1 c.2.2.2.2.2.2.2.2.2.2.2.2.2.2.2.2.2.2.2 (fun a0 => k (.exit 2) ⟨[(.ref 0 1), .dead, (.int .i64 c.1), (.int .i64 a0), .dead, .dead, .dead, .dead, .dead, .dead, .dead, .dead, .dead, .dead, .dead, .dead, .dead, .dead, .dead, .dead, .dead, .dead, .dead, .dead, .dead, .dead, .dead, .dead, .dead, .dead, .dead, .dead, .dead, .dead, .dead, .dead, .dead, .dead, .dead, .dead, .dead, .dead, .dead, .dead, .dead, .dead, .dead, .dead, .dead, .dead, .dead, .dead, .dead, .dead, .dead, .dead, .dead, .dead, .dead, .dead, .dead], [(.box true [(.int .i64 c.2.1), (.int .i64 c.2.2.1), (.int .i64 c.2.2.2.1), (.int .i64 c.2.2.2.2.1), (.int .i64 c.2.2.2.2.2.1), (.os 1 c.2.2.2.2.2.2.1), (.int .i64 c.2.2.2.2.2.2.2.1), (.int .i64 c.2.2.2.2.2.2.2.2.1), (.os 2 c.2.2.2.2.2.2.2.2.2.1), (.os 3 c.2.2.2.2.2.2.2.2.2.2.1), (.os 4 c.2.2.2.2.2.2.2.2.2.2.2.1), (.emp true .impl_Mail)]), (.row true .impl_Entry c.2.2.2.2.2.2.2.2.2.2.2.2.1 c.2.2.2.2.2.2.2.2.2.2.2.2.2.1), (.row true .i64 c.2.2.2.2.2.2.2.2.2.2.2.2.2.2.1 c.2.2.2.2.2.2.2.2.2.2.2.2.2.2.2.1), (.row true .i64 c.2.2.2.2.2.2.2.2.2.2.2.2.2.2.2.2.1 c.2.2.2.2.2.2.2.2.2.2.2.2.2.2.2.2.2.1), (.row true .i64 c.2.2.2.2.2.2.2.2.2.2.2.2.2.2.2.2.2.2.1 c.2.2.2.2.2.2.2.2.2.2.2.2.2.2.2.2.2.2.2)]⟩) w.1 w.2 (fun q0 q1 => go (q0, q1))
def ps_spec_l8Agree_M_0 : List (Pat RT) := [.flat (.ref 0 1), .flat .dead, .flat (.int .i64), .flat .dead, .flat .dead, .flat .dead, .flat .dead, .flat .dead, .flat .dead, .flat .dead, .flat .dead, .flat .dead, .flat .dead, .flat .dead, .flat .dead, .flat .dead, .flat .dead, .flat .dead, .flat .dead, .flat .dead, .flat .dead, .flat .dead, .flat .dead, .flat .dead, .flat .dead, .flat .dead, .flat .dead, .flat .dead, .flat .dead, .flat .dead, .flat .dead, .flat .dead, .flat .dead, .flat .dead, .flat .dead, .flat .dead, .flat .dead, .flat .dead, .flat .dead, .flat .dead, .flat .dead, .flat .dead, .flat .dead, .flat .dead, .flat .dead, .flat .dead, .flat .dead, .flat .dead, .flat .dead, .flat .dead, .flat .dead, .flat .dead, .flat .dead, .flat .dead, .flat .dead, .flat .dead, .flat .dead, .flat .dead, .flat .dead, .flat .dead, .flat .dead]
def os_spec_l8Agree_M_0 : List (OP RT) := [.box true [(.int .i64), (.int .i64), (.int .i64), (.int .i64), (.int .i64), (.os 1), (.int .i64), (.int .i64), (.os 2), (.os 3), (.os 4), (.emp true .impl_Mail)], .row true .impl_Entry, .row true .i64, .row true .i64, .row true .i64]
def conv_spec_l8Agree_M_0 (r : Raw den ps_spec_l8Agree_M_0 os_spec_l8Agree_M_0) : (Int × Int × Int × Int × Int × Nat × Int × Int × Nat × Nat × Nat × Nat × (Nat → S_impl_Entry) × Nat × (Nat → Int) × Nat × (Nat → Int) × Nat × (Nat → Int)) × (Int) := ((r.2.1.1, r.2.1.2.1, r.2.1.2.2.1, r.2.1.2.2.2.1, r.2.1.2.2.2.2.1, r.2.1.2.2.2.2.2.1, r.2.1.2.2.2.2.2.2.1, r.2.1.2.2.2.2.2.2.2.1, r.2.1.2.2.2.2.2.2.2.2.1, r.2.1.2.2.2.2.2.2.2.2.2.1, r.2.1.2.2.2.2.2.2.2.2.2.2.1, r.2.2.1.1, r.2.2.1.2, r.2.2.2.1.1, r.2.2.2.1.2, r.2.2.2.2.1.1, r.2.2.2.2.1.2, r.2.2.2.2.2.1.1, r.2.2.2.2.2.1.2), r.1.2.2.1)
def back_spec_l8Agree_M_0 (c : Int × Int × Int × Int × Int × Nat × Int × Int × Nat × Nat × Nat × Nat × (Nat → S_impl_Entry) × Nat × (Nat → Int) × Nat × (Nat → Int) × Nat × (Nat → Int)) (w : Int) : St RT den := ⟨[(.ref 0 1), .dead, (.int .i64 w), .dead, .dead, .dead, .dead, .dead, .dead, .dead, .dead, .dead, .dead, .dead, .dead, .dead, .dead, .dead, .dead, .dead, .dead, .dead, .dead, .dead, .dead, .dead, .dead, .dead, .dead, .dead, .dead, .dead, .dead, .dead, .dead, .dead, .dead, .dead, .dead, .dead, .dead, .dead, .dead, .dead, .dead, .dead, .dead, .dead, .dead, .dead, .dead, .dead, .dead, .dead, .dead, .dead, .dead, .dead, .dead, .dead, .dead], [(.box true [(.int .i64 c.1), (.int .i64 c.2.1), (.int .i64 c.2.2.1), (.int .i64 c.2.2.2.1), (.int .i64 c.2.2.2.2.1), (.os 1 c.2.2.2.2.2.1), (.int .i64 c.2.2.2.2.2.2.1), (.int .i64 c.2.2.2.2.2.2.2.1), (.os 2 c.2.2.2.2.2.2.2.2.1), (.os 3 c.2.2.2.2.2.2.2.2.2.1), (.os 4 c.2.2.2.2.2.2.2.2.2.2.1), (.emp true .impl_Mail)]), (.row true .impl_Entry c.2.2.2.2.2.2.2.2.2.2.2.1 c.2.2.2.2.2.2.2.2.2.2.2.2.1), (.row true .i64 c.2.2.2.2.2.2.2.2.2.2.2.2.2.1 c.2.2.2.2.2.2.2.2.2.2.2.2.2.2.1), (.row true .i64 c.2.2.2.2.2.2.2.2.2.2.2.2.2.2.2.1 c.2.2.2.2.2.2.2.2.2.2.2.2.2.2.2.2.1), (.row true .i64 c.2.2.2.2.2.2.2.2.2.2.2.2.2.2.2.2.2.1 c.2.2.2.2.2.2.2.2.2.2.2.2.2.2.2.2.2.2)]⟩
def Bk_spec_l8Agree_M_0 {ρ : Type} (fu : Nat) (c : Int × Int × Int × Int × Int × Nat × Int × Int × Nat × Nat × Nat × Nat × (Nat → S_impl_Entry) × Nat × (Nat → Int) × Nat × (Nat → Int) × Nat × (Nat → Int)) (k : Ex → St RT den → Option ρ) (w : Int) (go : (Int) → Option ρ) : Option ρ := F_spec_l8Agree_M_B0 fu c.1 c.2.1 c.2.2.1 c.2.2.2.1 c.2.2.2.2.1 c.2.2.2.2.2.1 c.2.2.2.2.2.2.1 c.2.2.2.2.2.2.2.1 c.2.2.2.2.2.2.2.2.1 c.2.2.2.2.2.2.2.2.2.1 c.2.2.2.2.2.2.2.2.2.2.1 c.2.2.2.2.2.2.2.2.2.2.2.1 c.2.2.2.2.2.2.2.2.2.2.2.2.1 c.2.2.2.2.2.2.2.2.2.2.2.2.2.1 c.2.2.2.2.2.2.2.2.2.2.2.2.2.2.1 c.2.2.2.2.2.2.2.2.2.2.2.2.2.2.2.1 c.2.2.2.2.2.2.2.2.2.2.2.2.2.2.2.2.1 c.2.2.2.2.2.2.2.2.2.2.2.2.2.2.2.2.2.1 c.2.2.2.2.2.2.2.2.2.2.2.2.2.2.2.2.2.2 (fun a0 => k .ret ⟨[.dead, .dead, .dead, .dead, .dead, .dead, .dead, .dead, .dead, .dead, .dead, .dead, .dead, .dead, .dead, .dead, .dead, .dead, .dead, .dead, .dead, .dead, .dead, .dead, .dead, .dead, .dead, .dead, .dead, .dead, .dead, .dead, .dead, .dead, .dead, .dead, .dead, .dead, .dead, .dead, .dead, .dead, .dead, .dead, .dead, .dead, .dead, .dead, .dead, .dead, .dead, .dead, .dead, .dead, .dead, .dead, .dead, .dead, .dead, .dead, .dead], [(.box true [(.int .i64 c.1), (.int .i64 c.2.1), (.int .i64 c.2.2.1), (.int .i64 c.2.2.2.1), (.int .i64 c.2.2.2.2.1), (.os 1 c.2.2.2.2.2.1), (.int .i64 c.2.2.2.2.2.2.1), (.int .i64 a0), (.os 2 c.2.2.2.2.2.2.2.2.1), (.os 3 c.2.2.2.2.2.2.2.2.2.1), (.os 4 c.2.2.2.2.2.2.2.2.2.2.1), (.emp true .impl_Mail)]), (.row true .impl_Entry c.2.2.2.2.2.2.2.2.2.2.2.1 c.2.2.2.2.2.2.2.2.2.2.2.2.1), (.row true .i64 c.2.2.2.2.2.2.2.2.2.2.2.2.2.1 c.2.2.2.2.2.2.2.2.2.2.2.2.2.2.1), (.row true .i64 c.2.2.2.2.2.2.2.2.2.2.2.2.2.2.2.1 c.2.2.2.2.2.2.2.2.2.2.2.2.2.2.2.2.1), (.row true .i64 c.2.2.2.2.2.2.2.2.2.2.2.2.2.2.2.2.2.1 c.2.2.2.2.2.2.2.2.2.2.2.2.2.2.2.2.2.2)]⟩) (k (.exit 0) ⟨[.dead, .dead, .dead, .dead, .dead, .dead, .dead, .dead, .dead, .dead, .dead, .dead, .dead, .dead, .dead, .dead, .dead, .dead, .dead, .dead, .dead, .dead, .dead, .dead, .dead, .dead, .dead, .dead, .dead, .dead, .dead, .dead, .dead, .dead, .dead, .dead, .dead, .dead, .dead, .dead, .dead, .dead, .dead, .dead, .dead, .dead, .dead, .dead, .dead, .dead, .dead, .dead, .dead, .dead, .dead, .dead, .dead, .dead, .dead, .dead, .dead], [(.box true [(.int .i64 c.1), (.int .i64 c.2.1), (.int .i64 c.2.2.1), (.int .i64 c.2.2.2.1), (.int .i64 c.2.2.2.2.1), (.os 1 c.2.2.2.2.2.1), (.int .i64 c.2.2.2.2.2.2.1), (.int .i64 c.2.2.2.2.2.2.2.1), (.os 2 c.2.2.2.2.2.2.2.2.1), (.os 3 c.2.2.2.2.2.2.2.2.2.1), (.os 4 c.2.2.2.2.2.2.2.2.2.2.1), (.emp true .impl_Mail)]), (.row true .impl_Entry c.2.2.2.2.2.2.2.2.2.2.2.1 c.2.2.2.2.2.2.2.2.2.2.2.2.1), (.row true .i64 c.2.2.2.2.2.2.2.2.2.2.2.2.2.1 c.2.2.2.2.2.2.2.2.2.2.2.2.2.2.1), (.row true .i64 c.2.2.2.2.2.2.2.2.2.2.2.2.2.2.2.1 c.2.2.2.2.2.2.2.2.2.2.2.2.2.2.2.2.1), (.row true .i64 c.2.2.2.2.2.2.2.2.2.2.2.2.2.2.2.2.2.1 c.2.2.2.2.2.2.2.2.2.2.2.2.2.2.2.2.2.2)]⟩) w go
def lp_spec_l8Agree_M (fu : Nat) : Lp RT den (Int × Int × Int × Int × Int × Nat × Int × Int × Nat × Nat × Nat × Nat × (Nat → S_impl_Entry) × Nat × (Nat → Int) × Nat × (Nat → Int) × Nat × (Nat → Int)) := fun b s k => match b with | 0 => handle ps_spec_l8Agree_M_0 os_spec_l8Agree_M_0 conv_spec_l8Agree_M_0 (Bk_spec_l8Agree_M_0 fu) fu s k | 2 => handle ps_spec_l8Agree_M_2 os_spec_l8Agree_M_2 conv_spec_l8Agree_M_2 (Bk_spec_l8Agree_M_2 fu) fu s k | _ => none
def pso_spec_l8Agree_M : List (Pat RT) := [.tup []]
def oso_spec_l8Agree_M : List (OP RT) := [.box true [(.int .i64), (.int .i64), (.int .i64), (.int .i64), (.int .i64), (.os 1), (.int .i64), (.int .i64), (.os 2), (.os 3), (.os 4), (.emp true .impl_Mail)], .row true .impl_Entry, .row true .i64, .row true .i64, .row true .i64]
def conv_spec_l8Agree_M (r : Raw den pso_spec_l8Agree_M oso_spec_l8Agree_M) : Int × Int × Int × Int × Int × Nat × Int × Int × Nat × Nat × Nat × Nat × (Nat → S_impl_Entry) × Nat × (Nat → Int) × Nat × (Nat → Int) × Nat × (Nat → Int) := (r.2.1.1, r.2.1.2.1, r.2.1.2.2.1, r.2.1.2.2.2.1, r.2.1.2.2.2.2.1, r.2.1.2.2.2.2.2.1, r.2.1.2.2.2.2.2.2.1, r.2.1.2.2.2.2.2.2.2.1, r.2.1.2.2.2.2.2.2.2.2.1, r.2.1.2.2.2.2.2.2.2.2.2.1, r.2.1.2.2.2.2.2.2.2.2.2.2.1, r.2.2.1.1, r.2.2.1.2, r.2.2.2.1.1, r.2.2.2.1.2, r.2.2.2.2.1.1, r.2.2.2.2.1.2, r.2.2.2.2.2.1.1, r.2.2.2.2.2.1.2)
def enc_spec_l8Agree_M (y : Int × Int × Int × Int × Int × Nat × Int × Int × Nat × Nat × Nat × Nat × (Nat → S_impl_Entry) × Nat × (Nat → Int) × Nat × (Nat → Int) × Nat × (Nat → Int)) : D RT den × List (Ob RT den) := ((.tup []), [(.box true [(.int .i64 y.1), (.int .i64 y.2.1), (.int .i64 y.2.2.1), (.int .i64 y.2.2.2.1), (.int .i64 y.2.2.2.2.1), (.os 1 y.2.2.2.2.2.1), (.int .i64 y.2.2.2.2.2.2.1), (.int .i64 y.2.2.2.2.2.2.2.1), (.os 2 y.2.2.2.2.2.2.2.2.1), (.os 3 y.2.2.2.2.2.2.2.2.2.1), (.os 4 y.2.2.2.2.2.2.2.2.2.2.1), (.emp true .impl_Mail)]), (.row true .impl_Entry y.2.2.2.2.2.2.2.2.2.2.2.1 y.2.2.2.2.2.2.2.2.2.2.2.2.1), (.row true .i64 y.2.2.2.2.2.2.2.2.2.2.2.2.2.1 y.2.2.2.2.2.2.2.2.2.2.2.2.2.2.1), (.row true .i64 y.2.2.2.2.2.2.2.2.2.2.2.2.2.2.2.1 y.2.2.2.2.2.2.2.2.2.2.2.2.2.2.2.2.1), (.row true .i64 y.2.2.2.2.2.2.2.2.2.2.2.2.2.2.2.2.2.1 y.2.2.2.2.2.2.2.2.2.2.2.2.2.2.2.2.2.2)])
def out_spec_l8Agree_M (d : D RT den) (os : List (Ob RT den)) : Option (Int × Int × Int × Int × Int × Nat × Int × Int × Nat × Nat × Nat × Nat × (Nat → S_impl_Entry) × Nat × (Nat → Int) × Nat × (Nat → Int) × Nat × (Nat → Int)) := (unSt pso_spec_l8Agree_M oso_spec_l8Agree_M ⟨[d], os⟩).bind fun v => some (conv_spec_l8Agree_M v.1)
theorem out_spec_l8Agree_M_enc (d : D RT den) (os : List (Ob RT den)) (y : Int × Int × Int × Int × Int × Nat × Int × Int × Nat × Nat × Nat × Nat × (Nat → S_impl_Entry) × Nat × (Nat → Int) × Nat × (Nat → Int) × Nat × (Nat → Int)) (h : out_spec_l8Agree_M d os = some y) : d = (enc_spec_l8Agree_M y).1 ∧ os = (enc_spec_l8Agree_M y).2 :=
  outM (conv := conv_spec_l8Agree_M) (enc := enc_spec_l8Agree_M) (fun raw => by kernel_rfl) h
theorem ev_spec_l8Agree_M (fu : Nat) (b0_0 : Int) (b0_1 : Int) (b0_2 : Int) (b0_3 : Int) (b0_4 : Int) (b0_5 : Nat) (b0_6 : Int) (b0_7 : Int) (b0_8 : Nat) (b0_9 : Nat) (b0_10 : Nat) (rn1 : Nat) (rf1 : (Nat → S_impl_Entry)) (rn2 : Nat) (rf2 : (Nat → Int)) (rn3 : Nat) (rf3 : (Nat → Int)) (rn4 : Nat) (rf4 : (Nat → Int)) : evFunM E false (pc_spec_l8Agree_M fu) msk_spec_l8Agree_M (lp_spec_l8Agree_M fu) out_spec_l8Agree_M 58 [(.ref 0 1)] [(.box true [(.int .i64 b0_0), (.int .i64 b0_1), (.int .i64 b0_2), (.int .i64 b0_3), (.int .i64 b0_4), (.os 1 b0_5), (.int .i64 b0_6), (.int .i64 b0_7), (.os 2 b0_8), (.os 3 b0_9), (.os 4 b0_10), (.emp true .impl_Mail)]), (.row true .impl_Entry rn1 rf1), (.row true .i64 rn2 rf2), (.row true .i64 rn3 rf3), (.row true .i64 rn4 rf4)] = F_spec_l8Agree_M fu b0_0 b0_1 b0_2 b0_3 b0_4 b0_5 b0_6 b0_7 b0_8 b0_9 b0_10 rn1 rf1 rn2 rf2 rn3 rf3 rn4 rf4 := by kernel_rfl
noncomputable def body_spec_l8Agree_M : Code := Try.f58.body.getD .skip
noncomputable def lc_spec_l8Agree_M_0 : Code := ((loops 0 body_spec_l8Agree_M).getD 0 (0, .skip)).2
theorem round_spec_l8Agree_M_0 (fu : Nat) (it : St RT den → Option (Int × Int × Int × Int × Int × Nat × Int × Int × Nat × Nat × Nat × Nat × (Nat → S_impl_Entry) × Nat × (Nat → Int) × Nat × (Nat → Int) × Nat × (Nat → Int))) (k : Ex → St RT den → Option (Int × Int × Int × Int × Int × Nat × Int × Int × Nat × Nat × Nat × Nat × (Nat → S_impl_Entry) × Nat × (Nat → Int) × Nat × (Nat → Int) × Nat × (Nat → Int))) c w : evCode E (pc_spec_l8Agree_M fu) msk_spec_l8Agree_M (lp_spec_l8Agree_M fu) 0 lc_spec_l8Agree_M_0 (back_spec_l8Agree_M_0 c w) (after (msk_spec_l8Agree_M 0) (msk_spec_l8Agree_M 100000) 5 it k) = Bk_spec_l8Agree_M_0 fu c k w (fun w => it (back_spec_l8Agree_M_0 c w)) := by kernel_rfl
theorem lpok_spec_l8Agree_M_0 (fu : Nat) : ∀ s k r, lp_spec_l8Agree_M fu 0 s k = some r → ∃ fuel, iter (msk_spec_l8Agree_M 0) (msk_spec_l8Agree_M 100000) s.objs.length (evCode E (pc_spec_l8Agree_M fu) msk_spec_l8Agree_M (lp_spec_l8Agree_M fu) 0 lc_spec_l8Agree_M_0) fuel s k = some r :=
  handle_ok (ps := ps_spec_l8Agree_M_0) (os := os_spec_l8Agree_M_0) (conv := conv_spec_l8Agree_M_0) (B := Bk_spec_l8Agree_M_0 fu) (fu := fu) back_spec_l8Agree_M_0 (fun raw => by kernel_rfl) 5 (fun c w => by kernel_rfl) (round_spec_l8Agree_M_0 fu)
noncomputable def lc_spec_l8Agree_M_2 : Code := ((loops 0 body_spec_l8Agree_M).getD 1 (0, .skip)).2
theorem round_spec_l8Agree_M_2 (fu : Nat) (it : St RT den → Option (Int × Int × Int × Int × Int × Nat × Int × Int × Nat × Nat × Nat × Nat × (Nat → S_impl_Entry) × Nat × (Nat → Int) × Nat × (Nat → Int) × Nat × (Nat → Int))) (k : Ex → St RT den → Option (Int × Int × Int × Int × Int × Nat × Int × Int × Nat × Nat × Nat × Nat × (Nat → S_impl_Entry) × Nat × (Nat → Int) × Nat × (Nat → Int) × Nat × (Nat → Int))) c w : evCode E (pc_spec_l8Agree_M fu) msk_spec_l8Agree_M (lp_spec_l8Agree_M fu) 2 lc_spec_l8Agree_M_2 (back_spec_l8Agree_M_2 c w) (after (msk_spec_l8Agree_M 2) (msk_spec_l8Agree_M 100002) 5 it k) = Bk_spec_l8Agree_M_2 fu c k w (fun w => it (back_spec_l8Agree_M_2 c w)) := by kernel_rfl
theorem lpok_spec_l8Agree_M_2 (fu : Nat) : ∀ s k r, lp_spec_l8Agree_M fu 2 s k = some r → ∃ fuel, iter (msk_spec_l8Agree_M 2) (msk_spec_l8Agree_M 100002) s.objs.length (evCode E (pc_spec_l8Agree_M fu) msk_spec_l8Agree_M (lp_spec_l8Agree_M fu) 2 lc_spec_l8Agree_M_2) fuel s k = some r :=
  handle_ok (ps := ps_spec_l8Agree_M_2) (os := os_spec_l8Agree_M_2) (conv := conv_spec_l8Agree_M_2) (B := Bk_spec_l8Agree_M_2 fu) (fu := fu) back_spec_l8Agree_M_2 (fun raw => by kernel_rfl) 5 (fun c w => by kernel_rfl) (round_spec_l8Agree_M_2 fu)
theorem lpok_spec_l8Agree_M (fu : Nat) : LpOk E (pc_spec_l8Agree_M fu) msk_spec_l8Agree_M (lp_spec_l8Agree_M fu) (loops 0 body_spec_l8Agree_M) := loop_all 2 (by kernel_rfl) fun i hi => match i, hi with
  | 0, _ => by
    have h : (loops 0 body_spec_l8Agree_M).getD 0 (0, .skip) = (0, lc_spec_l8Agree_M_0) := by kernel_rfl
    rw [h]; exact lpok_spec_l8Agree_M_0 fu
  | 1, _ => by
    have h : (loops 0 body_spec_l8Agree_M).getD 1 (0, .skip) = (2, lc_spec_l8Agree_M_2) := by kernel_rfl
    rw [h]; exact lpok_spec_l8Agree_M_2 fu
  | i + 2, hi => absurd hi (by omega)
def S_spec_l8Agree_M (fu : Nat) (xs : List (D RT den)) (ins : List (Ob RT den)) : Option (OutX RT den) := match xs, ins with | [.ref 0 1], [.box true [.int .i64 a1000_0, .int .i64 a1001_0, .int .i64 a1002_0, .int .i64 a1003_0, .int .i64 a1004_0, .os 1 a1005_0, .int .i64 a1006_0, .int .i64 a1007_0, .os 2 a1008_0, .os 3 a1009_0, .os 4 a1010_0, .emp true .impl_Mail], .row true .impl_Entry rn1 rf1, .row true .i64 rn2 rf2, .row true .i64 rn3 rf3, .row true .i64 rn4 rf4] => some ⟨Int × Int × Int × Int × Int × Nat × Int × Int × Nat × Nat × Nat × Nat × (Nat → S_impl_Entry) × Nat × (Nat → Int) × Nat × (Nat → Int) × Nat × (Nat → Int), F_spec_l8Agree_M fu a1000_0 a1001_0 a1002_0 a1003_0 a1004_0 a1005_0 a1006_0 a1007_0 a1008_0 a1009_0 a1010_0 rn1 rf1 rn2 rf2 rn3 rf3 rn4 rf4, enc_spec_l8Agree_M⟩ | _, _ => none
theorem hpc_spec_l8Agree_M (fu : Nat) : ∀ f xs o, pcf_spec_l8Agree_M fu f xs = some o → ∀ y, o.x = some y → Good E Try.prog f xs (o.g y) := by
  intro f xs o h
  unfold pcf_spec_l8Agree_M at h
  split at h
  · exact good_spec_l8Quorum fu xs o h
  · cases h
theorem hpx_spec_l8Agree_M (fu : Nat) : ∀ f xs ins o, pcx_spec_l8Agree_M fu f xs ins = some o → ∀ y, o.x = some y → GoodX E Try.prog f xs ins (o.g y).1 (o.g y).2 := by
  intro f xs ins o h
  cases h
theorem goodv_spec_l8Agree_M (fu : Nat) (b0_0 : Int) (b0_1 : Int) (b0_2 : Int) (b0_3 : Int) (b0_4 : Int) (b0_5 : Nat) (b0_6 : Int) (b0_7 : Int) (b0_8 : Nat) (b0_9 : Nat) (b0_10 : Nat) (rn1 : Nat) (rf1 : (Nat → S_impl_Entry)) (rn2 : Nat) (rf2 : (Nat → Int)) (rn3 : Nat) (rf3 : (Nat → Int)) (rn4 : Nat) (rf4 : (Nat → Int)) (y : Int × Int × Int × Int × Int × Nat × Int × Int × Nat × Nat × Nat × Nat × (Nat → S_impl_Entry) × Nat × (Nat → Int) × Nat × (Nat → Int) × Nat × (Nat → Int)) (hy : F_spec_l8Agree_M fu b0_0 b0_1 b0_2 b0_3 b0_4 b0_5 b0_6 b0_7 b0_8 b0_9 b0_10 rn1 rf1 rn2 rf2 rn3 rf3 rn4 rf4 = some y) : GoodX E Try.prog 58 [(.ref 0 1)] [(.box true [(.int .i64 b0_0), (.int .i64 b0_1), (.int .i64 b0_2), (.int .i64 b0_3), (.int .i64 b0_4), (.os 1 b0_5), (.int .i64 b0_6), (.int .i64 b0_7), (.os 2 b0_8), (.os 3 b0_9), (.os 4 b0_10), (.emp true .impl_Mail)]), (.row true .impl_Entry rn1 rf1), (.row true .i64 rn2 rf2), (.row true .i64 rn3 rf3), (.row true .i64 rn4 rf4)] (enc_spec_l8Agree_M y).1 (enc_spec_l8Agree_M y).2 :=
  funM_good (ke := false) E_ok (pc_good (pc := pc_spec_l8Agree_M fu) (hpc_spec_l8Agree_M fu) (hpx_spec_l8Agree_M fu)) (fn := Try.f58) (c := body_spec_l8Agree_M) (out := out_spec_l8Agree_M) (y := y) (by kernel_rfl) (by kernel_rfl) (by kernel_rfl) (lpok_spec_l8Agree_M fu) (by kernel_rfl) (Nat.le_of_ble_eq_true (by kernel_rfl)) (fun d os hd => out_spec_l8Agree_M_enc d os _ hd) ((ev_spec_l8Agree_M fu b0_0 b0_1 b0_2 b0_3 b0_4 b0_5 b0_6 b0_7 b0_8 b0_9 b0_10 rn1 rf1 rn2 rf2 rn3 rf3 rn4 rf4).trans hy)
theorem good_spec_l8Agree_M (fu : Nat) : ∀ xs ins o, S_spec_l8Agree_M fu xs ins = some o → ∀ y, o.x = some y → GoodX E Try.prog 58 xs ins (o.g y).1 (o.g y).2 := by
  intro xs ins o h y hy
  unfold S_spec_l8Agree_M at h
  split at h
  · rename_i a1000_0 a1001_0 a1002_0 a1003_0 a1004_0 a1005_0 a1006_0 a1007_0 a1008_0 a1009_0 a1010_0 rn1 rf1 rn2 rf2 rn3 rf3 rn4 rf4
    cases h
    exact goodv_spec_l8Agree_M fu a1000_0 a1001_0 a1002_0 a1003_0 a1004_0 a1005_0 a1006_0 a1007_0 a1008_0 a1009_0 a1010_0 rn1 rf1 rn2 rf2 rn3 rf3 rn4 rf4 y hy
  · cases h

/-! spec.AskNode -/
def F_spec_AskNode_H (fu : Nat) (n_0 : S_impl_Node) (x_1 : S_impl_Entry) : Option (S_impl_NodeResult) :=
  ((F_spec_l8Fault fu n_0).bind fun y112 => (bif (y112 != 0) then ((F_spec_l8Bad_E fu y112).bind fun y113 => (some (⟨y113.Code, (⟨y113.Node.Id, y113.Node.Peers, y113.Node.Term,
    y113.Node.Voted, (⟨(some true), 0, (fun _ => dflt .impl_Entry)⟩ : (Sl S_impl_Entry)), y113.Node.Role, y113.Node.Commit, (⟨(some true), 0, (fun _ => dflt .i64)⟩ : (Sl Int)),
    (⟨(some true), 0, (fun _ => dflt .i64)⟩ : (Sl Int)), (⟨(some true), 0, (fun _ => dflt .i64)⟩ : (Sl Int))⟩ : S_impl_Node), (⟨(some true), 0, (fun _ => dflt .impl_Mail)⟩ : (Sl S_impl_Mail))⟩ : S_impl_NodeResult))) else
    (bif (n_0.Role != 2) then ((F_spec_l8Bad_E fu 10).bind fun y114 => (some (⟨y114.Code, (⟨y114.Node.Id, y114.Node.Peers, y114.Node.Term, y114.Node.Voted, (⟨(some true), 0, (fun _ =>
    dflt .impl_Entry)⟩ : (Sl S_impl_Entry)), y114.Node.Role, y114.Node.Commit, (⟨(some true), 0, (fun _ => dflt .i64)⟩ : (Sl Int)), (⟨(some true), 0, (fun _ => dflt .i64)⟩ : (Sl Int)),
    (⟨(some true), 0, (fun _ => dflt .i64)⟩ : (Sl Int))⟩ : S_impl_Node), (⟨(some true), 0, (fun _ => dflt .impl_Mail)⟩ : (Sl S_impl_Mail))⟩ : S_impl_NodeResult))) else
    ((F_spec_EntryFault fu x_1).bind fun y115 => (bif (y115 != 0) then ((F_spec_l8Bad_E fu y115).bind fun y116 => (some (⟨y116.Code, (⟨y116.Node.Id, y116.Node.Peers, y116.Node.Term,
    y116.Node.Voted, (⟨(some true), 0, (fun _ => dflt .impl_Entry)⟩ : (Sl S_impl_Entry)), y116.Node.Role, y116.Node.Commit, (⟨(some true), 0, (fun _ => dflt .i64)⟩ : (Sl Int)),
    (⟨(some true), 0, (fun _ => dflt .i64)⟩ : (Sl Int)), (⟨(some true), 0, (fun _ => dflt .i64)⟩ : (Sl Int))⟩ : S_impl_Node), (⟨(some true), 0, (fun _ => dflt .impl_Mail)⟩ : (Sl S_impl_Mail))⟩ : S_impl_NodeResult))) else
    (bif (x_1.Term != n_0.Term) then ((F_spec_l8Bad_E fu 1).bind fun y117 => (some (⟨y117.Code, (⟨y117.Node.Id, y117.Node.Peers, y117.Node.Term, y117.Node.Voted, (⟨(some true), 0,
    (fun _ => dflt .impl_Entry)⟩ : (Sl S_impl_Entry)), y117.Node.Role, y117.Node.Commit, (⟨(some true), 0, (fun _ => dflt .i64)⟩ : (Sl Int)), (⟨(some true), 0, (fun _ => dflt .i64)⟩ : (Sl Int)),
    (⟨(some true), 0, (fun _ => dflt .i64)⟩ : (Sl Int))⟩ : S_impl_Node), (⟨(some true), 0, (fun _ => dflt .impl_Mail)⟩ : (Sl S_impl_Mail))⟩ : S_impl_NodeResult))) else (bif (decide (((n_0.Log.n : Nat) : Int) ≥ 40)) then
    ((F_spec_l8Bad_E fu 2).bind fun y118 => (some (⟨y118.Code, (⟨y118.Node.Id, y118.Node.Peers, y118.Node.Term, y118.Node.Voted, (⟨(some true), 0, (fun _ => dflt .impl_Entry)⟩ : (Sl S_impl_Entry)),
    y118.Node.Role, y118.Node.Commit, (⟨(some true), 0, (fun _ => dflt .i64)⟩ : (Sl Int)), (⟨(some true), 0, (fun _ => dflt .i64)⟩ : (Sl Int)), (⟨(some true), 0, (fun _ => dflt .i64)⟩ : (Sl Int))⟩ : S_impl_Node),
    (⟨(some true), 0, (fun _ => dflt .impl_Mail)⟩ : (Sl S_impl_Mail))⟩ : S_impl_NodeResult))) else ((F_spec_l8Copy_H fu n_0).bind fun y119 => (bif (decide ((y119.Log.n + 1) ≤ 9223372036854775807) &&
    decide ((y119.Log.n + 1) * 72 ≤ 140737488355328)) then ((bif (decide (0 ≤ y119.Id) && decide ((Int.toNat y119.Id) < y119.Match.n)) then some () else none : Option Unit).bind fun _ =>
    ((bif (decide (0 ≤ y119.Id) && decide ((Int.toNat y119.Id) < y119.Next.n)) then some () else none : Option Unit).bind fun _ => ((F_spec_l8Agree_M fu 0 y119.Id y119.Peers y119.Term y119.Voted (y119.Log.n + 1) y119.Role y119.Commit y119.Votes.n y119.Next.n y119.Match.n (y119.Log.n + 1) (fun i =>
    if i < y119.Log.n then (y119.Log.f i) else ((fun i => [x_1].getD i (dflt .impl_Entry)) (i - y119.Log.n))) y119.Votes.n y119.Votes.f y119.Next.n (fun j => if j = (Int.toNat y119.Id) then
    (IntKind.wrap .i64 ((((y119.Log.n + 1) : Nat) : Int) + 1)) else y119.Next.f j) y119.Match.n (fun j => if j = (Int.toNat y119.Id) then (((y119.Log.n + 1) : Nat) : Int) else
    y119.Match.f j)).bind fun y120 => (some (⟨y120.1, (⟨y120.2.1, y120.2.2.1, y120.2.2.2.1, y120.2.2.2.2.1, (⟨none, y120.2.2.2.2.2.1, y120.2.2.2.2.2.2.2.2.2.2.2.2.1⟩ : (Sl S_impl_Entry)),
    y120.2.2.2.2.2.2.1, y120.2.2.2.2.2.2.2.1, (⟨none, y120.2.2.2.2.2.2.2.2.1, y120.2.2.2.2.2.2.2.2.2.2.2.2.2.2.1⟩ : (Sl Int)), (⟨none, y120.2.2.2.2.2.2.2.2.2.1,
    y120.2.2.2.2.2.2.2.2.2.2.2.2.2.2.2.2.1⟩ : (Sl Int)), (⟨none, y120.2.2.2.2.2.2.2.2.2.2.1, y120.2.2.2.2.2.2.2.2.2.2.2.2.2.2.2.2.2.2⟩ : (Sl Int))⟩ : S_impl_Node), (⟨(some true), 0,
    (fun _ => dflt .impl_Mail)⟩ : (Sl S_impl_Mail))⟩ : S_impl_NodeResult))))) else none)))))))))
def pcf_spec_AskNode_H (fu : Nat) (f : Nat) (xs : List (D RT den)) : Option (Out RT den) := match f with | 36 => S_spec_l8Fault fu xs | 57 => S_spec_EntryFault fu xs | _ => none
def pcx_spec_AskNode_H (fu : Nat) (f : Nat) (xs : List (D RT den)) (ins : List (Ob RT den)) : Option (OutX RT den) := match f with | 37 => S_spec_l8Bad_E fu xs ins | 38 => S_spec_l8Copy_H fu xs ins | 58 => S_spec_l8Agree_M fu xs ins | _ => none
def pc_spec_AskNode_H (fu : Nat) : Pc RT den := ⟨pcf_spec_AskNode_H fu, fun f => match f with | 37 => true | 38 => true | 58 => true | _ => false, fun f => match f with | 58 => true | _ => false, pcx_spec_AskNode_H fu⟩
def msk_spec_AskNode_H (b : Nat) : List Nat := []
def lp_spec_AskNode_H (fu : Nat) : Lp RT den (S_impl_NodeResult) := fun b s k => none
theorem ev_spec_AskNode_H (fu : Nat) (n_0 : S_impl_Node) (x_1 : S_impl_Entry) : evFunX E false (pc_spec_AskNode_H fu) msk_spec_AskNode_H (lp_spec_AskNode_H fu) out_impl_NodeResult_H 17 [(.agg [(.int .i64 n_0.Id), (.int .i64 n_0.Peers), (.int .i64 n_0.Term), (.int .i64 n_0.Voted), (.rs n_0.Log.z .impl_Entry n_0.Log.n n_0.Log.f), (.int .i64 n_0.Role), (.int .i64 n_0.Commit), (.rs n_0.Votes.z .i64 n_0.Votes.n n_0.Votes.f), (.rs n_0.Next.z .i64 n_0.Next.n n_0.Next.f), (.rs n_0.Match.z .i64 n_0.Match.n n_0.Match.f)]), (.agg [(.int .i64 x_1.Term), (.int .i64 x_1.Client), (.int .i64 x_1.Seq), (.int .i64 x_1.Cmd.Kind), (.int .i64 x_1.Cmd.Expect), (.int .i64 x_1.Cmd.Name), (.int .i64 x_1.Cmd.Addr), (.int .i64 x_1.Cmd.Number), (.int .i64 x_1.Cmd.Proto)])] [] = F_spec_AskNode_H fu n_0 x_1 := by kernel_rfl
noncomputable def body_spec_AskNode_H : Code := Try.f17.body.getD .skip
theorem lpok_spec_AskNode_H (fu : Nat) : LpOk E (pc_spec_AskNode_H fu) msk_spec_AskNode_H (lp_spec_AskNode_H fu) (loops 0 body_spec_AskNode_H) := by
  have h : loops 0 body_spec_AskNode_H = [] := by kernel_rfl
  rw [h]; intro p hp; cases hp
def S_spec_AskNode_H (fu : Nat) (xs : List (D RT den)) (ins : List (Ob RT den)) : Option (OutX RT den) := match xs, ins with | [.agg [.int .i64 a0_1, .int .i64 a0_2, .int .i64 a0_3, .int .i64 a0_4, .rs za0_5 .impl_Entry na0_5 fa0_5, .int .i64 a0_6, .int .i64 a0_7, .rs za0_8 .i64 na0_8 fa0_8, .rs za0_9 .i64 na0_9 fa0_9, .rs za0_10 .i64 na0_10 fa0_10], .agg [.int .i64 a1_1, .int .i64 a1_2, .int .i64 a1_3, .int .i64 a1_5, .int .i64 a1_6, .int .i64 a1_7, .int .i64 a1_8, .int .i64 a1_9, .int .i64 a1_10]], [] => some ⟨S_impl_NodeResult, F_spec_AskNode_H fu (⟨a0_1, a0_2, a0_3, a0_4, (⟨za0_5, na0_5, fa0_5⟩ : (Sl S_impl_Entry)), a0_6, a0_7, (⟨za0_8, na0_8, fa0_8⟩ : (Sl Int)), (⟨za0_9, na0_9, fa0_9⟩ : (Sl Int)), (⟨za0_10, na0_10, fa0_10⟩ : (Sl Int))⟩ : S_impl_Node) (⟨a1_1, a1_2, a1_3, (⟨a1_5, a1_6, a1_7, a1_8, a1_9, a1_10⟩ : S_impl_Cmd)⟩ : S_impl_Entry), enc_impl_NodeResult_H⟩ | _, _ => none
theorem hpc_spec_AskNode_H (fu : Nat) : ∀ f xs o, pcf_spec_AskNode_H fu f xs = some o → ∀ y, o.x = some y → Good E Try.prog f xs (o.g y) := by
  intro f xs o h
  unfold pcf_spec_AskNode_H at h
  split at h
  · exact good_spec_l8Fault fu xs o h
  · exact good_spec_EntryFault fu xs o h
  · cases h
theorem hpx_spec_AskNode_H (fu : Nat) : ∀ f xs ins o, pcx_spec_AskNode_H fu f xs ins = some o → ∀ y, o.x = some y → GoodX E Try.prog f xs ins (o.g y).1 (o.g y).2 := by
  intro f xs ins o h
  unfold pcx_spec_AskNode_H at h
  split at h
  · exact good_spec_l8Bad_E fu xs ins o h
  · exact good_spec_l8Copy_H fu xs ins o h
  · exact good_spec_l8Agree_M fu xs ins o h
  · cases h
theorem goodv_spec_AskNode_H (fu : Nat) (n_0 : S_impl_Node) (x_1 : S_impl_Entry) (y : S_impl_NodeResult) (hy : F_spec_AskNode_H fu n_0 x_1 = some y) : GoodX E Try.prog 17 [(.agg [(.int .i64 n_0.Id), (.int .i64 n_0.Peers), (.int .i64 n_0.Term), (.int .i64 n_0.Voted), (.rs n_0.Log.z .impl_Entry n_0.Log.n n_0.Log.f), (.int .i64 n_0.Role), (.int .i64 n_0.Commit), (.rs n_0.Votes.z .i64 n_0.Votes.n n_0.Votes.f), (.rs n_0.Next.z .i64 n_0.Next.n n_0.Next.f), (.rs n_0.Match.z .i64 n_0.Match.n n_0.Match.f)]), (.agg [(.int .i64 x_1.Term), (.int .i64 x_1.Client), (.int .i64 x_1.Seq), (.int .i64 x_1.Cmd.Kind), (.int .i64 x_1.Cmd.Expect), (.int .i64 x_1.Cmd.Name), (.int .i64 x_1.Cmd.Addr), (.int .i64 x_1.Cmd.Number), (.int .i64 x_1.Cmd.Proto)])] [] (enc_impl_NodeResult_H y).1 (enc_impl_NodeResult_H y).2 :=
  funX_good (ke := false) E_ok (pc_good (pc := pc_spec_AskNode_H fu) (hpc_spec_AskNode_H fu) (hpx_spec_AskNode_H fu)) (fn := Try.f17) (c := body_spec_AskNode_H) (out := out_impl_NodeResult_H) (y := y) (by kernel_rfl) (by kernel_rfl) (by kernel_rfl) (lpok_spec_AskNode_H fu) (by kernel_rfl) (Nat.zero_le _) (fun d os hd => out_impl_NodeResult_H_enc d os _ hd) ((ev_spec_AskNode_H fu n_0 x_1).trans hy)
theorem good_spec_AskNode_H (fu : Nat) : ∀ xs ins o, S_spec_AskNode_H fu xs ins = some o → ∀ y, o.x = some y → GoodX E Try.prog 17 xs ins (o.g y).1 (o.g y).2 := by
  intro xs ins o h y hy
  unfold S_spec_AskNode_H at h
  split at h
  · rename_i a0_1 a0_2 a0_3 a0_4 za0_5 na0_5 fa0_5 a0_6 a0_7 za0_8 na0_8 fa0_8 za0_9 na0_9 fa0_9 za0_10 na0_10 fa0_10 a1_1 a1_2 a1_3 a1_5 a1_6 a1_7 a1_8 a1_9 a1_10
    cases h
    exact goodv_spec_AskNode_H fu (⟨a0_1, a0_2, a0_3, a0_4, (⟨za0_5, na0_5, fa0_5⟩ : (Sl S_impl_Entry)), a0_6, a0_7, (⟨za0_8, na0_8, fa0_8⟩ : (Sl Int)), (⟨za0_9, na0_9, fa0_9⟩ : (Sl Int)), (⟨za0_10, na0_10, fa0_10⟩ : (Sl Int))⟩ : S_impl_Node) (⟨a1_1, a1_2, a1_3, (⟨a1_5, a1_6, a1_7, a1_8, a1_9, a1_10⟩ : S_impl_Cmd)⟩ : S_impl_Entry) y hy
  · cases h

/-! slices.Clone[[]impl.Entry,impl.Entry] -/
def F_slices_Clone_impl_Entry_impl_Entry_H_raw (fu : Nat) (s_0 : (Sl S_impl_Entry)) : Option ((Sl S_impl_Entry)) :=
  ((s_0.z).bind fun b127 => (bif b127 then (some (⟨(some true), 0, (fun _ => dflt .impl_Entry)⟩ : (Sl S_impl_Entry))) else (bif (decide (s_0.n ≤ 9223372036854775807) && decide (s_0.n * 72 ≤ 140737488355328)) then
    (some (⟨none, s_0.n, s_0.f⟩ : (Sl S_impl_Entry))) else none)))
def pcf_slices_Clone_impl_Entry_impl_Entry_H_raw (fu : Nat) (f : Nat) (xs : List (D RT den)) : Option (Out RT den) := none
def pcx_slices_Clone_impl_Entry_impl_Entry_H_raw (fu : Nat) (f : Nat) (xs : List (D RT den)) (ins : List (Ob RT den)) : Option (OutX RT den) := none
def pc_slices_Clone_impl_Entry_impl_Entry_H_raw (fu : Nat) : Pc RT den := ⟨pcf_slices_Clone_impl_Entry_impl_Entry_H_raw fu, fun _ => false, fun _ => false, pcx_slices_Clone_impl_Entry_impl_Entry_H_raw fu⟩
def msk_slices_Clone_impl_Entry_impl_Entry_H_raw (b : Nat) : List Nat := []
def lp_slices_Clone_impl_Entry_impl_Entry_H_raw (fu : Nat) : Lp RT den ((Sl S_impl_Entry)) := fun b s k => none
theorem ev_slices_Clone_impl_Entry_impl_Entry_H_raw (fu : Nat) (s_0 : (Sl S_impl_Entry)) : evFunX E false (pc_slices_Clone_impl_Entry_impl_Entry_H_raw fu) msk_slices_Clone_impl_Entry_impl_Entry_H_raw (lp_slices_Clone_impl_Entry_impl_Entry_H_raw fu) out_sl_impl_Entry_H 47 [(.rs s_0.z .impl_Entry s_0.n s_0.f)] [] = F_slices_Clone_impl_Entry_impl_Entry_H_raw fu s_0 := by kernel_rfl
noncomputable def body_slices_Clone_impl_Entry_impl_Entry_H_raw : Code := Try.f47.body.getD .skip
theorem lpok_slices_Clone_impl_Entry_impl_Entry_H_raw (fu : Nat) : LpOk E (pc_slices_Clone_impl_Entry_impl_Entry_H_raw fu) msk_slices_Clone_impl_Entry_impl_Entry_H_raw (lp_slices_Clone_impl_Entry_impl_Entry_H_raw fu) (loops 0 body_slices_Clone_impl_Entry_impl_Entry_H_raw) := by
  have h : loops 0 body_slices_Clone_impl_Entry_impl_Entry_H_raw = [] := by kernel_rfl
  rw [h]; intro p hp; cases hp
def S_slices_Clone_impl_Entry_impl_Entry_H_raw (fu : Nat) (xs : List (D RT den)) (ins : List (Ob RT den)) : Option (OutX RT den) := match xs, ins with | [.rs za0_0 .impl_Entry na0_0 fa0_0], [] => some ⟨(Sl S_impl_Entry), F_slices_Clone_impl_Entry_impl_Entry_H_raw fu (⟨za0_0, na0_0, fa0_0⟩ : (Sl S_impl_Entry)), enc_sl_impl_Entry_H⟩ | _, _ => none
theorem hpc_slices_Clone_impl_Entry_impl_Entry_H_raw (fu : Nat) : ∀ f xs o, pcf_slices_Clone_impl_Entry_impl_Entry_H_raw fu f xs = some o → ∀ y, o.x = some y → Good E Try.prog f xs (o.g y) := by
  intro f xs o h
  cases h
theorem hpx_slices_Clone_impl_Entry_impl_Entry_H_raw (fu : Nat) : ∀ f xs ins o, pcx_slices_Clone_impl_Entry_impl_Entry_H_raw fu f xs ins = some o → ∀ y, o.x = some y → GoodX E Try.prog f xs ins (o.g y).1 (o.g y).2 := by
  intro f xs ins o h
  cases h
theorem goodv_slices_Clone_impl_Entry_impl_Entry_H_raw (fu : Nat) (s_0 : (Sl S_impl_Entry)) (y : (Sl S_impl_Entry)) (hy : F_slices_Clone_impl_Entry_impl_Entry_H_raw fu s_0 = some y) : GoodX E Try.prog 47 [(.rs s_0.z .impl_Entry s_0.n s_0.f)] [] (enc_sl_impl_Entry_H y).1 (enc_sl_impl_Entry_H y).2 :=
  funX_good (ke := false) E_ok (pc_good (pc := pc_slices_Clone_impl_Entry_impl_Entry_H_raw fu) (hpc_slices_Clone_impl_Entry_impl_Entry_H_raw fu) (hpx_slices_Clone_impl_Entry_impl_Entry_H_raw fu)) (fn := Try.f47) (c := body_slices_Clone_impl_Entry_impl_Entry_H_raw) (out := out_sl_impl_Entry_H) (y := y) (by kernel_rfl) (by kernel_rfl) (by kernel_rfl) (lpok_slices_Clone_impl_Entry_impl_Entry_H_raw fu) (by kernel_rfl) (Nat.zero_le _) (fun d os hd => out_sl_impl_Entry_H_enc d os _ hd) ((ev_slices_Clone_impl_Entry_impl_Entry_H_raw fu s_0).trans hy)
def F_slices_Clone_impl_Entry_impl_Entry_H (fu : Nat) (s_0 : (Sl S_impl_Entry)) : Option ((Sl S_impl_Entry)) := bif decide (s_0.n ≤ 9223372036854775807) && decide (s_0.n * 72 ≤ 140737488355328) then some ⟨none, s_0.n, s_0.f⟩ else none
def S_slices_Clone_impl_Entry_impl_Entry_H (fu : Nat) (xs : List (D RT den)) (ins : List (Ob RT den)) : Option (OutX RT den) := match xs, ins with | [.rs za0_0 .impl_Entry na0_0 fa0_0], [] => some ⟨(Sl S_impl_Entry), F_slices_Clone_impl_Entry_impl_Entry_H fu (⟨za0_0, na0_0, fa0_0⟩ : (Sl S_impl_Entry)), enc_sl_impl_Entry_H⟩ | _, _ => none
theorem good_slices_Clone_impl_Entry_impl_Entry_H (fu : Nat) : ∀ xs ins o, S_slices_Clone_impl_Entry_impl_Entry_H fu xs ins = some o → ∀ y, o.x = some y → GoodX E Try.prog 47 xs ins (o.g y).1 (o.g y).2 := by
  intro xs ins o h y hy
  unfold S_slices_Clone_impl_Entry_impl_Entry_H at h
  split at h
  · rename_i za0_0 na0_0 fa0_0
    cases h
    have hy : F_slices_Clone_impl_Entry_impl_Entry_H fu ⟨za0_0, na0_0, fa0_0⟩ = some y := hy
    unfold F_slices_Clone_impl_Entry_impl_Entry_H at hy
    dsimp only at hy
    cases hc : (decide (na0_0 ≤ 9223372036854775807) && decide (na0_0 * 72 ≤ 140737488355328)) with
    | false => rw [hc] at hy; cases hy
    | true =>
      rw [hc] at hy
      have hy := Option.some.inj hy; subst hy
      refine GoodX.clone (d0 := fun _ => dflt .impl_Entry) (goodv_slices_Clone_impl_Entry_impl_Entry_H_raw fu ⟨some true, na0_0, fa0_0⟩ ⟨some true, 0, fun _ => dflt .impl_Entry⟩ rfl) (goodv_slices_Clone_impl_Entry_impl_Entry_H_raw fu ⟨some false, na0_0, fa0_0⟩ ⟨none, na0_0, fa0_0⟩ ?_) _
      unfold F_slices_Clone_impl_Entry_impl_Entry_H_raw
      simp only [Option.bind_some, cond_false, hc, cond_true]
  · cases h
end Go.Proofs.Ytohlgllpplbehaa.Pc
