/- The functions' evaluated forms, each a proved summary. Conditions: none. -/
import Derived.Test.YtmgndndkkeinfaaGreatPcF4
namespace Go.Proofs.YtmgndndkkeinfaaGreat.Pc
open Go Go.RowKit Go.Proofs Vm
set_option linter.unusedVariables false
set_option linter.unusedSimpArgs false
set_option maxRecDepth 100000
/-! impl.fill'1 -/
def F_impl_fill_c1 (fu : Nat) (s_0 : S_impl_Share) : Option (Bool) :=
  (some (decide (s_0.Weight > 0)))
def pcf_impl_fill_c1 (fu : Nat) (f : Nat) (xs : List (D RT den)) : Option (Out RT den) := none
def pcx_impl_fill_c1 (fu : Nat) (f : Nat) (xs : List (D RT den)) (ins : List (Ob RT den)) : Option (OutX RT den) := none
def pc_impl_fill_c1 (fu : Nat) : Pc RT den := ⟨pcf_impl_fill_c1 fu, fun _ => false, fun _ => false, pcx_impl_fill_c1 fu⟩
def msk_impl_fill_c1 (b : Nat) : List Nat := []
def lp_impl_fill_c1 (fu : Nat) : Lp RT den (Bool) := fun b s k => none
theorem ev_impl_fill_c1 (fu : Nat) (s_0 : S_impl_Share) : evFun E (pc_impl_fill_c1 fu) msk_impl_fill_c1 (lp_impl_fill_c1 fu) out_bo 79 [(.agg [(.int .i64 s_0.Name), (.int .i64 s_0.Weight)])] = F_impl_fill_c1 fu s_0 := by kernel_rfl
noncomputable def body_impl_fill_c1 : Code := Tryz.f79.body.getD .skip
theorem lpok_impl_fill_c1 (fu : Nat) : LpOk E (pc_impl_fill_c1 fu) msk_impl_fill_c1 (lp_impl_fill_c1 fu) (loops 0 body_impl_fill_c1) := by
  have h : loops 0 body_impl_fill_c1 = [] := by kernel_rfl
  rw [h]; intro p hp; cases hp
def S_impl_fill_c1 (fu : Nat) (xs : List (D RT den)) : Option (Out RT den) := match xs with | [.agg [.int .i64 a0_1, .int .i64 a0_2]] => some ⟨Bool, F_impl_fill_c1 fu (⟨a0_1, a0_2⟩ : S_impl_Share), enc_bo, fun _ => true⟩ | _ => none
theorem hpc_impl_fill_c1 (fu : Nat) : ∀ f xs o, pcf_impl_fill_c1 fu f xs = some o → ∀ y, o.x = some y → Good E Tryz.prog f xs (o.g y) := by
  intro f xs o h
  cases h
theorem hpx_impl_fill_c1 (fu : Nat) : ∀ f xs ins o, pcx_impl_fill_c1 fu f xs ins = some o → ∀ y, o.x = some y → GoodX E Tryz.prog f xs ins (o.g y).1 (o.g y).2 := by
  intro f xs ins o h
  cases h
theorem goodv_impl_fill_c1 (fu : Nat) (s_0 : S_impl_Share) (y : Bool) (hy : F_impl_fill_c1 fu s_0 = some y) : Good E Tryz.prog 79 [(.agg [(.int .i64 s_0.Name), (.int .i64 s_0.Weight)])] (enc_bo y) :=
  fun_good E_ok (pc_good (pc := pc_impl_fill_c1 fu) (hpc_impl_fill_c1 fu) (hpx_impl_fill_c1 fu)) (fn := Tryz.f79) (c := body_impl_fill_c1) (out := out_bo) (y := y) (by kernel_rfl) (by kernel_rfl) (by kernel_rfl) (lpok_impl_fill_c1 fu) (fun d hd => out_bo_enc d _ hd) ((ev_impl_fill_c1 fu s_0).trans hy)
theorem good_impl_fill_c1 (fu : Nat) : ∀ xs o, S_impl_fill_c1 fu xs = some o → ∀ y, o.x = some y → Good E Tryz.prog 79 xs (o.g y) := by
  intro xs o h y hy
  unfold S_impl_fill_c1 at h
  split at h
  · rename_i a0_1 a0_2
    cases h
    exact goodv_impl_fill_c1 fu (⟨a0_1, a0_2⟩ : S_impl_Share) y hy
  · cases h

/-! slices.IndexFunc[[]impl.Share,impl.Share] -/
def F_slices_IndexFunc_impl_Share_impl_Share_w_impl_fill_c1_B0 {ρ : Type} (fu : Nat) (s0_0 : (Sl S_impl_Share)) (t7_1 : Int) (k0 : Int → Option ρ) (k1 : Option ρ) (t8_2 : Int) (go : Int → Option ρ) : Option ρ :=
  (bif (decide (t8_2 < t7_1)) then ((bif (decide (0 ≤ t8_2) && decide ((Int.toNat t8_2) < s0_0.n)) then some () else none : Option Unit).bind fun _ => ((F_impl_fill_c1 fu (s0_0.f (Int.toNat t8_2))).bind fun y323 =>
    (bif y323 then (k0 t8_2) else (go (IntKind.wrap .i64 (t8_2 + 1)))))) else k1)
def F_slices_IndexFunc_impl_Share_impl_Share_w_impl_fill_c1 (fu : Nat) (s_0 : (Sl S_impl_Share)) : Option (Int) :=
  (L (fun w0 go0 => F_slices_IndexFunc_impl_Share_impl_Share_w_impl_fill_c1_B0 fu s_0 ((s_0.n : Nat) : Int) (fun z324 => (some z324)) (some (-1)) w0 go0) fu (0 : Int))
def pcf_slices_IndexFunc_impl_Share_impl_Share_w_impl_fill_c1 (fu : Nat) (f : Nat) (xs : List (D RT den)) : Option (Out RT den) := match f with | 79 => S_impl_fill_c1 fu xs | _ => none
def pcx_slices_IndexFunc_impl_Share_impl_Share_w_impl_fill_c1 (fu : Nat) (f : Nat) (xs : List (D RT den)) (ins : List (Ob RT den)) : Option (OutX RT den) := none
def pc_slices_IndexFunc_impl_Share_impl_Share_w_impl_fill_c1 (fu : Nat) : Pc RT den := ⟨pcf_slices_IndexFunc_impl_Share_impl_Share_w_impl_fill_c1 fu, fun _ => false, fun _ => false, pcx_slices_IndexFunc_impl_Share_impl_Share_w_impl_fill_c1 fu⟩
def msk_slices_IndexFunc_impl_Share_impl_Share_w_impl_fill_c1 (b : Nat) : List Nat := match b with | 0 => [2, 3, 4, 5, 6, 9, 10, 11, 12, 13, 14, 15, 16, 17, 18] | 100000 => [0, 1, 2, 3, 5, 6, 7, 8, 9, 10, 11, 12, 13, 14, 15, 16, 17, 18] | _ => []
def ps_slices_IndexFunc_impl_Share_impl_Share_w_impl_fill_c1_0 : List (Pat RT) := [.flat (.rs .impl_Share), .fn 79 [], .flat .dead, .flat .dead, .flat .dead, .flat .dead, .flat .dead, .flat (.int .i64), .flat (.int .i64), .flat .dead, .flat .dead, .flat .dead, .flat .dead, .flat .dead, .flat .dead, .flat .dead, .flat .dead, .flat .dead, .flat .dead]
def os_slices_IndexFunc_impl_Share_impl_Share_w_impl_fill_c1_0 : List (OP RT) := []
def conv_slices_IndexFunc_impl_Share_impl_Share_w_impl_fill_c1_0 (r : Raw den ps_slices_IndexFunc_impl_Share_impl_Share_w_impl_fill_c1_0 os_slices_IndexFunc_impl_Share_impl_Share_w_impl_fill_c1_0) : ((Sl S_impl_Share) × Int) × (Int) := ((r.1.1, r.1.2.2.2.2.2.2.2.1), r.1.2.2.2.2.2.2.2.2.1)
def back_slices_IndexFunc_impl_Share_impl_Share_w_impl_fill_c1_0 (c : (Sl S_impl_Share) × Int) (w : Int) : St RT den := ⟨[(.rs c.1.z .impl_Share c.1.n c.1.f), (.fn 79 []), .dead, .dead, .dead, .dead, .dead, (.int .i64 c.2), (.int .i64 w), .dead, .dead, .dead, .dead, .dead, .dead, .dead, .dead, .dead, .dead], []⟩
def Bk_slices_IndexFunc_impl_Share_impl_Share_w_impl_fill_c1_0 {ρ : Type} (fu : Nat) (c : (Sl S_impl_Share) × Int) (k : Ex → St RT den → Option ρ) (w : Int) (go : (Int) → Option ρ) : Option ρ := F_slices_IndexFunc_impl_Share_impl_Share_w_impl_fill_c1_B0 fu c.1 c.2 (fun a0 => k .ret ⟨[.dead, .dead, .dead, .dead, (.int .i64 a0), .dead, .dead, .dead, .dead, .dead, .dead, .dead, .dead, .dead, .dead, .dead, .dead, .dead, .dead], []⟩) (k (.exit 0) ⟨[.dead, .dead, .dead, .dead, .dead, .dead, .dead, .dead, .dead, .dead, .dead, .dead, .dead, .dead, .dead, .dead, .dead, .dead, .dead], []⟩) w go
def lp_slices_IndexFunc_impl_Share_impl_Share_w_impl_fill_c1 (fu : Nat) : Lp RT den (Int) := fun b s k => match b with | 0 => handle ps_slices_IndexFunc_impl_Share_impl_Share_w_impl_fill_c1_0 os_slices_IndexFunc_impl_Share_impl_Share_w_impl_fill_c1_0 conv_slices_IndexFunc_impl_Share_impl_Share_w_impl_fill_c1_0 (Bk_slices_IndexFunc_impl_Share_impl_Share_w_impl_fill_c1_0 fu) fu s k | _ => none
theorem ev_slices_IndexFunc_impl_Share_impl_Share_w_impl_fill_c1 (fu : Nat) (s_0 : (Sl S_impl_Share)) : evFun E (pc_slices_IndexFunc_impl_Share_impl_Share_w_impl_fill_c1 fu) msk_slices_IndexFunc_impl_Share_impl_Share_w_impl_fill_c1 (lp_slices_IndexFunc_impl_Share_impl_Share_w_impl_fill_c1 fu) out_i64 103 [(.rs s_0.z .impl_Share s_0.n s_0.f), (.fn 79 [])] = F_slices_IndexFunc_impl_Share_impl_Share_w_impl_fill_c1 fu s_0 := by kernel_rfl
noncomputable def body_slices_IndexFunc_impl_Share_impl_Share_w_impl_fill_c1 : Code := Tryz.f103.body.getD .skip
noncomputable def lc_slices_IndexFunc_impl_Share_impl_Share_w_impl_fill_c1_0 : Code := ((loops 0 body_slices_IndexFunc_impl_Share_impl_Share_w_impl_fill_c1).getD 0 (0, .skip)).2
theorem round_slices_IndexFunc_impl_Share_impl_Share_w_impl_fill_c1_0 (fu : Nat) (it : St RT den → Option (Int)) (k : Ex → St RT den → Option (Int)) c w : evCode E (pc_slices_IndexFunc_impl_Share_impl_Share_w_impl_fill_c1 fu) msk_slices_IndexFunc_impl_Share_impl_Share_w_impl_fill_c1 (lp_slices_IndexFunc_impl_Share_impl_Share_w_impl_fill_c1 fu) 0 lc_slices_IndexFunc_impl_Share_impl_Share_w_impl_fill_c1_0 (back_slices_IndexFunc_impl_Share_impl_Share_w_impl_fill_c1_0 c w) (after (msk_slices_IndexFunc_impl_Share_impl_Share_w_impl_fill_c1 0) (msk_slices_IndexFunc_impl_Share_impl_Share_w_impl_fill_c1 100000) 0 it k) = Bk_slices_IndexFunc_impl_Share_impl_Share_w_impl_fill_c1_0 fu c k w (fun w => it (back_slices_IndexFunc_impl_Share_impl_Share_w_impl_fill_c1_0 c w)) := by kernel_rfl
theorem lpok_slices_IndexFunc_impl_Share_impl_Share_w_impl_fill_c1_0 (fu : Nat) : ∀ s k r, lp_slices_IndexFunc_impl_Share_impl_Share_w_impl_fill_c1 fu 0 s k = some r → ∃ fuel, iter (msk_slices_IndexFunc_impl_Share_impl_Share_w_impl_fill_c1 0) (msk_slices_IndexFunc_impl_Share_impl_Share_w_impl_fill_c1 100000) s.objs.length (evCode E (pc_slices_IndexFunc_impl_Share_impl_Share_w_impl_fill_c1 fu) msk_slices_IndexFunc_impl_Share_impl_Share_w_impl_fill_c1 (lp_slices_IndexFunc_impl_Share_impl_Share_w_impl_fill_c1 fu) 0 lc_slices_IndexFunc_impl_Share_impl_Share_w_impl_fill_c1_0) fuel s k = some r :=
  handle_ok (ps := ps_slices_IndexFunc_impl_Share_impl_Share_w_impl_fill_c1_0) (os := os_slices_IndexFunc_impl_Share_impl_Share_w_impl_fill_c1_0) (conv := conv_slices_IndexFunc_impl_Share_impl_Share_w_impl_fill_c1_0) (B := Bk_slices_IndexFunc_impl_Share_impl_Share_w_impl_fill_c1_0 fu) (fu := fu) back_slices_IndexFunc_impl_Share_impl_Share_w_impl_fill_c1_0 (fun raw => by kernel_rfl) 0 (fun c w => by kernel_rfl) (round_slices_IndexFunc_impl_Share_impl_Share_w_impl_fill_c1_0 fu)
theorem lpok_slices_IndexFunc_impl_Share_impl_Share_w_impl_fill_c1 (fu : Nat) : LpOk E (pc_slices_IndexFunc_impl_Share_impl_Share_w_impl_fill_c1 fu) msk_slices_IndexFunc_impl_Share_impl_Share_w_impl_fill_c1 (lp_slices_IndexFunc_impl_Share_impl_Share_w_impl_fill_c1 fu) (loops 0 body_slices_IndexFunc_impl_Share_impl_Share_w_impl_fill_c1) := loop_all 1 (by kernel_rfl) fun i hi => match i, hi with
  | 0, _ => by
    have h : (loops 0 body_slices_IndexFunc_impl_Share_impl_Share_w_impl_fill_c1).getD 0 (0, .skip) = (0, lc_slices_IndexFunc_impl_Share_impl_Share_w_impl_fill_c1_0) := by kernel_rfl
    rw [h]; exact lpok_slices_IndexFunc_impl_Share_impl_Share_w_impl_fill_c1_0 fu
  | i + 1, hi => absurd hi (by omega)
def S_slices_IndexFunc_impl_Share_impl_Share_w_impl_fill_c1 (fu : Nat) (xs : List (D RT den)) : Option (Out RT den) := match xs with | [.rs za0_0 .impl_Share na0_0 fa0_0, .fn 79 []] => some ⟨Int, F_slices_IndexFunc_impl_Share_impl_Share_w_impl_fill_c1 fu (⟨za0_0, na0_0, fa0_0⟩ : (Sl S_impl_Share)), enc_i64, fun _ => true⟩ | _ => none
theorem hpc_slices_IndexFunc_impl_Share_impl_Share_w_impl_fill_c1 (fu : Nat) : ∀ f xs o, pcf_slices_IndexFunc_impl_Share_impl_Share_w_impl_fill_c1 fu f xs = some o → ∀ y, o.x = some y → Good E Tryz.prog f xs (o.g y) := by
  intro f xs o h
  unfold pcf_slices_IndexFunc_impl_Share_impl_Share_w_impl_fill_c1 at h
  split at h
  · exact good_impl_fill_c1 fu xs o h
  · cases h
theorem hpx_slices_IndexFunc_impl_Share_impl_Share_w_impl_fill_c1 (fu : Nat) : ∀ f xs ins o, pcx_slices_IndexFunc_impl_Share_impl_Share_w_impl_fill_c1 fu f xs ins = some o → ∀ y, o.x = some y → GoodX E Tryz.prog f xs ins (o.g y).1 (o.g y).2 := by
  intro f xs ins o h
  cases h
theorem goodv_slices_IndexFunc_impl_Share_impl_Share_w_impl_fill_c1 (fu : Nat) (s_0 : (Sl S_impl_Share)) (y : Int) (hy : F_slices_IndexFunc_impl_Share_impl_Share_w_impl_fill_c1 fu s_0 = some y) : Good E Tryz.prog 103 [(.rs s_0.z .impl_Share s_0.n s_0.f), (.fn 79 [])] (enc_i64 y) :=
  fun_good E_ok (pc_good (pc := pc_slices_IndexFunc_impl_Share_impl_Share_w_impl_fill_c1 fu) (hpc_slices_IndexFunc_impl_Share_impl_Share_w_impl_fill_c1 fu) (hpx_slices_IndexFunc_impl_Share_impl_Share_w_impl_fill_c1 fu)) (fn := Tryz.f103) (c := body_slices_IndexFunc_impl_Share_impl_Share_w_impl_fill_c1) (out := out_i64) (y := y) (by kernel_rfl) (by kernel_rfl) (by kernel_rfl) (lpok_slices_IndexFunc_impl_Share_impl_Share_w_impl_fill_c1 fu) (fun d hd => out_i64_enc d _ hd) ((ev_slices_IndexFunc_impl_Share_impl_Share_w_impl_fill_c1 fu s_0).trans hy)
theorem good_slices_IndexFunc_impl_Share_impl_Share_w_impl_fill_c1 (fu : Nat) : ∀ xs o, S_slices_IndexFunc_impl_Share_impl_Share_w_impl_fill_c1 fu xs = some o → ∀ y, o.x = some y → Good E Tryz.prog 103 xs (o.g y) := by
  intro xs o h y hy
  unfold S_slices_IndexFunc_impl_Share_impl_Share_w_impl_fill_c1 at h
  split at h
  · rename_i za0_0 na0_0 fa0_0
    cases h
    exact goodv_slices_IndexFunc_impl_Share_impl_Share_w_impl_fill_c1 fu (⟨za0_0, na0_0, fa0_0⟩ : (Sl S_impl_Share)) y hy
  · cases h

/-! slices.ContainsFunc[[]impl.Share,impl.Share] -/
def F_slices_ContainsFunc_impl_Share_impl_Share_w_impl_fill_c1 (fu : Nat) (s_0 : (Sl S_impl_Share)) : Option (Bool) :=
  ((F_slices_IndexFunc_impl_Share_impl_Share_w_impl_fill_c1 fu s_0).bind fun y322 => (some (decide (y322 ≥ 0))))
def pcf_slices_ContainsFunc_impl_Share_impl_Share_w_impl_fill_c1 (fu : Nat) (f : Nat) (xs : List (D RT den)) : Option (Out RT den) := match f with | 103 => S_slices_IndexFunc_impl_Share_impl_Share_w_impl_fill_c1 fu xs | _ => none
def pcx_slices_ContainsFunc_impl_Share_impl_Share_w_impl_fill_c1 (fu : Nat) (f : Nat) (xs : List (D RT den)) (ins : List (Ob RT den)) : Option (OutX RT den) := none
def pc_slices_ContainsFunc_impl_Share_impl_Share_w_impl_fill_c1 (fu : Nat) : Pc RT den := ⟨pcf_slices_ContainsFunc_impl_Share_impl_Share_w_impl_fill_c1 fu, fun _ => false, fun _ => false, pcx_slices_ContainsFunc_impl_Share_impl_Share_w_impl_fill_c1 fu⟩
def msk_slices_ContainsFunc_impl_Share_impl_Share_w_impl_fill_c1 (b : Nat) : List Nat := []
def lp_slices_ContainsFunc_impl_Share_impl_Share_w_impl_fill_c1 (fu : Nat) : Lp RT den (Bool) := fun b s k => none
theorem ev_slices_ContainsFunc_impl_Share_impl_Share_w_impl_fill_c1 (fu : Nat) (s_0 : (Sl S_impl_Share)) : evFun E (pc_slices_ContainsFunc_impl_Share_impl_Share_w_impl_fill_c1 fu) msk_slices_ContainsFunc_impl_Share_impl_Share_w_impl_fill_c1 (lp_slices_ContainsFunc_impl_Share_impl_Share_w_impl_fill_c1 fu) out_bo 78 [(.rs s_0.z .impl_Share s_0.n s_0.f), (.fn 79 [])] = F_slices_ContainsFunc_impl_Share_impl_Share_w_impl_fill_c1 fu s_0 := by kernel_rfl
noncomputable def body_slices_ContainsFunc_impl_Share_impl_Share_w_impl_fill_c1 : Code := Tryz.f78.body.getD .skip
theorem lpok_slices_ContainsFunc_impl_Share_impl_Share_w_impl_fill_c1 (fu : Nat) : LpOk E (pc_slices_ContainsFunc_impl_Share_impl_Share_w_impl_fill_c1 fu) msk_slices_ContainsFunc_impl_Share_impl_Share_w_impl_fill_c1 (lp_slices_ContainsFunc_impl_Share_impl_Share_w_impl_fill_c1 fu) (loops 0 body_slices_ContainsFunc_impl_Share_impl_Share_w_impl_fill_c1) := by
  have h : loops 0 body_slices_ContainsFunc_impl_Share_impl_Share_w_impl_fill_c1 = [] := by kernel_rfl
  rw [h]; intro p hp; cases hp
def S_slices_ContainsFunc_impl_Share_impl_Share_w_impl_fill_c1 (fu : Nat) (xs : List (D RT den)) : Option (Out RT den) := match xs with | [.rs za0_0 .impl_Share na0_0 fa0_0, .fn 79 []] => some ⟨Bool, F_slices_ContainsFunc_impl_Share_impl_Share_w_impl_fill_c1 fu (⟨za0_0, na0_0, fa0_0⟩ : (Sl S_impl_Share)), enc_bo, fun _ => true⟩ | _ => none
theorem hpc_slices_ContainsFunc_impl_Share_impl_Share_w_impl_fill_c1 (fu : Nat) : ∀ f xs o, pcf_slices_ContainsFunc_impl_Share_impl_Share_w_impl_fill_c1 fu f xs = some o → ∀ y, o.x = some y → Good E Tryz.prog f xs (o.g y) := by
  intro f xs o h
  unfold pcf_slices_ContainsFunc_impl_Share_impl_Share_w_impl_fill_c1 at h
  split at h
  · exact good_slices_IndexFunc_impl_Share_impl_Share_w_impl_fill_c1 fu xs o h
  · cases h
theorem hpx_slices_ContainsFunc_impl_Share_impl_Share_w_impl_fill_c1 (fu : Nat) : ∀ f xs ins o, pcx_slices_ContainsFunc_impl_Share_impl_Share_w_impl_fill_c1 fu f xs ins = some o → ∀ y, o.x = some y → GoodX E Tryz.prog f xs ins (o.g y).1 (o.g y).2 := by
  intro f xs ins o h
  cases h
theorem goodv_slices_ContainsFunc_impl_Share_impl_Share_w_impl_fill_c1 (fu : Nat) (s_0 : (Sl S_impl_Share)) (y : Bool) (hy : F_slices_ContainsFunc_impl_Share_impl_Share_w_impl_fill_c1 fu s_0 = some y) : Good E Tryz.prog 78 [(.rs s_0.z .impl_Share s_0.n s_0.f), (.fn 79 [])] (enc_bo y) :=
  fun_good E_ok (pc_good (pc := pc_slices_ContainsFunc_impl_Share_impl_Share_w_impl_fill_c1 fu) (hpc_slices_ContainsFunc_impl_Share_impl_Share_w_impl_fill_c1 fu) (hpx_slices_ContainsFunc_impl_Share_impl_Share_w_impl_fill_c1 fu)) (fn := Tryz.f78) (c := body_slices_ContainsFunc_impl_Share_impl_Share_w_impl_fill_c1) (out := out_bo) (y := y) (by kernel_rfl) (by kernel_rfl) (by kernel_rfl) (lpok_slices_ContainsFunc_impl_Share_impl_Share_w_impl_fill_c1 fu) (fun d hd => out_bo_enc d _ hd) ((ev_slices_ContainsFunc_impl_Share_impl_Share_w_impl_fill_c1 fu s_0).trans hy)
theorem good_slices_ContainsFunc_impl_Share_impl_Share_w_impl_fill_c1 (fu : Nat) : ∀ xs o, S_slices_ContainsFunc_impl_Share_impl_Share_w_impl_fill_c1 fu xs = some o → ∀ y, o.x = some y → Good E Tryz.prog 78 xs (o.g y) := by
  intro xs o h y hy
  unfold S_slices_ContainsFunc_impl_Share_impl_Share_w_impl_fill_c1 at h
  split at h
  · rename_i za0_0 na0_0 fa0_0
    cases h
    exact goodv_slices_ContainsFunc_impl_Share_impl_Share_w_impl_fill_c1 fu (⟨za0_0, na0_0, fa0_0⟩ : (Sl S_impl_Share)) y hy
  · cases h

/-! impl.rest -/
def F_impl_rest (fu : Nat) (n_0 : Int) (by_1 : Int) : Option (Int) :=
  ((bif (!decide (by_1 = 0)) then some () else none : Option Unit).bind fun _ => ((bif (!decide (by_1 = 0)) then some () else none : Option Unit).bind fun _ => (some (Int.tmod (IntKind.wrap .i64 ((Int.tmod n_0 by_1) + by_1)) by_1))))
def pcf_impl_rest (fu : Nat) (f : Nat) (xs : List (D RT den)) : Option (Out RT den) := none
def pcx_impl_rest (fu : Nat) (f : Nat) (xs : List (D RT den)) (ins : List (Ob RT den)) : Option (OutX RT den) := none
def pc_impl_rest (fu : Nat) : Pc RT den := ⟨pcf_impl_rest fu, fun _ => false, fun _ => false, pcx_impl_rest fu⟩
def msk_impl_rest (b : Nat) : List Nat := []
def lp_impl_rest (fu : Nat) : Lp RT den (Int) := fun b s k => none
theorem ev_impl_rest (fu : Nat) (n_0 : Int) (by_1 : Int) : evFun E (pc_impl_rest fu) msk_impl_rest (lp_impl_rest fu) out_i64 118 [(.int .i64 n_0), (.int .i64 by_1)] = F_impl_rest fu n_0 by_1 := by kernel_rfl
noncomputable def body_impl_rest : Code := Tryz.f118.body.getD .skip
theorem lpok_impl_rest (fu : Nat) : LpOk E (pc_impl_rest fu) msk_impl_rest (lp_impl_rest fu) (loops 0 body_impl_rest) := by
  have h : loops 0 body_impl_rest = [] := by kernel_rfl
  rw [h]; intro p hp; cases hp
def S_impl_rest (fu : Nat) (xs : List (D RT den)) : Option (Out RT den) := match xs with | [.int .i64 a0_0, .int .i64 a1_0] => some ⟨Int, F_impl_rest fu a0_0 a1_0, enc_i64, fun _ => true⟩ | _ => none
theorem hpc_impl_rest (fu : Nat) : ∀ f xs o, pcf_impl_rest fu f xs = some o → ∀ y, o.x = some y → Good E Tryz.prog f xs (o.g y) := by
  intro f xs o h
  cases h
theorem hpx_impl_rest (fu : Nat) : ∀ f xs ins o, pcx_impl_rest fu f xs ins = some o → ∀ y, o.x = some y → GoodX E Tryz.prog f xs ins (o.g y).1 (o.g y).2 := by
  intro f xs ins o h
  cases h
theorem goodv_impl_rest (fu : Nat) (n_0 : Int) (by_1 : Int) (y : Int) (hy : F_impl_rest fu n_0 by_1 = some y) : Good E Tryz.prog 118 [(.int .i64 n_0), (.int .i64 by_1)] (enc_i64 y) :=
  fun_good E_ok (pc_good (pc := pc_impl_rest fu) (hpc_impl_rest fu) (hpx_impl_rest fu)) (fn := Tryz.f118) (c := body_impl_rest) (out := out_i64) (y := y) (by kernel_rfl) (by kernel_rfl) (by kernel_rfl) (lpok_impl_rest fu) (fun d hd => out_i64_enc d _ hd) ((ev_impl_rest fu n_0 by_1).trans hy)
theorem good_impl_rest (fu : Nat) : ∀ xs o, S_impl_rest fu xs = some o → ∀ y, o.x = some y → Good E Tryz.prog 118 xs (o.g y) := by
  intro xs o h y hy
  unfold S_impl_rest at h
  split at h
  · rename_i a0_0 a1_0
    cases h
    exact goodv_impl_rest fu a0_0 a1_0 y hy
  · cases h

/-! impl.MixNumber -/
def F_impl_MixNumber_B0 {ρ : Type} (fu : Nat) (k0 : Int → Option ρ) (n0_0 : Int) (h5_1 : Int) (t11_2 : Int) (go : Int → Int → Int → Option ρ) : Option ρ :=
  (bif (decide (t11_2 < 4)) then (go (IntKind.wrap .i64 (Int.tdiv n0_0 256)) (Int.tmod (IntKind.wrap .i64 ((IntKind.wrap .i64 ((IntKind.wrap .i64 (h5_1 * 131)) + (Int.tmod n0_0 256))) + 1)) 1000003) (IntKind.wrap .i64 (t11_2 + 1))) else
    (k0 h5_1))
def F_impl_MixNumber (fu : Nat) (n_0 : Int) (salt_1 : Int) : Option (Int) :=
  ((F_impl_rest fu salt_1 10007).bind fun y331 => ((F_impl_rest fu n_0 4294967296).bind fun y332 => (L (fun w0 go0 => F_impl_MixNumber_B0 fu  (fun z333 => (some z333)) w0.1 w0.2.1 w0.2.2 (fun q0 q1 q2 =>
    go0 (q0, q1, q2))) fu ((y332, (IntKind.wrap .i64 (y331 + 11)), 0) : Int × Int × Int))))
def pcf_impl_MixNumber (fu : Nat) (f : Nat) (xs : List (D RT den)) : Option (Out RT den) := match f with | 118 => S_impl_rest fu xs | _ => none
def pcx_impl_MixNumber (fu : Nat) (f : Nat) (xs : List (D RT den)) (ins : List (Ob RT den)) : Option (OutX RT den) := none
def pc_impl_MixNumber (fu : Nat) : Pc RT den := ⟨pcf_impl_MixNumber fu, fun _ => false, fun _ => false, pcx_impl_MixNumber fu⟩
def msk_impl_MixNumber (b : Nat) : List Nat := match b with | 0 => [1, 2, 3, 4, 6, 7, 8, 9, 10, 12, 13, 14, 15, 16, 17, 18, 19, 20, 21, 22, 23] | 100000 => [0, 1, 2, 3, 6, 7, 8, 9, 10, 11, 12, 13, 14, 15, 16, 17, 18, 19, 20, 21, 22, 23] | _ => []
def ps_impl_MixNumber_0 : List (Pat RT) := [.flat (.int .i64), .flat .dead, .flat .dead, .flat .dead, .flat .dead, .flat (.int .i64), .flat .dead, .flat .dead, .flat .dead, .flat .dead, .flat .dead, .flat (.int .i64), .flat .dead, .flat .dead, .flat .dead, .flat .dead, .flat .dead, .flat .dead, .flat .dead, .flat .dead, .flat .dead, .flat .dead, .flat .dead, .flat .dead]
def os_impl_MixNumber_0 : List (OP RT) := []
def conv_impl_MixNumber_0 (r : Raw den ps_impl_MixNumber_0 os_impl_MixNumber_0) : (Unit) × (Int × Int × Int) := ((), (r.1.1, r.1.2.2.2.2.2.1, r.1.2.2.2.2.2.2.2.2.2.2.2.1))
def back_impl_MixNumber_0 (c : Unit) (w : Int × Int × Int) : St RT den := ⟨[(.int .i64 w.1), .dead, .dead, .dead, .dead, (.int .i64 w.2.1), .dead, .dead, .dead, .dead, .dead, (.int .i64 w.2.2), .dead, .dead, .dead, .dead, .dead, .dead, .dead, .dead, .dead, .dead, .dead, .dead], []⟩
def Bk_impl_MixNumber_0 {ρ : Type} (fu : Nat) (c : Unit) (k : Ex → St RT den → Option ρ) (w : Int × Int × Int) (go : (Int × Int × Int) → Option ρ) : Option ρ := F_impl_MixNumber_B0 fu  (fun a0 => k (.exit 0) ⟨[.dead, .dead, .dead, .dead, .dead, (.int .i64 a0), .dead, .dead, .dead, .dead, .dead, .dead, .dead, .dead, .dead, .dead, .dead, .dead, .dead, .dead, .dead, .dead, .dead, .dead], []⟩) w.1 w.2.1 w.2.2 (fun q0 q1 q2 => go (q0, q1, q2))
def lp_impl_MixNumber (fu : Nat) : Lp RT den (Int) := fun b s k => match b with | 0 => handle ps_impl_MixNumber_0 os_impl_MixNumber_0 conv_impl_MixNumber_0 (Bk_impl_MixNumber_0 fu) fu s k | _ => none
theorem ev_impl_MixNumber (fu : Nat) (n_0 : Int) (salt_1 : Int) : evFun E (pc_impl_MixNumber fu) msk_impl_MixNumber (lp_impl_MixNumber fu) out_i64 115 [(.int .i64 n_0), (.int .i64 salt_1)] = F_impl_MixNumber fu n_0 salt_1 := by kernel_rfl
noncomputable def body_impl_MixNumber : Code := Tryz.f115.body.getD .skip
noncomputable def lc_impl_MixNumber_0 : Code := ((loops 0 body_impl_MixNumber).getD 0 (0, .skip)).2
theorem round_impl_MixNumber_0 (fu : Nat) (it : St RT den → Option (Int)) (k : Ex → St RT den → Option (Int)) c w : evCode E (pc_impl_MixNumber fu) msk_impl_MixNumber (lp_impl_MixNumber fu) 0 lc_impl_MixNumber_0 (back_impl_MixNumber_0 c w) (after (msk_impl_MixNumber 0) (msk_impl_MixNumber 100000) 0 it k) = Bk_impl_MixNumber_0 fu c k w (fun w => it (back_impl_MixNumber_0 c w)) := by kernel_rfl
theorem lpok_impl_MixNumber_0 (fu : Nat) : ∀ s k r, lp_impl_MixNumber fu 0 s k = some r → ∃ fuel, iter (msk_impl_MixNumber 0) (msk_impl_MixNumber 100000) s.objs.length (evCode E (pc_impl_MixNumber fu) msk_impl_MixNumber (lp_impl_MixNumber fu) 0 lc_impl_MixNumber_0) fuel s k = some r :=
  handle_ok (ps := ps_impl_MixNumber_0) (os := os_impl_MixNumber_0) (conv := conv_impl_MixNumber_0) (B := Bk_impl_MixNumber_0 fu) (fu := fu) back_impl_MixNumber_0 (fun raw => by kernel_rfl) 0 (fun c w => by kernel_rfl) (round_impl_MixNumber_0 fu)
theorem lpok_impl_MixNumber (fu : Nat) : LpOk E (pc_impl_MixNumber fu) msk_impl_MixNumber (lp_impl_MixNumber fu) (loops 0 body_impl_MixNumber) := loop_all 1 (by kernel_rfl) fun i hi => match i, hi with
  | 0, _ => by
    have h : (loops 0 body_impl_MixNumber).getD 0 (0, .skip) = (0, lc_impl_MixNumber_0) := by kernel_rfl
    rw [h]; exact lpok_impl_MixNumber_0 fu
  | i + 1, hi => absurd hi (by omega)
def S_impl_MixNumber (fu : Nat) (xs : List (D RT den)) : Option (Out RT den) := match xs with | [.int .i64 a0_0, .int .i64 a1_0] => some ⟨Int, F_impl_MixNumber fu a0_0 a1_0, enc_i64, fun _ => true⟩ | _ => none
theorem hpc_impl_MixNumber (fu : Nat) : ∀ f xs o, pcf_impl_MixNumber fu f xs = some o → ∀ y, o.x = some y → Good E Tryz.prog f xs (o.g y) := by
  intro f xs o h
  unfold pcf_impl_MixNumber at h
  split at h
  · exact good_impl_rest fu xs o h
  · cases h
theorem hpx_impl_MixNumber (fu : Nat) : ∀ f xs ins o, pcx_impl_MixNumber fu f xs ins = some o → ∀ y, o.x = some y → GoodX E Tryz.prog f xs ins (o.g y).1 (o.g y).2 := by
  intro f xs ins o h
  cases h
theorem goodv_impl_MixNumber (fu : Nat) (n_0 : Int) (salt_1 : Int) (y : Int) (hy : F_impl_MixNumber fu n_0 salt_1 = some y) : Good E Tryz.prog 115 [(.int .i64 n_0), (.int .i64 salt_1)] (enc_i64 y) :=
  fun_good E_ok (pc_good (pc := pc_impl_MixNumber fu) (hpc_impl_MixNumber fu) (hpx_impl_MixNumber fu)) (fn := Tryz.f115) (c := body_impl_MixNumber) (out := out_i64) (y := y) (by kernel_rfl) (by kernel_rfl) (by kernel_rfl) (lpok_impl_MixNumber fu) (fun d hd => out_i64_enc d _ hd) ((ev_impl_MixNumber fu n_0 salt_1).trans hy)
theorem good_impl_MixNumber (fu : Nat) : ∀ xs o, S_impl_MixNumber fu xs = some o → ∀ y, o.x = some y → Good E Tryz.prog 115 xs (o.g y) := by
  intro xs o h y hy
  unfold S_impl_MixNumber at h
  split at h
  · rename_i a0_0 a1_0
    cases h
    exact goodv_impl_MixNumber fu a0_0 a1_0 y hy
  · cases h

/-! impl.offset -/
def F_impl_offset (fu : Nat) (name_0 : Int) : Option (Int) :=
  ((F_impl_MixNumber fu name_0 3).bind fun y330 => (some (Int.tmod y330 31)))
def pcf_impl_offset (fu : Nat) (f : Nat) (xs : List (D RT den)) : Option (Out RT den) := match f with | 115 => S_impl_MixNumber fu xs | _ => none
def pcx_impl_offset (fu : Nat) (f : Nat) (xs : List (D RT den)) (ins : List (Ob RT den)) : Option (OutX RT den) := none
def pc_impl_offset (fu : Nat) : Pc RT den := ⟨pcf_impl_offset fu, fun _ => false, fun _ => false, pcx_impl_offset fu⟩
def msk_impl_offset (b : Nat) : List Nat := []
def lp_impl_offset (fu : Nat) : Lp RT den (Int) := fun b s k => none
theorem ev_impl_offset (fu : Nat) (name_0 : Int) : evFun E (pc_impl_offset fu) msk_impl_offset (lp_impl_offset fu) out_i64 104 [(.int .i64 name_0)] = F_impl_offset fu name_0 := by kernel_rfl
noncomputable def body_impl_offset : Code := Tryz.f104.body.getD .skip
theorem lpok_impl_offset (fu : Nat) : LpOk E (pc_impl_offset fu) msk_impl_offset (lp_impl_offset fu) (loops 0 body_impl_offset) := by
  have h : loops 0 body_impl_offset = [] := by kernel_rfl
  rw [h]; intro p hp; cases hp
def S_impl_offset (fu : Nat) (xs : List (D RT den)) : Option (Out RT den) := match xs with | [.int .i64 a0_0] => some ⟨Int, F_impl_offset fu a0_0, enc_i64, fun _ => true⟩ | _ => none
theorem hpc_impl_offset (fu : Nat) : ∀ f xs o, pcf_impl_offset fu f xs = some o → ∀ y, o.x = some y → Good E Tryz.prog f xs (o.g y) := by
  intro f xs o h
  unfold pcf_impl_offset at h
  split at h
  · exact good_impl_MixNumber fu xs o h
  · cases h
theorem hpx_impl_offset (fu : Nat) : ∀ f xs ins o, pcx_impl_offset fu f xs ins = some o → ∀ y, o.x = some y → GoodX E Tryz.prog f xs ins (o.g y).1 (o.g y).2 := by
  intro f xs ins o h
  cases h
theorem goodv_impl_offset (fu : Nat) (name_0 : Int) (y : Int) (hy : F_impl_offset fu name_0 = some y) : Good E Tryz.prog 104 [(.int .i64 name_0)] (enc_i64 y) :=
  fun_good E_ok (pc_good (pc := pc_impl_offset fu) (hpc_impl_offset fu) (hpx_impl_offset fu)) (fn := Tryz.f104) (c := body_impl_offset) (out := out_i64) (y := y) (by kernel_rfl) (by kernel_rfl) (by kernel_rfl) (lpok_impl_offset fu) (fun d hd => out_i64_enc d _ hd) ((ev_impl_offset fu name_0).trans hy)
theorem good_impl_offset (fu : Nat) : ∀ xs o, S_impl_offset fu xs = some o → ∀ y, o.x = some y → Good E Tryz.prog 104 xs (o.g y) := by
  intro xs o h y hy
  unfold S_impl_offset at h
  split at h
  · rename_i a0_0
    cases h
    exact goodv_impl_offset fu a0_0 y hy
  · cases h

/-! impl.skip -/
def F_impl_skip (fu : Nat) (name_0 : Int) : Option (Int) :=
  ((F_impl_MixNumber fu name_0 5).bind fun y334 => (some (IntKind.wrap .i64 (1 + (Int.tmod y334 30)))))
def pcf_impl_skip (fu : Nat) (f : Nat) (xs : List (D RT den)) : Option (Out RT den) := match f with | 115 => S_impl_MixNumber fu xs | _ => none
def pcx_impl_skip (fu : Nat) (f : Nat) (xs : List (D RT den)) (ins : List (Ob RT den)) : Option (OutX RT den) := none
def pc_impl_skip (fu : Nat) : Pc RT den := ⟨pcf_impl_skip fu, fun _ => false, fun _ => false, pcx_impl_skip fu⟩
def msk_impl_skip (b : Nat) : List Nat := []
def lp_impl_skip (fu : Nat) : Lp RT den (Int) := fun b s k => none
theorem ev_impl_skip (fu : Nat) (name_0 : Int) : evFun E (pc_impl_skip fu) msk_impl_skip (lp_impl_skip fu) out_i64 105 [(.int .i64 name_0)] = F_impl_skip fu name_0 := by kernel_rfl
noncomputable def body_impl_skip : Code := Tryz.f105.body.getD .skip
theorem lpok_impl_skip (fu : Nat) : LpOk E (pc_impl_skip fu) msk_impl_skip (lp_impl_skip fu) (loops 0 body_impl_skip) := by
  have h : loops 0 body_impl_skip = [] := by kernel_rfl
  rw [h]; intro p hp; cases hp
def S_impl_skip (fu : Nat) (xs : List (D RT den)) : Option (Out RT den) := match xs with | [.int .i64 a0_0] => some ⟨Int, F_impl_skip fu a0_0, enc_i64, fun _ => true⟩ | _ => none
theorem hpc_impl_skip (fu : Nat) : ∀ f xs o, pcf_impl_skip fu f xs = some o → ∀ y, o.x = some y → Good E Tryz.prog f xs (o.g y) := by
  intro f xs o h
  unfold pcf_impl_skip at h
  split at h
  · exact good_impl_MixNumber fu xs o h
  · cases h
theorem hpx_impl_skip (fu : Nat) : ∀ f xs ins o, pcx_impl_skip fu f xs ins = some o → ∀ y, o.x = some y → GoodX E Tryz.prog f xs ins (o.g y).1 (o.g y).2 := by
  intro f xs ins o h
  cases h
theorem goodv_impl_skip (fu : Nat) (name_0 : Int) (y : Int) (hy : F_impl_skip fu name_0 = some y) : Good E Tryz.prog 105 [(.int .i64 name_0)] (enc_i64 y) :=
  fun_good E_ok (pc_good (pc := pc_impl_skip fu) (hpc_impl_skip fu) (hpx_impl_skip fu)) (fn := Tryz.f105) (c := body_impl_skip) (out := out_i64) (y := y) (by kernel_rfl) (by kernel_rfl) (by kernel_rfl) (lpok_impl_skip fu) (fun d hd => out_i64_enc d _ hd) ((ev_impl_skip fu name_0).trans hy)
theorem good_impl_skip (fu : Nat) : ∀ xs o, S_impl_skip fu xs = some o → ∀ y, o.x = some y → Good E Tryz.prog 105 xs (o.g y) := by
  intro xs o h y hy
  unfold S_impl_skip at h
  split at h
  · rename_i a0_0
    cases h
    exact goodv_impl_skip fu a0_0 y hy
  · cases h

/-! impl.permutation -/
def F_impl_permutation_B0 {ρ : Type} (fu : Nat) (name0_0 : Int) (k0 : Nat → Nat → (Nat → Int) → Option ρ) (out3_1 : Nat) (t6_2 : Int) (on0_3 : Nat) (of0_4 : (Nat → Int)) (go : Nat → Int → Nat → (Nat → Int) → Option ρ) : Option ρ :=
  (bif (decide (t6_2 < 31)) then ((F_impl_offset fu name0_0).bind fun y325 => ((F_impl_skip fu name0_0).bind fun y326 => (bif (decide ((out3_1 + 1) ≤ 9223372036854775807) && decide ((out3_1 + 1) * 8 ≤ 140737488355328)) then
    (go (out3_1 + 1) (IntKind.wrap .i64 (t6_2 + 1)) (out3_1 + 1) (fun i => if i < out3_1 then (of0_4 i) else ((fun i => [(Int.tmod (IntKind.wrap .i64 (y325 + (IntKind.wrap .i64 (t6_2 * y326)))) 31)].getD i (dflt .i64)) (i - out3_1)))) else
    none))) else (k0 out3_1 on0_3 of0_4))
def F_impl_permutation (fu : Nat) (name_0 : Int) : Option ((Sl Int)) :=
  (L (fun w0 go0 => F_impl_permutation_B0 fu name_0 (fun z327 z328 z329 => (some (⟨none, z327, z329⟩ : (Sl Int)))) w0.1 w0.2.1 w0.2.2.1 w0.2.2.2 (fun q0 q1 q2 q3 => go0 (q0, q1, q2,
    q3))) fu ((0, 0, 0, (fun _ => dflt .i64)) : Nat × Int × Nat × (Nat → Int)))
def pcf_impl_permutation (fu : Nat) (f : Nat) (xs : List (D RT den)) : Option (Out RT den) := match f with | 104 => S_impl_offset fu xs | 105 => S_impl_skip fu xs | _ => none
def pcx_impl_permutation (fu : Nat) (f : Nat) (xs : List (D RT den)) (ins : List (Ob RT den)) : Option (OutX RT den) := none
def pc_impl_permutation (fu : Nat) : Pc RT den := ⟨pcf_impl_permutation fu, fun _ => false, fun _ => false, pcx_impl_permutation fu⟩
def msk_impl_permutation (b : Nat) : List Nat := match b with | 0 => [1, 2, 4, 5, 7, 8, 9, 10, 11, 12, 13, 14, 15, 16, 17, 18, 19, 20, 21] | 100000 => [0, 1, 4, 5, 6, 7, 8, 9, 10, 11, 12, 13, 14, 15, 16, 17, 18, 19, 20, 21] | 300000 => [3] | _ => []
def ps_impl_permutation_0 : List (Pat RT) := [.flat (.int .i64), .flat .dead, .flat .dead, .flat (.os 0), .flat .dead, .flat .dead, .flat (.int .i64), .flat .dead, .flat .dead, .flat .dead, .flat .dead, .flat .dead, .flat .dead, .flat .dead, .flat .dead, .flat .dead, .flat .dead, .flat .dead, .flat .dead, .flat .dead, .flat .dead, .flat .dead]
def os_impl_permutation_0 : List (OP RT) := [.row false .i64]
def conv_impl_permutation_0 (r : Raw den ps_impl_permutation_0 os_impl_permutation_0) : (Int) × (Nat × Int × Nat × (Nat → Int)) := (r.1.1, (r.1.2.2.2.1, r.1.2.2.2.2.2.2.1, r.2.1.1, r.2.1.2))
def back_impl_permutation_0 (c : Int) (w : Nat × Int × Nat × (Nat → Int)) : St RT den := ⟨[(.int .i64 c), .dead, .dead, (.os 0 w.1), .dead, .dead, (.int .i64 w.2.1), .dead, .dead, .dead, .dead, .dead, .dead, .dead, .dead, .dead, .dead, .dead, .dead, .dead, .dead, .dead], [(.row false .i64 w.2.2.1 w.2.2.2)]⟩
def Bk_impl_permutation_0 {ρ : Type} (fu : Nat) (c : Int) (k : Ex → St RT den → Option ρ) (w : Nat × Int × Nat × (Nat → Int)) (go : (Nat × Int × Nat × (Nat → Int)) → Option ρ) : Option ρ := F_impl_permutation_B0 fu c (fun a0 a1 a2 => k (.exit 0) ⟨[.dead, .dead, .dead, (.os 0 a0), .dead, .dead, .dead, .dead, .dead, .dead, .dead, .dead, .dead, .dead, .dead, .dead, .dead, .dead, .dead, .dead, .dead, .dead], [(.row false .i64 a1 a2)]⟩) w.1 w.2.1 w.2.2.1 w.2.2.2 (fun q0 q1 q2 q3 => go (q0, q1, q2, q3))
def lp_impl_permutation (fu : Nat) : Lp RT den ((Sl Int)) := fun b s k => match b with | 0 => handle ps_impl_permutation_0 os_impl_permutation_0 conv_impl_permutation_0 (Bk_impl_permutation_0 fu) fu s k | _ => none
theorem ev_impl_permutation (fu : Nat) (name_0 : Int) : evFun E (pc_impl_permutation fu) msk_impl_permutation (lp_impl_permutation fu) out_sl_i64 80 [(.int .i64 name_0)] = F_impl_permutation fu name_0 := by kernel_rfl
noncomputable def body_impl_permutation : Code := Tryz.f80.body.getD .skip
noncomputable def lc_impl_permutation_0 : Code := ((loops 0 body_impl_permutation).getD 0 (0, .skip)).2
theorem round_impl_permutation_0 (fu : Nat) (it : St RT den → Option ((Sl Int))) (k : Ex → St RT den → Option ((Sl Int))) c w : evCode E (pc_impl_permutation fu) msk_impl_permutation (lp_impl_permutation fu) 0 lc_impl_permutation_0 (back_impl_permutation_0 c w) (after (msk_impl_permutation 0) (msk_impl_permutation 100000) 1 it k) = Bk_impl_permutation_0 fu c k w (fun w => it (back_impl_permutation_0 c w)) := by kernel_rfl
theorem lpok_impl_permutation_0 (fu : Nat) : ∀ s k r, lp_impl_permutation fu 0 s k = some r → ∃ fuel, iter (msk_impl_permutation 0) (msk_impl_permutation 100000) s.objs.length (evCode E (pc_impl_permutation fu) msk_impl_permutation (lp_impl_permutation fu) 0 lc_impl_permutation_0) fuel s k = some r :=
  handle_ok (ps := ps_impl_permutation_0) (os := os_impl_permutation_0) (conv := conv_impl_permutation_0) (B := Bk_impl_permutation_0 fu) (fu := fu) back_impl_permutation_0 (fun raw => by kernel_rfl) 1 (fun c w => by kernel_rfl) (round_impl_permutation_0 fu)
theorem lpok_impl_permutation (fu : Nat) : LpOk E (pc_impl_permutation fu) msk_impl_permutation (lp_impl_permutation fu) (loops 0 body_impl_permutation) := loop_all 1 (by kernel_rfl) fun i hi => match i, hi with
  | 0, _ => by
    have h : (loops 0 body_impl_permutation).getD 0 (0, .skip) = (0, lc_impl_permutation_0) := by kernel_rfl
    rw [h]; exact lpok_impl_permutation_0 fu
  | i + 1, hi => absurd hi (by omega)
def S_impl_permutation (fu : Nat) (xs : List (D RT den)) : Option (Out RT den) := match xs with | [.int .i64 a0_0] => some ⟨(Sl Int), F_impl_permutation fu a0_0, enc_sl_i64, fun _ => true⟩ | _ => none
theorem hpc_impl_permutation (fu : Nat) : ∀ f xs o, pcf_impl_permutation fu f xs = some o → ∀ y, o.x = some y → Good E Tryz.prog f xs (o.g y) := by
  intro f xs o h
  unfold pcf_impl_permutation at h
  split at h
  · exact good_impl_offset fu xs o h
  · exact good_impl_skip fu xs o h
  · cases h
theorem hpx_impl_permutation (fu : Nat) : ∀ f xs ins o, pcx_impl_permutation fu f xs ins = some o → ∀ y, o.x = some y → GoodX E Tryz.prog f xs ins (o.g y).1 (o.g y).2 := by
  intro f xs ins o h
  cases h
theorem goodv_impl_permutation (fu : Nat) (name_0 : Int) (y : (Sl Int)) (hy : F_impl_permutation fu name_0 = some y) : Good E Tryz.prog 80 [(.int .i64 name_0)] (enc_sl_i64 y) :=
  fun_good E_ok (pc_good (pc := pc_impl_permutation fu) (hpc_impl_permutation fu) (hpx_impl_permutation fu)) (fn := Tryz.f80) (c := body_impl_permutation) (out := out_sl_i64) (y := y) (by kernel_rfl) (by kernel_rfl) (by kernel_rfl) (lpok_impl_permutation fu) (fun d hd => out_sl_i64_enc d _ hd) ((ev_impl_permutation fu name_0).trans hy)
theorem good_impl_permutation (fu : Nat) : ∀ xs o, S_impl_permutation fu xs = some o → ∀ y, o.x = some y → Good E Tryz.prog 80 xs (o.g y) := by
  intro xs o h y hy
  unfold S_impl_permutation at h
  split at h
  · rename_i a0_0
    cases h
    exact goodv_impl_permutation fu a0_0 y hy
  · cases h

/-! impl.fill -/
def F_impl_fill_B0 {ρ : Type} (fu : Nat) (list0_0 : (Sl S_impl_Share)) (table3_1 : Nat) (left4_2 : Int) (t16_4 : (Sl S_impl_Share)) (t17_5 : Int) (on0_7 : Nat) (of0_8 : (Nat → Int)) (k0 : Nat → Nat → (Nat → (Sl Int)) → Option ρ) (orders5_3 : Nat) (t18_6 : Int) (on1_9 : Nat) (of1_10 : (Nat → (Sl Int))) (go : Nat → Int → Nat → (Nat → (Sl Int)) → Option ρ) : Option ρ :=
  (bif (decide (t18_6 < t17_5)) then ((bif (decide (0 ≤ t18_6) && decide ((Int.toNat t18_6) < t16_4.n)) then some () else none : Option Unit).bind fun _ => ((F_impl_permutation fu (t16_4.f (Int.toNat t18_6)).Name).bind fun y299 =>
    (bif (decide ((orders5_3 + 1) ≤ 9223372036854775807) && decide ((orders5_3 + 1) * 24 ≤ 140737488355328)) then (go (orders5_3 + 1) (IntKind.wrap .i64 (t18_6 + 1)) (orders5_3 + 1) (fun i =>
    if i < orders5_3 then (of1_10 i) else ((fun i => [y299].getD i (dflt .sl_i64)) (i - orders5_3)))) else none))) else (k0 orders5_3 on1_9 of1_10))
def F_impl_fill_B8 {ρ : Type} (fu : Nat) (list0_0 : (Sl S_impl_Share)) (table3_1 : Nat) (left4_2 : Int) (orders5_3 : Nat) (i8_4 : Int) (t29_5 : (Sl S_impl_Share)) (t30_6 : Int) (t31_7 : Int) (t37_8 : Int) (t38_9 : Int) (on0_10 : Nat) (of0_11 : (Nat → Int)) (on1_12 : Nat) (o2_14 : Int) (o2_15 : Int) (k0 : (Nat → (Sl Int)) → Option ρ) (of1_13 : (Nat → (Sl Int))) (go : (Nat → (Sl Int)) → Option ρ) : Option ρ :=
  ((bif (decide (0 ≤ i8_4) && decide ((Int.toNat i8_4) < orders5_3)) then some () else none : Option Unit).bind fun _ => ((bif (decide (0 ≤ (0 : Int)) && decide ((Int.toNat 0) < (of1_13 (Int.toNat i8_4)).n)) then
    some () else none : Option Unit).bind fun _ => ((bif (decide (0 ≤ ((of1_13 (Int.toNat i8_4)).f (Int.toNat 0))) && decide ((Int.toNat ((of1_13 (Int.toNat i8_4)).f (Int.toNat 0))) < table3_1)) then
    some () else none : Option Unit).bind fun _ => (bif ((of0_11 (Int.toNat ((of1_13 (Int.toNat i8_4)).f (Int.toNat 0)))) != 0) then ((bif (decide (0 ≤ i8_4) && decide ((Int.toNat i8_4) < orders5_3)) then
    some () else none : Option Unit).bind fun _ => ((bif (decide ((1 : Int) ≤ (((of1_13 (Int.toNat i8_4)).n : Nat) : Int)) && decide ((of1_13 (Int.toNat i8_4)).n ≤ (of1_13 (Int.toNat i8_4)).n)) then
    some () else none : Option Unit).bind fun _ => ((bif (decide (0 ≤ i8_4) && decide ((Int.toNat i8_4) < orders5_3)) then some () else none : Option Unit).bind fun _ => (go (fun j =>
    if j = (Int.toNat i8_4) then (⟨(of1_13 (Int.toNat i8_4)).z, ((of1_13 (Int.toNat i8_4)).n - 1), (fun i => (of1_13 (Int.toNat i8_4)).f (1 + i))⟩ : (Sl Int)) else of1_13 j))))) else
    (k0 of1_13)))))
def F_impl_fill_B6 {ρ : Type} (fu : Nat) (list0_0 : (Sl S_impl_Share)) (table3_1 : Nat) (orders5_3 : Nat) (i8_4 : Int) (t29_5 : (Sl S_impl_Share)) (t30_6 : Int) (t31_7 : Int) (t37_8 : Int) (on0_10 : Nat) (on1_12 : Nat) (o2_14 : Int) (o2_15 : Int) (k0 : Int → (Nat → Int) → (Nat → (Sl Int)) → Option ρ) (k1 : Int → (Nat → Int) → (Nat → (Sl Int)) → Option ρ) (left4_2 : Int) (t38_9 : Int) (of0_11 : (Nat → Int)) (of1_13 : (Nat → (Sl Int))) (go : Int → Int → (Nat → Int) → (Nat → (Sl Int)) → Option ρ) : Option ρ :=
  (bif (decide (t38_9 < t37_8)) then (L (fun w8 go8 => F_impl_fill_B8 fu list0_0 table3_1 left4_2 orders5_3 i8_4 t29_5 t30_6 t31_7 t37_8 t38_9 on0_10 of0_11 on1_12 o2_14 o2_15 (fun z303 =>
    ((bif (decide (0 ≤ i8_4) && decide ((Int.toNat i8_4) < orders5_3)) then some () else none : Option Unit).bind fun _ => ((bif (decide (0 ≤ (0 : Int)) && decide ((Int.toNat 0) < (z303 (Int.toNat i8_4)).n)) then
    some () else none : Option Unit).bind fun _ => ((bif (decide (0 ≤ ((z303 (Int.toNat i8_4)).f (Int.toNat 0))) && decide ((Int.toNat ((z303 (Int.toNat i8_4)).f (Int.toNat 0))) < table3_1)) then
    some () else none : Option Unit).bind fun _ => (bif ((IntKind.wrap .i64 (left4_2 - 1)) == 0) then (k0 (IntKind.wrap .i64 (left4_2 - 1)) (fun j => if j = (Int.toNat ((z303 (Int.toNat i8_4)).f (Int.toNat 0))) then
    o2_14 else of0_11 j) z303) else (go (IntKind.wrap .i64 (left4_2 - 1)) (IntKind.wrap .i64 (t38_9 + 1)) (fun j => if j = (Int.toNat ((z303 (Int.toNat i8_4)).f (Int.toNat 0))) then
    o2_14 else of0_11 j) z303)))))) w8 go8) fu (of1_13 : (Nat → (Sl Int)))) else (k1 left4_2 of0_11 of1_13))
def F_impl_fill_B4 {ρ : Type} (fu : Nat) (list0_0 : (Sl S_impl_Share)) (table3_1 : Nat) (orders5_3 : Nat) (t29_4 : (Sl S_impl_Share)) (t30_5 : Int) (on0_7 : Nat) (on1_9 : Nat) (k0 : Int → (Nat → Int) → (Nat → (Sl Int)) → Int → Int → Option ρ) (k1 : Int → (Nat → Int) → (Nat → (Sl Int)) → Option ρ) (left4_2 : Int) (t31_6 : Int) (of0_8 : (Nat → Int)) (of1_10 : (Nat → (Sl Int))) (go : Int → Int → (Nat → Int) → (Nat → (Sl Int)) → Option ρ) : Option ρ :=
  (bif (decide (t31_6 < t30_5)) then ((bif (decide (0 ≤ t31_6) && decide ((Int.toNat t31_6) < t29_4.n)) then some () else none : Option Unit).bind fun _ => (L (fun w6 go6 =>
    F_impl_fill_B6 fu list0_0 table3_1 orders5_3 t31_6 t29_4 t30_5 t31_6 ((t29_4.f (Int.toNat t31_6)).Weight) on0_7 on1_9 ((t29_4.f (Int.toNat t31_6)).Name) ((t29_4.f (Int.toNat t31_6)).Weight) (fun z304 z305 z306 =>
    (k0 z304 z305 z306 (t29_4.f (Int.toNat t31_6)).Name (t29_4.f (Int.toNat t31_6)).Weight)) (fun z307 z308 z309 => (go z307 (IntKind.wrap .i64 (t31_6 + 1)) z308 z309)) w6.1 w6.2.1 w6.2.2.1 w6.2.2.2 (fun q0 q1 q2 q3 =>
    go6 (q0, q1, q2, q3))) fu ((left4_2, 0, of0_8, of1_10) : Int × Int × (Nat → Int) × (Nat → (Sl Int))))) else (k1 left4_2 of0_8 of1_10))
def F_impl_fill_B2 {ρ : Type} (fu : Nat) (list0_0 : (Sl S_impl_Share)) (table3_1 : Nat) (orders5_3 : Nat) (on0_4 : Nat) (on1_6 : Nat) (k0 : (Nat → Int) → (Nat → (Sl Int)) → Int → Int → Option ρ) (left4_2 : Int) (of0_5 : (Nat → Int)) (of1_7 : (Nat → (Sl Int))) (go : Int → (Nat → Int) → (Nat → (Sl Int)) → Option ρ) : Option ρ :=
  (L (fun w4 go4 => F_impl_fill_B4 fu list0_0 table3_1 orders5_3 list0_0 ((list0_0.n : Nat) : Int) on0_4 on1_6 (fun z310 z311 z312 z313 z314 => (k0 z311 z312 z313 z314)) (fun z315 z316 z317 =>
    (go z315 z316 z317)) w4.1 w4.2.1 w4.2.2.1 w4.2.2.2 (fun q0 q1 q2 q3 => go4 (q0, q1, q2, q3))) fu ((left4_2, 0, of0_5, of1_7) : Int × Int × (Nat → Int) × (Nat → (Sl Int))))
def F_impl_fill (fu : Nat) (list_0 : (Sl S_impl_Share)) : Option ((Sl Int)) :=
  ((F_slices_ContainsFunc_impl_Share_impl_Share_w_impl_fill_c1 fu list_0).bind fun y298 => (bif (!y298) then (some (⟨none, 31, (fun _ => 0)⟩ : (Sl Int))) else (L (fun w0 go0 =>
    F_impl_fill_B0 fu list_0 31 31 list_0 ((list_0.n : Nat) : Int) 31 (fun _ => 0) (fun z300 z301 z302 => (L (fun w2 go2 => F_impl_fill_B2 fu list_0 31 z300 31 z301 (fun z318 z319 z320 z321 =>
    (some (⟨none, 31, z318⟩ : (Sl Int)))) w2.1 w2.2.1 w2.2.2 (fun q0 q1 q2 => go2 (q0, q1, q2))) fu ((31, (fun _ => 0), z302) : Int × (Nat → Int) × (Nat → (Sl Int))))) w0.1 w0.2.1 w0.2.2.1 w0.2.2.2 (fun q0 q1 q2 q3 =>
    go0 (q0, q1, q2, q3))) fu ((0, 0, 0, (fun _ => dflt .sl_i64)) : Nat × Int × Nat × (Nat → (Sl Int))))))
def pcf_impl_fill (fu : Nat) (f : Nat) (xs : List (D RT den)) : Option (Out RT den) := match f with | 78 => S_slices_ContainsFunc_impl_Share_impl_Share_w_impl_fill_c1 fu xs | 80 => S_impl_permutation fu xs | _ => none
def pcx_impl_fill (fu : Nat) (f : Nat) (xs : List (D RT den)) (ins : List (Ob RT den)) : Option (OutX RT den) := none
def pc_impl_fill (fu : Nat) : Pc RT den := ⟨pcf_impl_fill fu, fun _ => false, fun _ => false, pcx_impl_fill fu⟩
def msk_impl_fill (b : Nat) : List Nat := match b with | 0 => [1, 2, 6, 7, 8, 9, 10, 11, 12, 13, 14, 15, 19, 20, 21, 22, 23, 24, 25, 26, 27, 28, 29, 30, 31, 32, 33, 34, 35, 36, 37, 38, 39, 40, 41, 42, 43, 44, 45, 46, 47, 48, 49, 50, 51, 52, 53, 54, 55, 56, 57, 58, 59, 60, 61, 62, 63, 64, 65, 66, 67, 68, 69, 70, 71, 72, 73, 74] | 100000 => [1, 6, 7, 8, 9, 10, 11, 12, 13, 14, 15, 16, 17, 18, 19, 20, 21, 22, 23, 24, 25, 26, 27, 28, 29, 30, 31, 32, 33, 34, 35, 36, 37, 38, 39, 40, 41, 42, 43, 44, 45, 46, 47, 48, 49, 50, 51, 52, 53, 54, 55, 56, 57, 58, 59, 60, 61, 62, 63, 64, 65, 66, 67, 68, 69, 70, 71, 72, 73, 74] | 2 => [1, 2, 6, 7, 8, 9, 10, 11, 12, 13, 14, 15, 16, 17, 18, 19, 20, 21, 22, 23, 24, 25, 26, 27, 28, 29, 30, 31, 32, 33, 34, 35, 36, 37, 38, 39, 40, 41, 42, 43, 44, 45, 46, 47, 48, 49, 50, 51, 52, 53, 54, 55, 56, 57, 58, 59, 60, 61, 62, 63, 64, 65, 66, 67, 68, 69, 70, 71, 72, 73, 74] | 100002 => [0, 1, 3, 4, 5, 6, 7, 8, 9, 10, 11, 12, 13, 14, 15, 16, 17, 18, 19, 20, 21, 22, 23, 24, 25, 26, 27, 28, 29, 30, 31, 32, 33, 34, 35, 36, 37, 38, 39, 40, 41, 42, 43, 44, 45, 46, 47, 48, 49, 50, 51, 52, 53, 54, 55, 56, 57, 58, 59, 60, 61, 62, 63, 64, 65, 66, 67, 68, 69, 70, 71, 72, 73, 74] | 4 => [1, 2, 6, 7, 8, 9, 10, 11, 12, 13, 14, 15, 16, 17, 18, 19, 20, 21, 22, 23, 24, 25, 26, 27, 28, 32, 33, 34, 35, 36, 37, 38, 39, 40, 41, 42, 43, 44, 45, 46, 47, 48, 49, 50, 51, 52, 53, 54, 55, 56, 57, 58, 59, 60, 61, 62, 63, 64, 65, 66, 67, 68, 69, 70, 71, 72, 73, 74] | 100004 => [1, 6, 7, 8, 9, 10, 11, 12, 13, 14, 15, 16, 17, 18, 19, 20, 21, 22, 23, 24, 25, 26, 27, 28, 29, 30, 31, 32, 33, 34, 35, 36, 37, 38, 39, 40, 41, 42, 43, 44, 45, 46, 47, 48, 49, 50, 51, 52, 53, 54, 55, 56, 57, 58, 59, 60, 61, 62, 63, 64, 65, 66, 67, 68, 69, 70, 71, 72, 73, 74] | 6 => [1, 2, 6, 7, 10, 11, 12, 13, 14, 15, 16, 17, 18, 19, 20, 21, 22, 23, 24, 25, 26, 27, 28, 32, 33, 34, 35, 36, 39, 40, 41, 42, 43, 44, 45, 46, 47, 48, 49, 50, 51, 52, 53, 54, 55, 56, 57, 58, 59, 60, 61, 62, 63, 64, 65, 66, 67, 68, 69, 70, 71, 72, 73, 74] | 100006 => [1, 6, 7, 8, 9, 10, 11, 12, 13, 14, 15, 16, 17, 18, 19, 20, 21, 22, 23, 24, 25, 26, 27, 28, 32, 33, 34, 35, 36, 37, 38, 39, 40, 41, 42, 43, 44, 45, 46, 47, 48, 49, 50, 51, 52, 53, 54, 55, 56, 57, 58, 59, 60, 61, 62, 63, 64, 65, 66, 67, 68, 69, 70, 71, 72, 73, 74] | 8 => [1, 2, 6, 7, 10, 11, 12, 13, 14, 15, 16, 17, 18, 19, 20, 21, 22, 23, 24, 25, 26, 27, 28, 32, 33, 34, 35, 36, 39, 40, 41, 42, 43, 44, 45, 46, 47, 48, 49, 50, 51, 52, 53, 54, 55, 56, 57, 58, 59, 60, 61, 62, 63, 64, 65, 66, 67, 68, 69, 70, 71, 72, 73, 74] | 100008 => [1, 6, 7, 10, 11, 12, 13, 14, 15, 16, 17, 18, 19, 20, 21, 22, 23, 24, 25, 26, 27, 28, 32, 33, 34, 35, 36, 39, 40, 41, 42, 43, 44, 45, 46, 47, 48, 49, 50, 51, 52, 53, 54, 55, 56, 57, 58, 59, 60, 61, 62, 63, 64, 65, 66, 67, 68, 69, 70, 71, 72, 73, 74] | 300000 => [5] | _ => []
def ps_impl_fill_0 : List (Pat RT) := [.flat (.rs .impl_Share), .flat .dead, .flat .dead, .flat (.os 0), .flat (.int .i64), .flat (.os 1), .flat .dead, .flat .dead, .flat .dead, .flat .dead, .flat .dead, .flat .dead, .flat .dead, .flat .dead, .flat .dead, .flat .dead, .flat (.rs .impl_Share), .flat (.int .i64), .flat (.int .i64), .flat .dead, .flat .dead, .flat .dead, .flat .dead, .flat .dead, .flat .dead, .flat .dead, .flat .dead, .flat .dead, .flat .dead, .flat .dead, .flat .dead, .flat .dead, .flat .dead, .flat .dead, .flat .dead, .flat .dead, .flat .dead, .flat .dead, .flat .dead, .flat .dead, .flat .dead, .flat .dead, .flat .dead, .flat .dead, .flat .dead, .flat .dead, .flat .dead, .flat .dead, .flat .dead, .flat .dead, .flat .dead, .flat .dead, .flat .dead, .flat .dead, .flat .dead, .flat .dead, .flat .dead, .flat .dead, .flat .dead, .flat .dead, .flat .dead, .flat .dead, .flat .dead, .flat .dead, .flat .dead, .flat .dead, .flat .dead, .flat .dead, .flat .dead, .flat .dead, .flat .dead, .flat .dead, .flat .dead, .flat .dead, .flat .dead]
def os_impl_fill_0 : List (OP RT) := [.row false .i64, .row false .sl_i64]
def conv_impl_fill_0 (r : Raw den ps_impl_fill_0 os_impl_fill_0) : ((Sl S_impl_Share) × Nat × Int × (Sl S_impl_Share) × Int × Nat × (Nat → Int)) × (Nat × Int × Nat × (Nat → (Sl Int))) := ((r.1.1, r.1.2.2.2.1, r.1.2.2.2.2.1, r.1.2.2.2.2.2.2.2.2.2.2.2.2.2.2.2.2.1, r.1.2.2.2.2.2.2.2.2.2.2.2.2.2.2.2.2.2.1, r.2.1.1, r.2.1.2), (r.1.2.2.2.2.2.1, r.1.2.2.2.2.2.2.2.2.2.2.2.2.2.2.2.2.2.2.1, r.2.2.1.1, r.2.2.1.2))
def back_impl_fill_0 (c : (Sl S_impl_Share) × Nat × Int × (Sl S_impl_Share) × Int × Nat × (Nat → Int)) (w : Nat × Int × Nat × (Nat → (Sl Int))) : St RT den := ⟨[(.rs c.1.z .impl_Share c.1.n c.1.f), .dead, .dead, (.os 0 c.2.1), (.int .i64 c.2.2.1), (.os 1 w.1), .dead, .dead, .dead, .dead, .dead, .dead, .dead, .dead, .dead, .dead, (.rs c.2.2.2.1.z .impl_Share c.2.2.2.1.n c.2.2.2.1.f), (.int .i64 c.2.2.2.2.1), (.int .i64 w.2.1), .dead, .dead, .dead, .dead, .dead, .dead, .dead, .dead, .dead, .dead, .dead, .dead, .dead, .dead, .dead, .dead, .dead, .dead, .dead, .dead, .dead, .dead, .dead, .dead, .dead, .dead, .dead, .dead, .dead, .dead, .dead, .dead, .dead, .dead, .dead, .dead, .dead, .dead, .dead, .dead, .dead, .dead, .dead, .dead, .dead, .dead, .dead, .dead, .dead, .dead, .dead, .dead, .dead, .dead, .dead, .dead], [(.row false .i64 c.2.2.2.2.2.1 c.2.2.2.2.2.2), (.row false .sl_i64 w.2.2.1 w.2.2.2)]⟩
def Bk_impl_fill_0 {ρ : Type} (fu : Nat) (c : (Sl S_impl_Share) × Nat × Int × (Sl S_impl_Share) × Int × Nat × (Nat → Int)) (k : Ex → St RT den → Option ρ) (w : Nat × Int × Nat × (Nat → (Sl Int))) (go : (Nat × Int × Nat × (Nat → (Sl Int))) → Option ρ) : Option ρ := F_impl_fill_B0 fu c.1 c.2.1 c.2.2.1 c.2.2.2.1 c.2.2.2.2.1 c.2.2.2.2.2.1 c.2.2.2.2.2.2 (fun a0 a1 a2 => k (.exit 0) ⟨[(.rs c.1.z .impl_Share c.1.n c.1.f), .dead, .dead, (.os 0 c.2.1), (.int .i64 c.2.2.1), (.os 1 a0), .dead, .dead, .dead, .dead, .dead, .dead, .dead, .dead, .dead, .dead, .dead, .dead, .dead, .dead, .dead, .dead, .dead, .dead, .dead, .dead, .dead, .dead, .dead, .dead, .dead, .dead, .dead, .dead, .dead, .dead, .dead, .dead, .dead, .dead, .dead, .dead, .dead, .dead, .dead, .dead, .dead, .dead, .dead, .dead, .dead, .dead, .dead, .dead, .dead, .dead, .dead, .dead, .dead, .dead, .dead, .dead, .dead, .dead, .dead, .dead, .dead, .dead, .dead, .dead, .dead, .dead, .dead, .dead, .dead], [(.row false .i64 c.2.2.2.2.2.1 c.2.2.2.2.2.2), (.row false .sl_i64 a1 a2)]⟩) w.1 w.2.1 w.2.2.1 w.2.2.2 (fun q0 q1 q2 q3 => go (q0, q1, q2, q3))
def ps_impl_fill_8 : List (Pat RT) := [.flat (.rs .impl_Share), .flat .dead, .flat .dead, .flat (.os 0), .flat (.int .i64), .flat (.os 1), .flat .dead, .flat .dead, .flat (.int .i64), .flat (.ref 2 0), .flat .dead, .flat .dead, .flat .dead, .flat .dead, .flat .dead, .flat .dead, .flat .dead, .flat .dead, .flat .dead, .flat .dead, .flat .dead, .flat .dead, .flat .dead, .flat .dead, .flat .dead, .flat .dead, .flat .dead, .flat .dead, .flat .dead, .flat (.rs .impl_Share), .flat (.int .i64), .flat (.int .i64), .flat .dead, .flat .dead, .flat .dead, .flat .dead, .flat .dead, .flat (.int .i64), .flat (.int .i64), .flat .dead, .flat .dead, .flat .dead, .flat .dead, .flat .dead, .flat .dead, .flat .dead, .flat .dead, .flat .dead, .flat .dead, .flat .dead, .flat .dead, .flat .dead, .flat .dead, .flat .dead, .flat .dead, .flat .dead, .flat .dead, .flat .dead, .flat .dead, .flat .dead, .flat .dead, .flat .dead, .flat .dead, .flat .dead, .flat .dead, .flat .dead, .flat .dead, .flat .dead, .flat .dead, .flat .dead, .flat .dead, .flat .dead, .flat .dead, .flat .dead, .flat .dead]
def os_impl_fill_8 : List (OP RT) := [.row false .i64, .row false .sl_i64, .box [(.int .i64), (.int .i64)]]
def conv_impl_fill_8 (r : Raw den ps_impl_fill_8 os_impl_fill_8) : ((Sl S_impl_Share) × Nat × Int × Nat × Int × (Sl S_impl_Share) × Int × Int × Int × Int × Nat × (Nat → Int) × Nat × Int × Int) × ((Nat → (Sl Int))) := ((r.1.1, r.1.2.2.2.1, r.1.2.2.2.2.1, r.1.2.2.2.2.2.1, r.1.2.2.2.2.2.2.2.2.1, r.1.2.2.2.2.2.2.2.2.2.2.2.2.2.2.2.2.2.2.2.2.2.2.2.2.2.2.2.2.2.1, r.1.2.2.2.2.2.2.2.2.2.2.2.2.2.2.2.2.2.2.2.2.2.2.2.2.2.2.2.2.2.2.1, r.1.2.2.2.2.2.2.2.2.2.2.2.2.2.2.2.2.2.2.2.2.2.2.2.2.2.2.2.2.2.2.2.1, r.1.2.2.2.2.2.2.2.2.2.2.2.2.2.2.2.2.2.2.2.2.2.2.2.2.2.2.2.2.2.2.2.2.2.2.2.2.2.1, r.1.2.2.2.2.2.2.2.2.2.2.2.2.2.2.2.2.2.2.2.2.2.2.2.2.2.2.2.2.2.2.2.2.2.2.2.2.2.2.1, r.2.1.1, r.2.1.2, r.2.2.1.1, r.2.2.2.1.1, r.2.2.2.1.2.1), r.2.2.1.2)
def back_impl_fill_8 (c : (Sl S_impl_Share) × Nat × Int × Nat × Int × (Sl S_impl_Share) × Int × Int × Int × Int × Nat × (Nat → Int) × Nat × Int × Int) (w : (Nat → (Sl Int))) : St RT den := ⟨[(.rs c.1.z .impl_Share c.1.n c.1.f), .dead, .dead, (.os 0 c.2.1), (.int .i64 c.2.2.1), (.os 1 c.2.2.2.1), .dead, .dead, (.int .i64 c.2.2.2.2.1), (.ref 2 0), .dead, .dead, .dead, .dead, .dead, .dead, .dead, .dead, .dead, .dead, .dead, .dead, .dead, .dead, .dead, .dead, .dead, .dead, .dead, (.rs c.2.2.2.2.2.1.z .impl_Share c.2.2.2.2.2.1.n c.2.2.2.2.2.1.f), (.int .i64 c.2.2.2.2.2.2.1), (.int .i64 c.2.2.2.2.2.2.2.1), .dead, .dead, .dead, .dead, .dead, (.int .i64 c.2.2.2.2.2.2.2.2.1), (.int .i64 c.2.2.2.2.2.2.2.2.2.1), .dead, .dead, .dead, .dead, .dead, .dead, .dead, .dead, .dead, .dead, .dead, .dead, .dead, .dead, .dead, .dead, .dead, .dead, .dead, .dead, .dead, .dead, .dead, .dead, .dead, .dead, .dead, .dead, .dead, .dead, .dead, .dead, .dead, .dead, .dead, .dead], [(.row false .i64 c.2.2.2.2.2.2.2.2.2.2.1 c.2.2.2.2.2.2.2.2.2.2.2.1), (.row false .sl_i64 c.2.2.2.2.2.2.2.2.2.2.2.2.1 w), (.box [(.int .i64 c.2.2.2.2.2.2.2.2.2.2.2.2.2.1), (.int .i64 c.2.2.2.2.2.2.2.2.2.2.2.2.2.2)])]⟩
def Bk_impl_fill_8 {ρ : Type} (fu : Nat) (c : (Sl S_impl_Share) × Nat × Int × Nat × Int × (Sl S_impl_Share) × Int × Int × Int × Int × Nat × (Nat → Int) × Nat × Int × Int) (k : Ex → St RT den → Option ρ) (w : (Nat → (Sl Int))) (go : ((Nat → (Sl Int))) → Option ρ) : Option ρ := F_impl_fill_B8 fu c.1 c.2.1 c.2.2.1 c.2.2.2.1 c.2.2.2.2.1 c.2.2.2.2.2.1 c.2.2.2.2.2.2.1 c.2.2.2.2.2.2.2.1 c.2.2.2.2.2.2.2.2.1 c.2.2.2.2.2.2.2.2.2.1 c.2.2.2.2.2.2.2.2.2.2.1 c.2.2.2.2.2.2.2.2.2.2.2.1 c.2.2.2.2.2.2.2.2.2.2.2.2.1 c.2.2.2.2.2.2.2.2.2.2.2.2.2.1 c.2.2.2.2.2.2.2.2.2.2.2.2.2.2 (fun a0 => k (.exit 8) ⟨[(.rs c.1.z .impl_Share c.1.n c.1.f), .dead, .dead, (.os 0 c.2.1), (.int .i64 c.2.2.1), (.os 1 c.2.2.2.1), .dead, .dead, (.int .i64 c.2.2.2.2.1), (.ref 2 0), .dead, .dead, .dead, .dead, .dead, .dead, .dead, .dead, .dead, .dead, .dead, .dead, .dead, .dead, .dead, .dead, .dead, .dead, .dead, (.rs c.2.2.2.2.2.1.z .impl_Share c.2.2.2.2.2.1.n c.2.2.2.2.2.1.f), (.int .i64 c.2.2.2.2.2.2.1), (.int .i64 c.2.2.2.2.2.2.2.1), .dead, .dead, .dead, .dead, .dead, (.int .i64 c.2.2.2.2.2.2.2.2.1), (.int .i64 c.2.2.2.2.2.2.2.2.2.1), .dead, .dead, .dead, .dead, .dead, .dead, .dead, .dead, .dead, .dead, .dead, .dead, .dead, .dead, .dead, .dead, .dead, .dead, .dead, .dead, .dead, .dead, .dead, .dead, .dead, .dead, .dead, .dead, .dead, .dead, .dead, .dead, .dead, .dead, .dead, .dead], [(.row false .i64 c.2.2.2.2.2.2.2.2.2.2.1 c.2.2.2.2.2.2.2.2.2.2.2.1), (.row false .sl_i64 c.2.2.2.2.2.2.2.2.2.2.2.2.1 a0), (.box [(.int .i64 c.2.2.2.2.2.2.2.2.2.2.2.2.2.1), (.int .i64 c.2.2.2.2.2.2.2.2.2.2.2.2.2.2)])]⟩) w go
def ps_impl_fill_6 : List (Pat RT) := [.flat (.rs .impl_Share), .flat .dead, .flat .dead, .flat (.os 0), .flat (.int .i64), .flat (.os 1), .flat .dead, .flat .dead, .flat (.int .i64), .flat (.ref 2 0), .flat .dead, .flat .dead, .flat .dead, .flat .dead, .flat .dead, .flat .dead, .flat .dead, .flat .dead, .flat .dead, .flat .dead, .flat .dead, .flat .dead, .flat .dead, .flat .dead, .flat .dead, .flat .dead, .flat .dead, .flat .dead, .flat .dead, .flat (.rs .impl_Share), .flat (.int .i64), .flat (.int .i64), .flat .dead, .flat .dead, .flat .dead, .flat .dead, .flat .dead, .flat (.int .i64), .flat (.int .i64), .flat .dead, .flat .dead, .flat .dead, .flat .dead, .flat .dead, .flat .dead, .flat .dead, .flat .dead, .flat .dead, .flat .dead, .flat .dead, .flat .dead, .flat .dead, .flat .dead, .flat .dead, .flat .dead, .flat .dead, .flat .dead, .flat .dead, .flat .dead, .flat .dead, .flat .dead, .flat .dead, .flat .dead, .flat .dead, .flat .dead, .flat .dead, .flat .dead, .flat .dead, .flat .dead, .flat .dead, .flat .dead, .flat .dead, .flat .dead, .flat .dead, .flat .dead]
def os_impl_fill_6 : List (OP RT) := [.row false .i64, .row false .sl_i64, .box [(.int .i64), (.int .i64)]]
def conv_impl_fill_6 (r : Raw den ps_impl_fill_6 os_impl_fill_6) : ((Sl S_impl_Share) × Nat × Nat × Int × (Sl S_impl_Share) × Int × Int × Int × Nat × Nat × Int × Int) × (Int × Int × (Nat → Int) × (Nat → (Sl Int))) := ((r.1.1, r.1.2.2.2.1, r.1.2.2.2.2.2.1, r.1.2.2.2.2.2.2.2.2.1, r.1.2.2.2.2.2.2.2.2.2.2.2.2.2.2.2.2.2.2.2.2.2.2.2.2.2.2.2.2.2.1, r.1.2.2.2.2.2.2.2.2.2.2.2.2.2.2.2.2.2.2.2.2.2.2.2.2.2.2.2.2.2.2.1, r.1.2.2.2.2.2.2.2.2.2.2.2.2.2.2.2.2.2.2.2.2.2.2.2.2.2.2.2.2.2.2.2.1, r.1.2.2.2.2.2.2.2.2.2.2.2.2.2.2.2.2.2.2.2.2.2.2.2.2.2.2.2.2.2.2.2.2.2.2.2.2.2.1, r.2.1.1, r.2.2.1.1, r.2.2.2.1.1, r.2.2.2.1.2.1), (r.1.2.2.2.2.1, r.1.2.2.2.2.2.2.2.2.2.2.2.2.2.2.2.2.2.2.2.2.2.2.2.2.2.2.2.2.2.2.2.2.2.2.2.2.2.2.1, r.2.1.2, r.2.2.1.2))
def back_impl_fill_6 (c : (Sl S_impl_Share) × Nat × Nat × Int × (Sl S_impl_Share) × Int × Int × Int × Nat × Nat × Int × Int) (w : Int × Int × (Nat → Int) × (Nat → (Sl Int))) : St RT den := ⟨[(.rs c.1.z .impl_Share c.1.n c.1.f), .dead, .dead, (.os 0 c.2.1), (.int .i64 w.1), (.os 1 c.2.2.1), .dead, .dead, (.int .i64 c.2.2.2.1), (.ref 2 0), .dead, .dead, .dead, .dead, .dead, .dead, .dead, .dead, .dead, .dead, .dead, .dead, .dead, .dead, .dead, .dead, .dead, .dead, .dead, (.rs c.2.2.2.2.1.z .impl_Share c.2.2.2.2.1.n c.2.2.2.2.1.f), (.int .i64 c.2.2.2.2.2.1), (.int .i64 c.2.2.2.2.2.2.1), .dead, .dead, .dead, .dead, .dead, (.int .i64 c.2.2.2.2.2.2.2.1), (.int .i64 w.2.1), .dead, .dead, .dead, .dead, .dead, .dead, .dead, .dead, .dead, .dead, .dead, .dead, .dead, .dead, .dead, .dead, .dead, .dead, .dead, .dead, .dead, .dead, .dead, .dead, .dead, .dead, .dead, .dead, .dead, .dead, .dead, .dead, .dead, .dead, .dead, .dead], [(.row false .i64 c.2.2.2.2.2.2.2.2.1 w.2.2.1), (.row false .sl_i64 c.2.2.2.2.2.2.2.2.2.1 w.2.2.2), (.box [(.int .i64 c.2.2.2.2.2.2.2.2.2.2.1), (.int .i64 c.2.2.2.2.2.2.2.2.2.2.2)])]⟩
def Bk_impl_fill_6 {ρ : Type} (fu : Nat) (c : (Sl S_impl_Share) × Nat × Nat × Int × (Sl S_impl_Share) × Int × Int × Int × Nat × Nat × Int × Int) (k : Ex → St RT den → Option ρ) (w : Int × Int × (Nat → Int) × (Nat → (Sl Int))) (go : (Int × Int × (Nat → Int) × (Nat → (Sl Int))) → Option ρ) : Option ρ := F_impl_fill_B6 fu c.1 c.2.1 c.2.2.1 c.2.2.2.1 c.2.2.2.2.1 c.2.2.2.2.2.1 c.2.2.2.2.2.2.1 c.2.2.2.2.2.2.2.1 c.2.2.2.2.2.2.2.2.1 c.2.2.2.2.2.2.2.2.2.1 c.2.2.2.2.2.2.2.2.2.2.1 c.2.2.2.2.2.2.2.2.2.2.2 (fun a0 a1 a2 => k .ret ⟨[(.rs c.1.z .impl_Share c.1.n c.1.f), .dead, (.os 0 c.2.1), (.os 0 c.2.1), (.int .i64 a0), (.os 1 c.2.2.1), .dead, .dead, .dead, .dead, .dead, .dead, .dead, .dead, .dead, .dead, .dead, .dead, .dead, .dead, .dead, .dead, .dead, .dead, .dead, .dead, .dead, .dead, .dead, (.rs c.2.2.2.2.1.z .impl_Share c.2.2.2.2.1.n c.2.2.2.2.1.f), (.int .i64 c.2.2.2.2.2.1), (.int .i64 c.2.2.2.2.2.2.1), .dead, .dead, .dead, .dead, .dead, .dead, .dead, .dead, .dead, .dead, .dead, .dead, .dead, .dead, .dead, .dead, .dead, .dead, .dead, .dead, .dead, .dead, .dead, .dead, .dead, .dead, .dead, .dead, .dead, .dead, .dead, .dead, .dead, .dead, .dead, .dead, .dead, .dead, .dead, .dead, .dead, .dead, .dead], [(.row false .i64 c.2.2.2.2.2.2.2.2.1 a1), (.row false .sl_i64 c.2.2.2.2.2.2.2.2.2.1 a2), (.box [(.int .i64 c.2.2.2.2.2.2.2.2.2.2.1), (.int .i64 c.2.2.2.2.2.2.2.2.2.2.2)])]⟩) (fun a0 a1 a2 => k (.exit 6) ⟨[(.rs c.1.z .impl_Share c.1.n c.1.f), .dead, .dead, (.os 0 c.2.1), (.int .i64 a0), (.os 1 c.2.2.1), .dead, .dead, .dead, .dead, .dead, .dead, .dead, .dead, .dead, .dead, .dead, .dead, .dead, .dead, .dead, .dead, .dead, .dead, .dead, .dead, .dead, .dead, .dead, (.rs c.2.2.2.2.1.z .impl_Share c.2.2.2.2.1.n c.2.2.2.2.1.f), (.int .i64 c.2.2.2.2.2.1), (.int .i64 c.2.2.2.2.2.2.1), .dead, .dead, .dead, .dead, .dead, .dead, .dead, .dead, .dead, .dead, .dead, .dead, .dead, .dead, .dead, .dead, .dead, .dead, .dead, .dead, .dead, .dead, .dead, .dead, .dead, .dead, .dead, .dead, .dead, .dead, .dead, .dead, .dead, .dead, .dead, .dead, .dead, .dead, .dead, .dead, .dead, .dead, .dead], [(.row false .i64 c.2.2.2.2.2.2.2.2.1 a1), (.row false .sl_i64 c.2.2.2.2.2.2.2.2.2.1 a2), (.box [(.int .i64 c.2.2.2.2.2.2.2.2.2.2.1), (.int .i64 c.2.2.2.2.2.2.2.2.2.2.2)])]⟩) w.1 w.2.1 w.2.2.1 w.2.2.2 (fun q0 q1 q2 q3 => go (q0, q1, q2, q3))
def ps_impl_fill_4 : List (Pat RT) := [.flat (.rs .impl_Share), .flat .dead, .flat .dead, .flat (.os 0), .flat (.int .i64), .flat (.os 1), .flat .dead, .flat .dead, .flat .dead, .flat .dead, .flat .dead, .flat .dead, .flat .dead, .flat .dead, .flat .dead, .flat .dead, .flat .dead, .flat .dead, .flat .dead, .flat .dead, .flat .dead, .flat .dead, .flat .dead, .flat .dead, .flat .dead, .flat .dead, .flat .dead, .flat .dead, .flat .dead, .flat (.rs .impl_Share), .flat (.int .i64), .flat (.int .i64), .flat .dead, .flat .dead, .flat .dead, .flat .dead, .flat .dead, .flat .dead, .flat .dead, .flat .dead, .flat .dead, .flat .dead, .flat .dead, .flat .dead, .flat .dead, .flat .dead, .flat .dead, .flat .dead, .flat .dead, .flat .dead, .flat .dead, .flat .dead, .flat .dead, .flat .dead, .flat .dead, .flat .dead, .flat .dead, .flat .dead, .flat .dead, .flat .dead, .flat .dead, .flat .dead, .flat .dead, .flat .dead, .flat .dead, .flat .dead, .flat .dead, .flat .dead, .flat .dead, .flat .dead, .flat .dead, .flat .dead, .flat .dead, .flat .dead, .flat .dead]
def os_impl_fill_4 : List (OP RT) := [.row false .i64, .row false .sl_i64]
def conv_impl_fill_4 (r : Raw den ps_impl_fill_4 os_impl_fill_4) : ((Sl S_impl_Share) × Nat × Nat × (Sl S_impl_Share) × Int × Nat × Nat) × (Int × Int × (Nat → Int) × (Nat → (Sl Int))) := ((r.1.1, r.1.2.2.2.1, r.1.2.2.2.2.2.1, r.1.2.2.2.2.2.2.2.2.2.2.2.2.2.2.2.2.2.2.2.2.2.2.2.2.2.2.2.2.2.1, r.1.2.2.2.2.2.2.2.2.2.2.2.2.2.2.2.2.2.2.2.2.2.2.2.2.2.2.2.2.2.2.1, r.2.1.1, r.2.2.1.1), (r.1.2.2.2.2.1, r.1.2.2.2.2.2.2.2.2.2.2.2.2.2.2.2.2.2.2.2.2.2.2.2.2.2.2.2.2.2.2.2.1, r.2.1.2, r.2.2.1.2))
def back_impl_fill_4 (c : (Sl S_impl_Share) × Nat × Nat × (Sl S_impl_Share) × Int × Nat × Nat) (w : Int × Int × (Nat → Int) × (Nat → (Sl Int))) : St RT den := ⟨[(.rs c.1.z .impl_Share c.1.n c.1.f), .dead, .dead, (.os 0 c.2.1), (.int .i64 w.1), (.os 1 c.2.2.1), .dead, .dead, .dead, .dead, .dead, .dead, .dead, .dead, .dead, .dead, .dead, .dead, .dead, .dead, .dead, .dead, .dead, .dead, .dead, .dead, .dead, .dead, .dead, (.rs c.2.2.2.1.z .impl_Share c.2.2.2.1.n c.2.2.2.1.f), (.int .i64 c.2.2.2.2.1), (.int .i64 w.2.1), .dead, .dead, .dead, .dead, .dead, .dead, .dead, .dead, .dead, .dead, .dead, .dead, .dead, .dead, .dead, .dead, .dead, .dead, .dead, .dead, .dead, .dead, .dead, .dead, .dead, .dead, .dead, .dead, .dead, .dead, .dead, .dead, .dead, .dead, .dead, .dead, .dead, .dead, .dead, .dead, .dead, .dead, .dead], [(.row false .i64 c.2.2.2.2.2.1 w.2.2.1), (.row false .sl_i64 c.2.2.2.2.2.2 w.2.2.2)]⟩
def Bk_impl_fill_4 {ρ : Type} (fu : Nat) (c : (Sl S_impl_Share) × Nat × Nat × (Sl S_impl_Share) × Int × Nat × Nat) (k : Ex → St RT den → Option ρ) (w : Int × Int × (Nat → Int) × (Nat → (Sl Int))) (go : (Int × Int × (Nat → Int) × (Nat → (Sl Int))) → Option ρ) : Option ρ := F_impl_fill_B4 fu c.1 c.2.1 c.2.2.1 c.2.2.2.1 c.2.2.2.2.1 c.2.2.2.2.2.1 c.2.2.2.2.2.2 (fun a0 a1 a2 a3 a4 => k .ret ⟨[(.rs c.1.z .impl_Share c.1.n c.1.f), .dead, (.os 0 c.2.1), (.os 0 c.2.1), (.int .i64 a0), (.os 1 c.2.2.1), .dead, .dead, .dead, .dead, .dead, .dead, .dead, .dead, .dead, .dead, .dead, .dead, .dead, .dead, .dead, .dead, .dead, .dead, .dead, .dead, .dead, .dead, .dead, .dead, .dead, .dead, .dead, .dead, .dead, .dead, .dead, .dead, .dead, .dead, .dead, .dead, .dead, .dead, .dead, .dead, .dead, .dead, .dead, .dead, .dead, .dead, .dead, .dead, .dead, .dead, .dead, .dead, .dead, .dead, .dead, .dead, .dead, .dead, .dead, .dead, .dead, .dead, .dead, .dead, .dead, .dead, .dead, .dead, .dead], [(.row false .i64 c.2.2.2.2.2.1 a1), (.row false .sl_i64 c.2.2.2.2.2.2 a2), (.box [(.int .i64 a3), (.int .i64 a4)])]⟩) (fun a0 a1 a2 => k (.exit 4) ⟨[(.rs c.1.z .impl_Share c.1.n c.1.f), .dead, .dead, (.os 0 c.2.1), (.int .i64 a0), (.os 1 c.2.2.1), .dead, .dead, .dead, .dead, .dead, .dead, .dead, .dead, .dead, .dead, .dead, .dead, .dead, .dead, .dead, .dead, .dead, .dead, .dead, .dead, .dead, .dead, .dead, .dead, .dead, .dead, .dead, .dead, .dead, .dead, .dead, .dead, .dead, .dead, .dead, .dead, .dead, .dead, .dead, .dead, .dead, .dead, .dead, .dead, .dead, .dead, .dead, .dead, .dead, .dead, .dead, .dead, .dead, .dead, .dead, .dead, .dead, .dead, .dead, .dead, .dead, .dead, .dead, .dead, .dead, .dead, .dead, .dead, .dead], [(.row false .i64 c.2.2.2.2.2.1 a1), (.row false .sl_i64 c.2.2.2.2.2.2 a2)]⟩) w.1 w.2.1 w.2.2.1 w.2.2.2 (fun q0 q1 q2 q3 => go (q0, q1, q2, q3))
def ps_impl_fill_2 : List (Pat RT) := [.flat (.rs .impl_Share), .flat .dead, .flat .dead, .flat (.os 0), .flat (.int .i64), .flat (.os 1), .flat .dead, .flat .dead, .flat .dead, .flat .dead, .flat .dead, .flat .dead, .flat .dead, .flat .dead, .flat .dead, .flat .dead, .flat .dead, .flat .dead, .flat .dead, .flat .dead, .flat .dead, .flat .dead, .flat .dead, .flat .dead, .flat .dead, .flat .dead, .flat .dead, .flat .dead, .flat .dead, .flat .dead, .flat .dead, .flat .dead, .flat .dead, .flat .dead, .flat .dead, .flat .dead, .flat .dead, .flat .dead, .flat .dead, .flat .dead, .flat .dead, .flat .dead, .flat .dead, .flat .dead, .flat .dead, .flat .dead, .flat .dead, .flat .dead, .flat .dead, .flat .dead, .flat .dead, .flat .dead, .flat .dead, .flat .dead, .flat .dead, .flat .dead, .flat .dead, .flat .dead, .flat .dead, .flat .dead, .flat .dead, .flat .dead, .flat .dead, .flat .dead, .flat .dead, .flat .dead, .flat .dead, .flat .dead, .flat .dead, .flat .dead, .flat .dead, .flat .dead, .flat .dead, .flat .dead, .flat .dead]
def os_impl_fill_2 : List (OP RT) := [.row false .i64, .row false .sl_i64]
def conv_impl_fill_2 (r : Raw den ps_impl_fill_2 os_impl_fill_2) : ((Sl S_impl_Share) × Nat × Nat × Nat × Nat) × (Int × (Nat → Int) × (Nat → (Sl Int))) := ((r.1.1, r.1.2.2.2.1, r.1.2.2.2.2.2.1, r.2.1.1, r.2.2.1.1), (r.1.2.2.2.2.1, r.2.1.2, r.2.2.1.2))
def back_impl_fill_2 (c : (Sl S_impl_Share) × Nat × Nat × Nat × Nat) (w : Int × (Nat → Int) × (Nat → (Sl Int))) : St RT den := ⟨[(.rs c.1.z .impl_Share c.1.n c.1.f), .dead, .dead, (.os 0 c.2.1), (.int .i64 w.1), (.os 1 c.2.2.1), .dead, .dead, .dead, .dead, .dead, .dead, .dead, .dead, .dead, .dead, .dead, .dead, .dead, .dead, .dead, .dead, .dead, .dead, .dead, .dead, .dead, .dead, .dead, .dead, .dead, .dead, .dead, .dead, .dead, .dead, .dead, .dead, .dead, .dead, .dead, .dead, .dead, .dead, .dead, .dead, .dead, .dead, .dead, .dead, .dead, .dead, .dead, .dead, .dead, .dead, .dead, .dead, .dead, .dead, .dead, .dead, .dead, .dead, .dead, .dead, .dead, .dead, .dead, .dead, .dead, .dead, .dead, .dead, .dead], [(.row false .i64 c.2.2.2.1 w.2.1), (.row false .sl_i64 c.2.2.2.2 w.2.2)]⟩
def Bk_impl_fill_2 {ρ : Type} (fu : Nat) (c : (Sl S_impl_Share) × Nat × Nat × Nat × Nat) (k : Ex → St RT den → Option ρ) (w : Int × (Nat → Int) × (Nat → (Sl Int))) (go : (Int × (Nat → Int) × (Nat → (Sl Int))) → Option ρ) : Option ρ := F_impl_fill_B2 fu c.1 c.2.1 c.2.2.1 c.2.2.2.1 c.2.2.2.2 (fun a0 a1 a2 a3 => k .ret ⟨[.dead, .dead, (.os 0 c.2.1), .dead, .dead, .dead, .dead, .dead, .dead, .dead, .dead, .dead, .dead, .dead, .dead, .dead, .dead, .dead, .dead, .dead, .dead, .dead, .dead, .dead, .dead, .dead, .dead, .dead, .dead, .dead, .dead, .dead, .dead, .dead, .dead, .dead, .dead, .dead, .dead, .dead, .dead, .dead, .dead, .dead, .dead, .dead, .dead, .dead, .dead, .dead, .dead, .dead, .dead, .dead, .dead, .dead, .dead, .dead, .dead, .dead, .dead, .dead, .dead, .dead, .dead, .dead, .dead, .dead, .dead, .dead, .dead, .dead, .dead, .dead, .dead], [(.row false .i64 c.2.2.2.1 a0), (.row false .sl_i64 c.2.2.2.2 a1), (.box [(.int .i64 a2), (.int .i64 a3)])]⟩) w.1 w.2.1 w.2.2 (fun q0 q1 q2 => go (q0, q1, q2))
def lp_impl_fill (fu : Nat) : Lp RT den ((Sl Int)) := fun b s k => match b with | 0 => handle ps_impl_fill_0 os_impl_fill_0 conv_impl_fill_0 (Bk_impl_fill_0 fu) fu s k | 2 => handle ps_impl_fill_2 os_impl_fill_2 conv_impl_fill_2 (Bk_impl_fill_2 fu) fu s k | 4 => handle ps_impl_fill_4 os_impl_fill_4 conv_impl_fill_4 (Bk_impl_fill_4 fu) fu s k | 6 => handle ps_impl_fill_6 os_impl_fill_6 conv_impl_fill_6 (Bk_impl_fill_6 fu) fu s k | 8 => handle ps_impl_fill_8 os_impl_fill_8 conv_impl_fill_8 (Bk_impl_fill_8 fu) fu s k | _ => none
theorem ev_impl_fill (fu : Nat) (list_0 : (Sl S_impl_Share)) : evFun E (pc_impl_fill fu) msk_impl_fill (lp_impl_fill fu) out_sl_i64 50 [(.rs list_0.z .impl_Share list_0.n list_0.f)] = F_impl_fill fu list_0 := by kernel_rfl
noncomputable def body_impl_fill : Code := Tryz.f50.body.getD .skip
noncomputable def lc_impl_fill_0 : Code := ((loops 0 body_impl_fill).getD 0 (0, .skip)).2
theorem round_impl_fill_0 (fu : Nat) (it : St RT den → Option ((Sl Int))) (k : Ex → St RT den → Option ((Sl Int))) c w : evCode E (pc_impl_fill fu) msk_impl_fill (lp_impl_fill fu) 0 lc_impl_fill_0 (back_impl_fill_0 c w) (after (msk_impl_fill 0) (msk_impl_fill 100000) 2 it k) = Bk_impl_fill_0 fu c k w (fun w => it (back_impl_fill_0 c w)) := by kernel_rfl
theorem lpok_impl_fill_0 (fu : Nat) : ∀ s k r, lp_impl_fill fu 0 s k = some r → ∃ fuel, iter (msk_impl_fill 0) (msk_impl_fill 100000) s.objs.length (evCode E (pc_impl_fill fu) msk_impl_fill (lp_impl_fill fu) 0 lc_impl_fill_0) fuel s k = some r :=
  handle_ok (ps := ps_impl_fill_0) (os := os_impl_fill_0) (conv := conv_impl_fill_0) (B := Bk_impl_fill_0 fu) (fu := fu) back_impl_fill_0 (fun raw => by kernel_rfl) 2 (fun c w => by kernel_rfl) (round_impl_fill_0 fu)
noncomputable def lc_impl_fill_2 : Code := ((loops 0 body_impl_fill).getD 1 (0, .skip)).2
theorem round_impl_fill_2 (fu : Nat) (it : St RT den → Option ((Sl Int))) (k : Ex → St RT den → Option ((Sl Int))) c w : evCode E (pc_impl_fill fu) msk_impl_fill (lp_impl_fill fu) 2 lc_impl_fill_2 (back_impl_fill_2 c w) (after (msk_impl_fill 2) (msk_impl_fill 100002) 2 it k) = Bk_impl_fill_2 fu c k w (fun w => it (back_impl_fill_2 c w)) := by kernel_rfl
theorem lpok_impl_fill_2 (fu : Nat) : ∀ s k r, lp_impl_fill fu 2 s k = some r → ∃ fuel, iter (msk_impl_fill 2) (msk_impl_fill 100002) s.objs.length (evCode E (pc_impl_fill fu) msk_impl_fill (lp_impl_fill fu) 2 lc_impl_fill_2) fuel s k = some r :=
  handle_ok (ps := ps_impl_fill_2) (os := os_impl_fill_2) (conv := conv_impl_fill_2) (B := Bk_impl_fill_2 fu) (fu := fu) back_impl_fill_2 (fun raw => by kernel_rfl) 2 (fun c w => by kernel_rfl) (round_impl_fill_2 fu)
noncomputable def lc_impl_fill_4 : Code := ((loops 0 body_impl_fill).getD 2 (0, .skip)).2
theorem round_impl_fill_4 (fu : Nat) (it : St RT den → Option ((Sl Int))) (k : Ex → St RT den → Option ((Sl Int))) c w : evCode E (pc_impl_fill fu) msk_impl_fill (lp_impl_fill fu) 4 lc_impl_fill_4 (back_impl_fill_4 c w) (after (msk_impl_fill 4) (msk_impl_fill 100004) 2 it k) = Bk_impl_fill_4 fu c k w (fun w => it (back_impl_fill_4 c w)) := by kernel_rfl
theorem lpok_impl_fill_4 (fu : Nat) : ∀ s k r, lp_impl_fill fu 4 s k = some r → ∃ fuel, iter (msk_impl_fill 4) (msk_impl_fill 100004) s.objs.length (evCode E (pc_impl_fill fu) msk_impl_fill (lp_impl_fill fu) 4 lc_impl_fill_4) fuel s k = some r :=
  handle_ok (ps := ps_impl_fill_4) (os := os_impl_fill_4) (conv := conv_impl_fill_4) (B := Bk_impl_fill_4 fu) (fu := fu) back_impl_fill_4 (fun raw => by kernel_rfl) 2 (fun c w => by kernel_rfl) (round_impl_fill_4 fu)
noncomputable def lc_impl_fill_6 : Code := ((loops 0 body_impl_fill).getD 3 (0, .skip)).2
theorem round_impl_fill_6 (fu : Nat) (it : St RT den → Option ((Sl Int))) (k : Ex → St RT den → Option ((Sl Int))) c w : evCode E (pc_impl_fill fu) msk_impl_fill (lp_impl_fill fu) 6 lc_impl_fill_6 (back_impl_fill_6 c w) (after (msk_impl_fill 6) (msk_impl_fill 100006) 3 it k) = Bk_impl_fill_6 fu c k w (fun w => it (back_impl_fill_6 c w)) := by kernel_rfl
theorem lpok_impl_fill_6 (fu : Nat) : ∀ s k r, lp_impl_fill fu 6 s k = some r → ∃ fuel, iter (msk_impl_fill 6) (msk_impl_fill 100006) s.objs.length (evCode E (pc_impl_fill fu) msk_impl_fill (lp_impl_fill fu) 6 lc_impl_fill_6) fuel s k = some r :=
  handle_ok (ps := ps_impl_fill_6) (os := os_impl_fill_6) (conv := conv_impl_fill_6) (B := Bk_impl_fill_6 fu) (fu := fu) back_impl_fill_6 (fun raw => by kernel_rfl) 3 (fun c w => by kernel_rfl) (round_impl_fill_6 fu)
noncomputable def lc_impl_fill_8 : Code := ((loops 0 body_impl_fill).getD 4 (0, .skip)).2
theorem round_impl_fill_8 (fu : Nat) (it : St RT den → Option ((Sl Int))) (k : Ex → St RT den → Option ((Sl Int))) c w : evCode E (pc_impl_fill fu) msk_impl_fill (lp_impl_fill fu) 8 lc_impl_fill_8 (back_impl_fill_8 c w) (after (msk_impl_fill 8) (msk_impl_fill 100008) 3 it k) = Bk_impl_fill_8 fu c k w (fun w => it (back_impl_fill_8 c w)) := by kernel_rfl
theorem lpok_impl_fill_8 (fu : Nat) : ∀ s k r, lp_impl_fill fu 8 s k = some r → ∃ fuel, iter (msk_impl_fill 8) (msk_impl_fill 100008) s.objs.length (evCode E (pc_impl_fill fu) msk_impl_fill (lp_impl_fill fu) 8 lc_impl_fill_8) fuel s k = some r :=
  handle_ok (ps := ps_impl_fill_8) (os := os_impl_fill_8) (conv := conv_impl_fill_8) (B := Bk_impl_fill_8 fu) (fu := fu) back_impl_fill_8 (fun raw => by kernel_rfl) 3 (fun c w => by kernel_rfl) (round_impl_fill_8 fu)
theorem lpok_impl_fill (fu : Nat) : LpOk E (pc_impl_fill fu) msk_impl_fill (lp_impl_fill fu) (loops 0 body_impl_fill) := loop_all 5 (by kernel_rfl) fun i hi => match i, hi with
  | 0, _ => by
    have h : (loops 0 body_impl_fill).getD 0 (0, .skip) = (0, lc_impl_fill_0) := by kernel_rfl
    rw [h]; exact lpok_impl_fill_0 fu
  | 1, _ => by
    have h : (loops 0 body_impl_fill).getD 1 (0, .skip) = (2, lc_impl_fill_2) := by kernel_rfl
    rw [h]; exact lpok_impl_fill_2 fu
  | 2, _ => by
    have h : (loops 0 body_impl_fill).getD 2 (0, .skip) = (4, lc_impl_fill_4) := by kernel_rfl
    rw [h]; exact lpok_impl_fill_4 fu
  | 3, _ => by
    have h : (loops 0 body_impl_fill).getD 3 (0, .skip) = (6, lc_impl_fill_6) := by kernel_rfl
    rw [h]; exact lpok_impl_fill_6 fu
  | 4, _ => by
    have h : (loops 0 body_impl_fill).getD 4 (0, .skip) = (8, lc_impl_fill_8) := by kernel_rfl
    rw [h]; exact lpok_impl_fill_8 fu
  | i + 5, hi => absurd hi (by omega)
def S_impl_fill (fu : Nat) (xs : List (D RT den)) : Option (Out RT den) := match xs with | [.rs za0_0 .impl_Share na0_0 fa0_0] => some ⟨(Sl Int), F_impl_fill fu (⟨za0_0, na0_0, fa0_0⟩ : (Sl S_impl_Share)), enc_sl_i64, fun _ => true⟩ | _ => none
theorem hpc_impl_fill (fu : Nat) : ∀ f xs o, pcf_impl_fill fu f xs = some o → ∀ y, o.x = some y → Good E Tryz.prog f xs (o.g y) := by
  intro f xs o h
  unfold pcf_impl_fill at h
  split at h
  · exact good_slices_ContainsFunc_impl_Share_impl_Share_w_impl_fill_c1 fu xs o h
  · exact good_impl_permutation fu xs o h
  · cases h
theorem hpx_impl_fill (fu : Nat) : ∀ f xs ins o, pcx_impl_fill fu f xs ins = some o → ∀ y, o.x = some y → GoodX E Tryz.prog f xs ins (o.g y).1 (o.g y).2 := by
  intro f xs ins o h
  cases h
theorem goodv_impl_fill (fu : Nat) (list_0 : (Sl S_impl_Share)) (y : (Sl Int)) (hy : F_impl_fill fu list_0 = some y) : Good E Tryz.prog 50 [(.rs list_0.z .impl_Share list_0.n list_0.f)] (enc_sl_i64 y) :=
  fun_good E_ok (pc_good (pc := pc_impl_fill fu) (hpc_impl_fill fu) (hpx_impl_fill fu)) (fn := Tryz.f50) (c := body_impl_fill) (out := out_sl_i64) (y := y) (by kernel_rfl) (by kernel_rfl) (by kernel_rfl) (lpok_impl_fill fu) (fun d hd => out_sl_i64_enc d _ hd) ((ev_impl_fill fu list_0).trans hy)
theorem good_impl_fill (fu : Nat) : ∀ xs o, S_impl_fill fu xs = some o → ∀ y, o.x = some y → Good E Tryz.prog 50 xs (o.g y) := by
  intro xs o h y hy
  unfold S_impl_fill at h
  split at h
  · rename_i za0_0 na0_0 fa0_0
    cases h
    exact goodv_impl_fill fu (⟨za0_0, na0_0, fa0_0⟩ : (Sl S_impl_Share)) y hy
  · cases h

/-! (*impl.Config).tables -/
def F_impl_Config_tables_B0 {ρ : Type} (fu : Nat) (c0_0 : Int) (c0_1 : (Sl S_impl_Backend)) (c0_2 : (Sl S_impl_Vip)) (t10_4 : Int) (k0 : Nat → Nat → (Nat → (Sl Int)) → Option ρ) (out3_3 : Nat) (t11_5 : Int) (on0_6 : Nat) (of0_7 : (Nat → (Sl Int))) (go : Nat → Int → Nat → (Nat → (Sl Int)) → Option ρ) : Option ρ :=
  (bif (decide (t11_5 < t10_4)) then ((F_impl_Config_shares fu (⟨c0_0, c0_1, c0_2⟩ : S_impl_Config) t11_5).bind fun y288 => ((F_impl_fill fu y288).bind fun y289 => (bif (decide ((out3_3 + 1) ≤ 9223372036854775807) &&
    decide ((out3_3 + 1) * 24 ≤ 140737488355328)) then (go (out3_3 + 1) (IntKind.wrap .i64 (t11_5 + 1)) (out3_3 + 1) (fun i => if i < out3_3 then (of0_7 i) else ((fun i =>
    [y289].getD i (dflt .sl_i64)) (i - out3_3)))) else none))) else (k0 out3_3 on0_6 of0_7))
def F_impl_Config_tables (fu : Nat) (c_0 : S_impl_Config) : Option ((Sl (Sl Int))) :=
  (L (fun w0 go0 => F_impl_Config_tables_B0 fu c_0.Version c_0.Backends c_0.Vips ((c_0.Vips.n : Nat) : Int) (fun z290 z291 z292 => (some (⟨none, z290, z292⟩ : (Sl (Sl Int))))) w0.1 w0.2.1 w0.2.2.1 w0.2.2.2 (fun q0 q1 q2 q3 =>
    go0 (q0, q1, q2, q3))) fu ((0, 0, 0, (fun _ => dflt .sl_i64)) : Nat × Int × Nat × (Nat → (Sl Int))))
def pcf_impl_Config_tables (fu : Nat) (f : Nat) (xs : List (D RT den)) : Option (Out RT den) := match f with | 50 => S_impl_fill fu xs | 51 => S_impl_Config_shares fu xs | _ => none
def pcx_impl_Config_tables (fu : Nat) (f : Nat) (xs : List (D RT den)) (ins : List (Ob RT den)) : Option (OutX RT den) := none
def pc_impl_Config_tables (fu : Nat) : Pc RT den := ⟨pcf_impl_Config_tables fu, fun _ => false, fun _ => false, pcx_impl_Config_tables fu⟩
def msk_impl_Config_tables (b : Nat) : List Nat := match b with | 0 => [1, 2, 4, 5, 6, 7, 8, 9, 12, 13, 14, 15, 16, 17, 18, 19, 20, 21, 22] | 100000 => [0, 1, 4, 5, 6, 7, 8, 9, 10, 11, 12, 13, 14, 15, 16, 17, 18, 19, 20, 21, 22] | 300000 => [3] | _ => []
def ps_impl_Config_tables_0 : List (Pat RT) := [.rptr [(.int .i64), (.rs .impl_Backend), (.rs .impl_Vip)], .flat .dead, .flat .dead, .flat (.os 0), .flat .dead, .flat .dead, .flat .dead, .flat .dead, .flat .dead, .flat .dead, .flat (.int .i64), .flat (.int .i64), .flat .dead, .flat .dead, .flat .dead, .flat .dead, .flat .dead, .flat .dead, .flat .dead, .flat .dead, .flat .dead, .flat .dead, .flat .dead]
def os_impl_Config_tables_0 : List (OP RT) := [.row false .sl_i64]
def conv_impl_Config_tables_0 (r : Raw den ps_impl_Config_tables_0 os_impl_Config_tables_0) : (Int × (Sl S_impl_Backend) × (Sl S_impl_Vip) × Int) × (Nat × Int × Nat × (Nat → (Sl Int))) := ((r.1.1.1, r.1.1.2.1, r.1.1.2.2.1, r.1.2.2.2.2.2.2.2.2.2.2.1), (r.1.2.2.2.1, r.1.2.2.2.2.2.2.2.2.2.2.2.1, r.2.1.1, r.2.1.2))
def back_impl_Config_tables_0 (c : Int × (Sl S_impl_Backend) × (Sl S_impl_Vip) × Int) (w : Nat × Int × Nat × (Nat → (Sl Int))) : St RT den := ⟨[(.rptr [(.int .i64 c.1), (.rs c.2.1.z .impl_Backend c.2.1.n c.2.1.f), (.rs c.2.2.1.z .impl_Vip c.2.2.1.n c.2.2.1.f)]), .dead, .dead, (.os 0 w.1), .dead, .dead, .dead, .dead, .dead, .dead, (.int .i64 c.2.2.2), (.int .i64 w.2.1), .dead, .dead, .dead, .dead, .dead, .dead, .dead, .dead, .dead, .dead, .dead], [(.row false .sl_i64 w.2.2.1 w.2.2.2)]⟩
def Bk_impl_Config_tables_0 {ρ : Type} (fu : Nat) (c : Int × (Sl S_impl_Backend) × (Sl S_impl_Vip) × Int) (k : Ex → St RT den → Option ρ) (w : Nat × Int × Nat × (Nat → (Sl Int))) (go : (Nat × Int × Nat × (Nat → (Sl Int))) → Option ρ) : Option ρ := F_impl_Config_tables_B0 fu c.1 c.2.1 c.2.2.1 c.2.2.2 (fun a0 a1 a2 => k (.exit 0) ⟨[.dead, .dead, .dead, (.os 0 a0), .dead, .dead, .dead, .dead, .dead, .dead, .dead, .dead, .dead, .dead, .dead, .dead, .dead, .dead, .dead, .dead, .dead, .dead, .dead], [(.row false .sl_i64 a1 a2)]⟩) w.1 w.2.1 w.2.2.1 w.2.2.2 (fun q0 q1 q2 q3 => go (q0, q1, q2, q3))
def lp_impl_Config_tables (fu : Nat) : Lp RT den ((Sl (Sl Int))) := fun b s k => match b with | 0 => handle ps_impl_Config_tables_0 os_impl_Config_tables_0 conv_impl_Config_tables_0 (Bk_impl_Config_tables_0 fu) fu s k | _ => none
theorem ev_impl_Config_tables (fu : Nat) (c_0 : S_impl_Config) : evFun E (pc_impl_Config_tables fu) msk_impl_Config_tables (lp_impl_Config_tables fu) out_sl_sl_i64 25 [(.rptr [(.int .i64 c_0.Version), (.rs c_0.Backends.z .impl_Backend c_0.Backends.n c_0.Backends.f), (.rs c_0.Vips.z .impl_Vip c_0.Vips.n c_0.Vips.f)])] = F_impl_Config_tables fu c_0 := by kernel_rfl
noncomputable def body_impl_Config_tables : Code := Tryz.f25.body.getD .skip
noncomputable def lc_impl_Config_tables_0 : Code := ((loops 0 body_impl_Config_tables).getD 0 (0, .skip)).2
theorem round_impl_Config_tables_0 (fu : Nat) (it : St RT den → Option ((Sl (Sl Int)))) (k : Ex → St RT den → Option ((Sl (Sl Int)))) c w : evCode E (pc_impl_Config_tables fu) msk_impl_Config_tables (lp_impl_Config_tables fu) 0 lc_impl_Config_tables_0 (back_impl_Config_tables_0 c w) (after (msk_impl_Config_tables 0) (msk_impl_Config_tables 100000) 1 it k) = Bk_impl_Config_tables_0 fu c k w (fun w => it (back_impl_Config_tables_0 c w)) := by kernel_rfl
theorem lpok_impl_Config_tables_0 (fu : Nat) : ∀ s k r, lp_impl_Config_tables fu 0 s k = some r → ∃ fuel, iter (msk_impl_Config_tables 0) (msk_impl_Config_tables 100000) s.objs.length (evCode E (pc_impl_Config_tables fu) msk_impl_Config_tables (lp_impl_Config_tables fu) 0 lc_impl_Config_tables_0) fuel s k = some r :=
  handle_ok (ps := ps_impl_Config_tables_0) (os := os_impl_Config_tables_0) (conv := conv_impl_Config_tables_0) (B := Bk_impl_Config_tables_0 fu) (fu := fu) back_impl_Config_tables_0 (fun raw => by kernel_rfl) 1 (fun c w => by kernel_rfl) (round_impl_Config_tables_0 fu)
theorem lpok_impl_Config_tables (fu : Nat) : LpOk E (pc_impl_Config_tables fu) msk_impl_Config_tables (lp_impl_Config_tables fu) (loops 0 body_impl_Config_tables) := loop_all 1 (by kernel_rfl) fun i hi => match i, hi with
  | 0, _ => by
    have h : (loops 0 body_impl_Config_tables).getD 0 (0, .skip) = (0, lc_impl_Config_tables_0) := by kernel_rfl
    rw [h]; exact lpok_impl_Config_tables_0 fu
  | i + 1, hi => absurd hi (by omega)
def S_impl_Config_tables (fu : Nat) (xs : List (D RT den)) : Option (Out RT den) := match xs with | [.rptr (.int .i64 a0_1 :: .rs za0_2 .impl_Backend na0_2 fa0_2 :: .rs za0_3 .impl_Vip na0_3 fa0_3 :: ra0)] => some ⟨(Sl (Sl Int)), F_impl_Config_tables fu (⟨a0_1, (⟨za0_2, na0_2, fa0_2⟩ : (Sl S_impl_Backend)), (⟨za0_3, na0_3, fa0_3⟩ : (Sl S_impl_Vip))⟩ : S_impl_Config), enc_sl_sl_i64, fun _ => true⟩ | _ => none
theorem hpc_impl_Config_tables (fu : Nat) : ∀ f xs o, pcf_impl_Config_tables fu f xs = some o → ∀ y, o.x = some y → Good E Tryz.prog f xs (o.g y) := by
  intro f xs o h
  unfold pcf_impl_Config_tables at h
  split at h
  · exact good_impl_fill fu xs o h
  · exact good_impl_Config_shares fu xs o h
  · cases h
theorem hpx_impl_Config_tables (fu : Nat) : ∀ f xs ins o, pcx_impl_Config_tables fu f xs ins = some o → ∀ y, o.x = some y → GoodX E Tryz.prog f xs ins (o.g y).1 (o.g y).2 := by
  intro f xs ins o h
  cases h
theorem goodv_impl_Config_tables (fu : Nat) (c_0 : S_impl_Config) (y : (Sl (Sl Int))) (hy : F_impl_Config_tables fu c_0 = some y) : Good E Tryz.prog 25 [(.rptr [(.int .i64 c_0.Version), (.rs c_0.Backends.z .impl_Backend c_0.Backends.n c_0.Backends.f), (.rs c_0.Vips.z .impl_Vip c_0.Vips.n c_0.Vips.f)])] (enc_sl_sl_i64 y) :=
  fun_good E_ok (pc_good (pc := pc_impl_Config_tables fu) (hpc_impl_Config_tables fu) (hpx_impl_Config_tables fu)) (fn := Tryz.f25) (c := body_impl_Config_tables) (out := out_sl_sl_i64) (y := y) (by kernel_rfl) (by kernel_rfl) (by kernel_rfl) (lpok_impl_Config_tables fu) (fun d hd => out_sl_sl_i64_enc d _ hd) ((ev_impl_Config_tables fu c_0).trans hy)
theorem good_impl_Config_tables (fu : Nat) : ∀ xs o, S_impl_Config_tables fu xs = some o → ∀ y, o.x = some y → Good E Tryz.prog 25 xs (o.g y) := by
  intro xs o h y hy
  unfold S_impl_Config_tables at h
  split at h
  · rename_i a0_1 za0_2 na0_2 fa0_2 za0_3 na0_3 fa0_3 ra0
    cases h
    exact (goodv_impl_Config_tables fu (⟨a0_1, (⟨za0_2, na0_2, fa0_2⟩ : (Sl S_impl_Backend)), (⟨za0_3, na0_3, fa0_3⟩ : (Sl S_impl_Vip))⟩ : S_impl_Config) y hy).sub ⟨Sub.of_eq ra0 rfl, trivial⟩
  · cases h
end Go.Proofs.YtmgndndkkeinfaaGreat.Pc
