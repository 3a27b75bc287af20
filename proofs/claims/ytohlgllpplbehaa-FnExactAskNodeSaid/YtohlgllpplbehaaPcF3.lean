/- The functions' evaluated forms, each a proved summary. Conditions: none. -/
import Derived.Test.YtohlgllpplbehaaPcF2
namespace Go.Proofs.Ytohlgllpplbehaa.Pc
open Go Go.RowKit Go.Proofs Vm
set_option linter.unusedVariables false
set_option linter.unusedSimpArgs false
set_option maxRecDepth 100000
/-! impl.size[int64] -/
def F_impl_size_int64 (fu : Nat) (list_0 : (Sl Int)) : Option (Int) :=
  (some ((list_0.n : Nat) : Int))
def pcf_impl_size_int64 (fu : Nat) (f : Nat) (xs : List (D RT den)) : Option (Out RT den) := none
def pcx_impl_size_int64 (fu : Nat) (f : Nat) (xs : List (D RT den)) (ins : List (Ob RT den)) : Option (OutX RT den) := none
def pc_impl_size_int64 (fu : Nat) : Pc RT den := ⟨pcf_impl_size_int64 fu, fun _ => false, fun _ => false, pcx_impl_size_int64 fu⟩
def msk_impl_size_int64 (b : Nat) : List Nat := []
def lp_impl_size_int64 (fu : Nat) : Lp RT den (Int) := fun b s k => none
theorem ev_impl_size_int64 (fu : Nat) (list_0 : (Sl Int)) : evFun E (pc_impl_size_int64 fu) msk_impl_size_int64 (lp_impl_size_int64 fu) out_i64 88 [(.rs list_0.z .i64 list_0.n list_0.f)] = F_impl_size_int64 fu list_0 := by kernel_rfl
noncomputable def body_impl_size_int64 : Code := Try.f88.body.getD .skip
theorem lpok_impl_size_int64 (fu : Nat) : LpOk E (pc_impl_size_int64 fu) msk_impl_size_int64 (lp_impl_size_int64 fu) (loops 0 body_impl_size_int64) := by
  have h : loops 0 body_impl_size_int64 = [] := by kernel_rfl
  rw [h]; intro p hp; cases hp
def S_impl_size_int64 (fu : Nat) (xs : List (D RT den)) : Option (Out RT den) := match xs with | [.rs za0_0 .i64 na0_0 fa0_0] => some ⟨Int, F_impl_size_int64 fu (⟨za0_0, na0_0, fa0_0⟩ : (Sl Int)), enc_i64, fun _ => true⟩ | _ => none
theorem hpc_impl_size_int64 (fu : Nat) : ∀ f xs o, pcf_impl_size_int64 fu f xs = some o → ∀ y, o.x = some y → Good E Try.prog f xs (o.g y) := by
  intro f xs o h
  cases h
theorem hpx_impl_size_int64 (fu : Nat) : ∀ f xs ins o, pcx_impl_size_int64 fu f xs ins = some o → ∀ y, o.x = some y → GoodX E Try.prog f xs ins (o.g y).1 (o.g y).2 := by
  intro f xs ins o h
  cases h
theorem goodv_impl_size_int64 (fu : Nat) (list_0 : (Sl Int)) (y : Int) (hy : F_impl_size_int64 fu list_0 = some y) : Good E Try.prog 88 [(.rs list_0.z .i64 list_0.n list_0.f)] (enc_i64 y) :=
  fun_good E_ok (pc_good (pc := pc_impl_size_int64 fu) (hpc_impl_size_int64 fu) (hpx_impl_size_int64 fu)) (fn := Try.f88) (c := body_impl_size_int64) (out := out_i64) (y := y) (by kernel_rfl) (by kernel_rfl) (by kernel_rfl) (lpok_impl_size_int64 fu) (fun d hd => out_i64_enc d _ hd) ((ev_impl_size_int64 fu list_0).trans hy)
theorem good_impl_size_int64 (fu : Nat) : ∀ xs o, S_impl_size_int64 fu xs = some o → ∀ y, o.x = some y → Good E Try.prog 88 xs (o.g y) := by
  intro xs o h y hy
  unfold S_impl_size_int64 at h
  split at h
  · rename_i za0_0 na0_0 fa0_0
    cases h
    exact goodv_impl_size_int64 fu (⟨za0_0, na0_0, fa0_0⟩ : (Sl Int)) y hy
  · cases h

/-! impl.NodeFault'1 -/
def F_impl_NodeFault_c1 (fu : Nat) (k_0 : Int) (x_1_1 : Int) : Option (Bool) :=
  ((F_impl_in fu k_0 1 (IntKind.wrap .i64 (x_1_1 + 1))).bind fun y261 => (some (!y261)))
def pcf_impl_NodeFault_c1 (fu : Nat) (f : Nat) (xs : List (D RT den)) : Option (Out RT den) := match f with | 86 => S_impl_in fu xs | _ => none
def pcx_impl_NodeFault_c1 (fu : Nat) (f : Nat) (xs : List (D RT den)) (ins : List (Ob RT den)) : Option (OutX RT den) := none
def pc_impl_NodeFault_c1 (fu : Nat) : Pc RT den := ⟨pcf_impl_NodeFault_c1 fu, fun _ => false, fun _ => false, pcx_impl_NodeFault_c1 fu⟩
def msk_impl_NodeFault_c1 (b : Nat) : List Nat := []
def lp_impl_NodeFault_c1 (fu : Nat) : Lp RT den (Bool) := fun b s k => none
theorem ev_impl_NodeFault_c1 (fu : Nat) (k_0 : Int) (x_1_1 : Int) : evFun E (pc_impl_NodeFault_c1 fu) msk_impl_NodeFault_c1 (lp_impl_NodeFault_c1 fu) out_bo 90 [(.int .i64 k_0), (.rptr [(.int .i64 x_1_1)])] = F_impl_NodeFault_c1 fu k_0 x_1_1 := by kernel_rfl
noncomputable def body_impl_NodeFault_c1 : Code := Try.f90.body.getD .skip
theorem lpok_impl_NodeFault_c1 (fu : Nat) : LpOk E (pc_impl_NodeFault_c1 fu) msk_impl_NodeFault_c1 (lp_impl_NodeFault_c1 fu) (loops 0 body_impl_NodeFault_c1) := by
  have h : loops 0 body_impl_NodeFault_c1 = [] := by kernel_rfl
  rw [h]; intro p hp; cases hp
def S_impl_NodeFault_c1 (fu : Nat) (xs : List (D RT den)) : Option (Out RT den) := match xs with | [.int .i64 a0_0, .rptr [.int .i64 a1_0]] => some ⟨Bool, F_impl_NodeFault_c1 fu a0_0 a1_0, enc_bo, fun _ => true⟩ | _ => none
theorem hpc_impl_NodeFault_c1 (fu : Nat) : ∀ f xs o, pcf_impl_NodeFault_c1 fu f xs = some o → ∀ y, o.x = some y → Good E Try.prog f xs (o.g y) := by
  intro f xs o h
  unfold pcf_impl_NodeFault_c1 at h
  split at h
  · exact good_impl_in fu xs o h
  · cases h
theorem hpx_impl_NodeFault_c1 (fu : Nat) : ∀ f xs ins o, pcx_impl_NodeFault_c1 fu f xs ins = some o → ∀ y, o.x = some y → GoodX E Try.prog f xs ins (o.g y).1 (o.g y).2 := by
  intro f xs ins o h
  cases h
theorem goodv_impl_NodeFault_c1 (fu : Nat) (k_0 : Int) (x_1_1 : Int) (y : Bool) (hy : F_impl_NodeFault_c1 fu k_0 x_1_1 = some y) : Good E Try.prog 90 [(.int .i64 k_0), (.rptr [(.int .i64 x_1_1)])] (enc_bo y) :=
  fun_good E_ok (pc_good (pc := pc_impl_NodeFault_c1 fu) (hpc_impl_NodeFault_c1 fu) (hpx_impl_NodeFault_c1 fu)) (fn := Try.f90) (c := body_impl_NodeFault_c1) (out := out_bo) (y := y) (by kernel_rfl) (by kernel_rfl) (by kernel_rfl) (lpok_impl_NodeFault_c1 fu) (fun d hd => out_bo_enc d _ hd) ((ev_impl_NodeFault_c1 fu k_0 x_1_1).trans hy)
theorem good_impl_NodeFault_c1 (fu : Nat) : ∀ xs o, S_impl_NodeFault_c1 fu xs = some o → ∀ y, o.x = some y → Good E Try.prog 90 xs (o.g y) := by
  intro xs o h y hy
  unfold S_impl_NodeFault_c1 at h
  split at h
  · rename_i a0_0 a1_0
    cases h
    exact goodv_impl_NodeFault_c1 fu a0_0 a1_0 y hy
  · cases h

/-! slices.IndexFunc[[]int64,int64] -/
def F_slices_IndexFunc_int64_int64_w_impl_NodeFault_c1_B0 {ρ : Type} (fu : Nat) (s0_0 : (Sl Int)) (f1_1 : Int) (t7_2 : Int) (k0 : Int → Option ρ) (k1 : Option ρ) (t8_3 : Int) (go : Int → Option ρ) : Option ρ :=
  (bif (decide (t8_3 < t7_2)) then ((bif (decide (0 ≤ t8_3) && decide ((Int.toNat t8_3) < s0_0.n)) then some () else none : Option Unit).bind fun _ => ((F_impl_NodeFault_c1 fu (s0_0.f (Int.toNat t8_3)) f1_1).bind fun y259 =>
    (bif y259 then (k0 t8_3) else (go (IntKind.wrap .i64 (t8_3 + 1)))))) else k1)
def F_slices_IndexFunc_int64_int64_w_impl_NodeFault_c1 (fu : Nat) (s_0 : (Sl Int)) (f_1_1 : Int) : Option (Int) :=
  (L (fun w0 go0 => F_slices_IndexFunc_int64_int64_w_impl_NodeFault_c1_B0 fu s_0 f_1_1 ((s_0.n : Nat) : Int) (fun z260 => (some z260)) (some (-1)) w0 go0) fu (0 : Int))
def pcf_slices_IndexFunc_int64_int64_w_impl_NodeFault_c1 (fu : Nat) (f : Nat) (xs : List (D RT den)) : Option (Out RT den) := match f with | 90 => S_impl_NodeFault_c1 fu xs | _ => none
def pcx_slices_IndexFunc_int64_int64_w_impl_NodeFault_c1 (fu : Nat) (f : Nat) (xs : List (D RT den)) (ins : List (Ob RT den)) : Option (OutX RT den) := none
def pc_slices_IndexFunc_int64_int64_w_impl_NodeFault_c1 (fu : Nat) : Pc RT den := ⟨pcf_slices_IndexFunc_int64_int64_w_impl_NodeFault_c1 fu, fun _ => false, fun _ => false, pcx_slices_IndexFunc_int64_int64_w_impl_NodeFault_c1 fu⟩
def msk_slices_IndexFunc_int64_int64_w_impl_NodeFault_c1 (b : Nat) : List Nat := match b with | 0 => [2, 3, 4, 5, 6, 9, 10, 11, 12, 13, 14, 15, 16, 17, 18] | 100000 => [0, 1, 2, 3, 5, 6, 7, 8, 9, 10, 11, 12, 13, 14, 15, 16, 17, 18] | _ => []
def ps_slices_IndexFunc_int64_int64_w_impl_NodeFault_c1_0 : List (Pat RT) := [.flat (.rs .i64), .fn 90 [.rptr [(.int .i64)]], .flat .dead, .flat .dead, .flat .dead, .flat .dead, .flat .dead, .flat (.int .i64), .flat (.int .i64), .flat .dead, .flat .dead, .flat .dead, .flat .dead, .flat .dead, .flat .dead, .flat .dead, .flat .dead, .flat .dead, .flat .dead]
def os_slices_IndexFunc_int64_int64_w_impl_NodeFault_c1_0 : List (OP RT) := []
def conv_slices_IndexFunc_int64_int64_w_impl_NodeFault_c1_0 (r : Raw den ps_slices_IndexFunc_int64_int64_w_impl_NodeFault_c1_0 os_slices_IndexFunc_int64_int64_w_impl_NodeFault_c1_0) : ((Sl Int) × Int × Int) × (Int) := ((r.1.1, r.1.2.1.1.1, r.1.2.2.2.2.2.2.2.1), r.1.2.2.2.2.2.2.2.2.1)
def back_slices_IndexFunc_int64_int64_w_impl_NodeFault_c1_0 (c : (Sl Int) × Int × Int) (w : Int) : St RT den := ⟨[(.rs c.1.z .i64 c.1.n c.1.f), (.fn 90 [(.rptr [(.int .i64 c.2.1)])]), .dead, .dead, .dead, .dead, .dead, (.int .i64 c.2.2), (.int .i64 w), .dead, .dead, .dead, .dead, .dead, .dead, .dead, .dead, .dead, .dead], []⟩
def Bk_slices_IndexFunc_int64_int64_w_impl_NodeFault_c1_0 {ρ : Type} (fu : Nat) (c : (Sl Int) × Int × Int) (k : Ex → St RT den → Option ρ) (w : Int) (go : (Int) → Option ρ) : Option ρ := F_slices_IndexFunc_int64_int64_w_impl_NodeFault_c1_B0 fu c.1 c.2.1 c.2.2 (fun a0 => k .ret ⟨[.dead, .dead, .dead, .dead, (.int .i64 a0), .dead, .dead, .dead, .dead, .dead, .dead, .dead, .dead, .dead, .dead, .dead, .dead, .dead, .dead], []⟩) (k (.exit 0) ⟨[.dead, .dead, .dead, .dead, .dead, .dead, .dead, .dead, .dead, .dead, .dead, .dead, .dead, .dead, .dead, .dead, .dead, .dead, .dead], []⟩) w go
def lp_slices_IndexFunc_int64_int64_w_impl_NodeFault_c1 (fu : Nat) : Lp RT den (Int) := fun b s k => match b with | 0 => handle ps_slices_IndexFunc_int64_int64_w_impl_NodeFault_c1_0 os_slices_IndexFunc_int64_int64_w_impl_NodeFault_c1_0 conv_slices_IndexFunc_int64_int64_w_impl_NodeFault_c1_0 (Bk_slices_IndexFunc_int64_int64_w_impl_NodeFault_c1_0 fu) fu s k | _ => none
theorem ev_slices_IndexFunc_int64_int64_w_impl_NodeFault_c1 (fu : Nat) (s_0 : (Sl Int)) (f_1_1 : Int) : evFun E (pc_slices_IndexFunc_int64_int64_w_impl_NodeFault_c1 fu) msk_slices_IndexFunc_int64_int64_w_impl_NodeFault_c1 (lp_slices_IndexFunc_int64_int64_w_impl_NodeFault_c1 fu) out_i64 107 [(.rs s_0.z .i64 s_0.n s_0.f), (.fn 90 [(.rptr [(.int .i64 f_1_1)])])] = F_slices_IndexFunc_int64_int64_w_impl_NodeFault_c1 fu s_0 f_1_1 := by kernel_rfl
noncomputable def body_slices_IndexFunc_int64_int64_w_impl_NodeFault_c1 : Code := Try.f107.body.getD .skip
noncomputable def lc_slices_IndexFunc_int64_int64_w_impl_NodeFault_c1_0 : Code := ((loops 0 body_slices_IndexFunc_int64_int64_w_impl_NodeFault_c1).getD 0 (0, .skip)).2
theorem round_slices_IndexFunc_int64_int64_w_impl_NodeFault_c1_0 (fu : Nat) (it : St RT den → Option (Int)) (k : Ex → St RT den → Option (Int)) c w : evCode E (pc_slices_IndexFunc_int64_int64_w_impl_NodeFault_c1 fu) msk_slices_IndexFunc_int64_int64_w_impl_NodeFault_c1 (lp_slices_IndexFunc_int64_int64_w_impl_NodeFault_c1 fu) 0 lc_slices_IndexFunc_int64_int64_w_impl_NodeFault_c1_0 (back_slices_IndexFunc_int64_int64_w_impl_NodeFault_c1_0 c w) (after (msk_slices_IndexFunc_int64_int64_w_impl_NodeFault_c1 0) (msk_slices_IndexFunc_int64_int64_w_impl_NodeFault_c1 100000) 0 it k) = Bk_slices_IndexFunc_int64_int64_w_impl_NodeFault_c1_0 fu c k w (fun w => it (back_slices_IndexFunc_int64_int64_w_impl_NodeFault_c1_0 c w)) := by kernel_rfl
theorem lpok_slices_IndexFunc_int64_int64_w_impl_NodeFault_c1_0 (fu : Nat) : ∀ s k r, lp_slices_IndexFunc_int64_int64_w_impl_NodeFault_c1 fu 0 s k = some r → ∃ fuel, iter (msk_slices_IndexFunc_int64_int64_w_impl_NodeFault_c1 0) (msk_slices_IndexFunc_int64_int64_w_impl_NodeFault_c1 100000) s.objs.length (evCode E (pc_slices_IndexFunc_int64_int64_w_impl_NodeFault_c1 fu) msk_slices_IndexFunc_int64_int64_w_impl_NodeFault_c1 (lp_slices_IndexFunc_int64_int64_w_impl_NodeFault_c1 fu) 0 lc_slices_IndexFunc_int64_int64_w_impl_NodeFault_c1_0) fuel s k = some r :=
  handle_ok (ps := ps_slices_IndexFunc_int64_int64_w_impl_NodeFault_c1_0) (os := os_slices_IndexFunc_int64_int64_w_impl_NodeFault_c1_0) (conv := conv_slices_IndexFunc_int64_int64_w_impl_NodeFault_c1_0) (B := Bk_slices_IndexFunc_int64_int64_w_impl_NodeFault_c1_0 fu) (fu := fu) back_slices_IndexFunc_int64_int64_w_impl_NodeFault_c1_0 (fun raw => by kernel_rfl) 0 (fun c w => by kernel_rfl) (round_slices_IndexFunc_int64_int64_w_impl_NodeFault_c1_0 fu)
theorem lpok_slices_IndexFunc_int64_int64_w_impl_NodeFault_c1 (fu : Nat) : LpOk E (pc_slices_IndexFunc_int64_int64_w_impl_NodeFault_c1 fu) msk_slices_IndexFunc_int64_int64_w_impl_NodeFault_c1 (lp_slices_IndexFunc_int64_int64_w_impl_NodeFault_c1 fu) (loops 0 body_slices_IndexFunc_int64_int64_w_impl_NodeFault_c1) := loop_all 1 (by kernel_rfl) fun i hi => match i, hi with
  | 0, _ => by
    have h : (loops 0 body_slices_IndexFunc_int64_int64_w_impl_NodeFault_c1).getD 0 (0, .skip) = (0, lc_slices_IndexFunc_int64_int64_w_impl_NodeFault_c1_0) := by kernel_rfl
    rw [h]; exact lpok_slices_IndexFunc_int64_int64_w_impl_NodeFault_c1_0 fu
  | i + 1, hi => absurd hi (by omega)
def S_slices_IndexFunc_int64_int64_w_impl_NodeFault_c1 (fu : Nat) (xs : List (D RT den)) : Option (Out RT den) := match xs with | [.rs za0_0 .i64 na0_0 fa0_0, .fn 90 [.rptr [.int .i64 a1_0]]] => some ⟨Int, F_slices_IndexFunc_int64_int64_w_impl_NodeFault_c1 fu (⟨za0_0, na0_0, fa0_0⟩ : (Sl Int)) a1_0, enc_i64, fun _ => true⟩ | _ => none
theorem hpc_slices_IndexFunc_int64_int64_w_impl_NodeFault_c1 (fu : Nat) : ∀ f xs o, pcf_slices_IndexFunc_int64_int64_w_impl_NodeFault_c1 fu f xs = some o → ∀ y, o.x = some y → Good E Try.prog f xs (o.g y) := by
  intro f xs o h
  unfold pcf_slices_IndexFunc_int64_int64_w_impl_NodeFault_c1 at h
  split at h
  · exact good_impl_NodeFault_c1 fu xs o h
  · cases h
theorem hpx_slices_IndexFunc_int64_int64_w_impl_NodeFault_c1 (fu : Nat) : ∀ f xs ins o, pcx_slices_IndexFunc_int64_int64_w_impl_NodeFault_c1 fu f xs ins = some o → ∀ y, o.x = some y → GoodX E Try.prog f xs ins (o.g y).1 (o.g y).2 := by
  intro f xs ins o h
  cases h
theorem goodv_slices_IndexFunc_int64_int64_w_impl_NodeFault_c1 (fu : Nat) (s_0 : (Sl Int)) (f_1_1 : Int) (y : Int) (hy : F_slices_IndexFunc_int64_int64_w_impl_NodeFault_c1 fu s_0 f_1_1 = some y) : Good E Try.prog 107 [(.rs s_0.z .i64 s_0.n s_0.f), (.fn 90 [(.rptr [(.int .i64 f_1_1)])])] (enc_i64 y) :=
  fun_good E_ok (pc_good (pc := pc_slices_IndexFunc_int64_int64_w_impl_NodeFault_c1 fu) (hpc_slices_IndexFunc_int64_int64_w_impl_NodeFault_c1 fu) (hpx_slices_IndexFunc_int64_int64_w_impl_NodeFault_c1 fu)) (fn := Try.f107) (c := body_slices_IndexFunc_int64_int64_w_impl_NodeFault_c1) (out := out_i64) (y := y) (by kernel_rfl) (by kernel_rfl) (by kernel_rfl) (lpok_slices_IndexFunc_int64_int64_w_impl_NodeFault_c1 fu) (fun d hd => out_i64_enc d _ hd) ((ev_slices_IndexFunc_int64_int64_w_impl_NodeFault_c1 fu s_0 f_1_1).trans hy)
theorem good_slices_IndexFunc_int64_int64_w_impl_NodeFault_c1 (fu : Nat) : ∀ xs o, S_slices_IndexFunc_int64_int64_w_impl_NodeFault_c1 fu xs = some o → ∀ y, o.x = some y → Good E Try.prog 107 xs (o.g y) := by
  intro xs o h y hy
  unfold S_slices_IndexFunc_int64_int64_w_impl_NodeFault_c1 at h
  split at h
  · rename_i za0_0 na0_0 fa0_0 a1_0
    cases h
    exact goodv_slices_IndexFunc_int64_int64_w_impl_NodeFault_c1 fu (⟨za0_0, na0_0, fa0_0⟩ : (Sl Int)) a1_0 y hy
  · cases h

/-! slices.ContainsFunc[[]int64,int64] -/
def F_slices_ContainsFunc_int64_int64_w_impl_NodeFault_c1 (fu : Nat) (s_0 : (Sl Int)) (f_1_1 : Int) : Option (Bool) :=
  ((F_slices_IndexFunc_int64_int64_w_impl_NodeFault_c1 fu s_0 f_1_1).bind fun y258 => (some (decide (y258 ≥ 0))))
def pcf_slices_ContainsFunc_int64_int64_w_impl_NodeFault_c1 (fu : Nat) (f : Nat) (xs : List (D RT den)) : Option (Out RT den) := match f with | 107 => S_slices_IndexFunc_int64_int64_w_impl_NodeFault_c1 fu xs | _ => none
def pcx_slices_ContainsFunc_int64_int64_w_impl_NodeFault_c1 (fu : Nat) (f : Nat) (xs : List (D RT den)) (ins : List (Ob RT den)) : Option (OutX RT den) := none
def pc_slices_ContainsFunc_int64_int64_w_impl_NodeFault_c1 (fu : Nat) : Pc RT den := ⟨pcf_slices_ContainsFunc_int64_int64_w_impl_NodeFault_c1 fu, fun _ => false, fun _ => false, pcx_slices_ContainsFunc_int64_int64_w_impl_NodeFault_c1 fu⟩
def msk_slices_ContainsFunc_int64_int64_w_impl_NodeFault_c1 (b : Nat) : List Nat := []
def lp_slices_ContainsFunc_int64_int64_w_impl_NodeFault_c1 (fu : Nat) : Lp RT den (Bool) := fun b s k => none
theorem ev_slices_ContainsFunc_int64_int64_w_impl_NodeFault_c1 (fu : Nat) (s_0 : (Sl Int)) (f_1_1 : Int) : evFun E (pc_slices_ContainsFunc_int64_int64_w_impl_NodeFault_c1 fu) msk_slices_ContainsFunc_int64_int64_w_impl_NodeFault_c1 (lp_slices_ContainsFunc_int64_int64_w_impl_NodeFault_c1 fu) out_bo 89 [(.rs s_0.z .i64 s_0.n s_0.f), (.fn 90 [(.rptr [(.int .i64 f_1_1)])])] = F_slices_ContainsFunc_int64_int64_w_impl_NodeFault_c1 fu s_0 f_1_1 := by kernel_rfl
noncomputable def body_slices_ContainsFunc_int64_int64_w_impl_NodeFault_c1 : Code := Try.f89.body.getD .skip
theorem lpok_slices_ContainsFunc_int64_int64_w_impl_NodeFault_c1 (fu : Nat) : LpOk E (pc_slices_ContainsFunc_int64_int64_w_impl_NodeFault_c1 fu) msk_slices_ContainsFunc_int64_int64_w_impl_NodeFault_c1 (lp_slices_ContainsFunc_int64_int64_w_impl_NodeFault_c1 fu) (loops 0 body_slices_ContainsFunc_int64_int64_w_impl_NodeFault_c1) := by
  have h : loops 0 body_slices_ContainsFunc_int64_int64_w_impl_NodeFault_c1 = [] := by kernel_rfl
  rw [h]; intro p hp; cases hp
def S_slices_ContainsFunc_int64_int64_w_impl_NodeFault_c1 (fu : Nat) (xs : List (D RT den)) : Option (Out RT den) := match xs with | [.rs za0_0 .i64 na0_0 fa0_0, .fn 90 [.rptr [.int .i64 a1_0]]] => some ⟨Bool, F_slices_ContainsFunc_int64_int64_w_impl_NodeFault_c1 fu (⟨za0_0, na0_0, fa0_0⟩ : (Sl Int)) a1_0, enc_bo, fun _ => true⟩ | _ => none
theorem hpc_slices_ContainsFunc_int64_int64_w_impl_NodeFault_c1 (fu : Nat) : ∀ f xs o, pcf_slices_ContainsFunc_int64_int64_w_impl_NodeFault_c1 fu f xs = some o → ∀ y, o.x = some y → Good E Try.prog f xs (o.g y) := by
  intro f xs o h
  unfold pcf_slices_ContainsFunc_int64_int64_w_impl_NodeFault_c1 at h
  split at h
  · exact good_slices_IndexFunc_int64_int64_w_impl_NodeFault_c1 fu xs o h
  · cases h
theorem hpx_slices_ContainsFunc_int64_int64_w_impl_NodeFault_c1 (fu : Nat) : ∀ f xs ins o, pcx_slices_ContainsFunc_int64_int64_w_impl_NodeFault_c1 fu f xs ins = some o → ∀ y, o.x = some y → GoodX E Try.prog f xs ins (o.g y).1 (o.g y).2 := by
  intro f xs ins o h
  cases h
theorem goodv_slices_ContainsFunc_int64_int64_w_impl_NodeFault_c1 (fu : Nat) (s_0 : (Sl Int)) (f_1_1 : Int) (y : Bool) (hy : F_slices_ContainsFunc_int64_int64_w_impl_NodeFault_c1 fu s_0 f_1_1 = some y) : Good E Try.prog 89 [(.rs s_0.z .i64 s_0.n s_0.f), (.fn 90 [(.rptr [(.int .i64 f_1_1)])])] (enc_bo y) :=
  fun_good E_ok (pc_good (pc := pc_slices_ContainsFunc_int64_int64_w_impl_NodeFault_c1 fu) (hpc_slices_ContainsFunc_int64_int64_w_impl_NodeFault_c1 fu) (hpx_slices_ContainsFunc_int64_int64_w_impl_NodeFault_c1 fu)) (fn := Try.f89) (c := body_slices_ContainsFunc_int64_int64_w_impl_NodeFault_c1) (out := out_bo) (y := y) (by kernel_rfl) (by kernel_rfl) (by kernel_rfl) (lpok_slices_ContainsFunc_int64_int64_w_impl_NodeFault_c1 fu) (fun d hd => out_bo_enc d _ hd) ((ev_slices_ContainsFunc_int64_int64_w_impl_NodeFault_c1 fu s_0 f_1_1).trans hy)
theorem good_slices_ContainsFunc_int64_int64_w_impl_NodeFault_c1 (fu : Nat) : ∀ xs o, S_slices_ContainsFunc_int64_int64_w_impl_NodeFault_c1 fu xs = some o → ∀ y, o.x = some y → Good E Try.prog 89 xs (o.g y) := by
  intro xs o h y hy
  unfold S_slices_ContainsFunc_int64_int64_w_impl_NodeFault_c1 at h
  split at h
  · rename_i za0_0 na0_0 fa0_0 a1_0
    cases h
    exact goodv_slices_ContainsFunc_int64_int64_w_impl_NodeFault_c1 fu (⟨za0_0, na0_0, fa0_0⟩ : (Sl Int)) a1_0 y hy
  · cases h

/-! impl.NodeFault'2 -/
def F_impl_NodeFault_c2 (fu : Nat) (k_0 : Int) (x_1_1 : Int) : Option (Bool) :=
  ((F_impl_in fu k_0 0 x_1_1).bind fun y265 => (some (!y265)))
def pcf_impl_NodeFault_c2 (fu : Nat) (f : Nat) (xs : List (D RT den)) : Option (Out RT den) := match f with | 86 => S_impl_in fu xs | _ => none
def pcx_impl_NodeFault_c2 (fu : Nat) (f : Nat) (xs : List (D RT den)) (ins : List (Ob RT den)) : Option (OutX RT den) := none
def pc_impl_NodeFault_c2 (fu : Nat) : Pc RT den := ⟨pcf_impl_NodeFault_c2 fu, fun _ => false, fun _ => false, pcx_impl_NodeFault_c2 fu⟩
def msk_impl_NodeFault_c2 (b : Nat) : List Nat := []
def lp_impl_NodeFault_c2 (fu : Nat) : Lp RT den (Bool) := fun b s k => none
theorem ev_impl_NodeFault_c2 (fu : Nat) (k_0 : Int) (x_1_1 : Int) : evFun E (pc_impl_NodeFault_c2 fu) msk_impl_NodeFault_c2 (lp_impl_NodeFault_c2 fu) out_bo 91 [(.int .i64 k_0), (.rptr [(.int .i64 x_1_1)])] = F_impl_NodeFault_c2 fu k_0 x_1_1 := by kernel_rfl
noncomputable def body_impl_NodeFault_c2 : Code := Try.f91.body.getD .skip
theorem lpok_impl_NodeFault_c2 (fu : Nat) : LpOk E (pc_impl_NodeFault_c2 fu) msk_impl_NodeFault_c2 (lp_impl_NodeFault_c2 fu) (loops 0 body_impl_NodeFault_c2) := by
  have h : loops 0 body_impl_NodeFault_c2 = [] := by kernel_rfl
  rw [h]; intro p hp; cases hp
def S_impl_NodeFault_c2 (fu : Nat) (xs : List (D RT den)) : Option (Out RT den) := match xs with | [.int .i64 a0_0, .rptr [.int .i64 a1_0]] => some ⟨Bool, F_impl_NodeFault_c2 fu a0_0 a1_0, enc_bo, fun _ => true⟩ | _ => none
theorem hpc_impl_NodeFault_c2 (fu : Nat) : ∀ f xs o, pcf_impl_NodeFault_c2 fu f xs = some o → ∀ y, o.x = some y → Good E Try.prog f xs (o.g y) := by
  intro f xs o h
  unfold pcf_impl_NodeFault_c2 at h
  split at h
  · exact good_impl_in fu xs o h
  · cases h
theorem hpx_impl_NodeFault_c2 (fu : Nat) : ∀ f xs ins o, pcx_impl_NodeFault_c2 fu f xs ins = some o → ∀ y, o.x = some y → GoodX E Try.prog f xs ins (o.g y).1 (o.g y).2 := by
  intro f xs ins o h
  cases h
theorem goodv_impl_NodeFault_c2 (fu : Nat) (k_0 : Int) (x_1_1 : Int) (y : Bool) (hy : F_impl_NodeFault_c2 fu k_0 x_1_1 = some y) : Good E Try.prog 91 [(.int .i64 k_0), (.rptr [(.int .i64 x_1_1)])] (enc_bo y) :=
  fun_good E_ok (pc_good (pc := pc_impl_NodeFault_c2 fu) (hpc_impl_NodeFault_c2 fu) (hpx_impl_NodeFault_c2 fu)) (fn := Try.f91) (c := body_impl_NodeFault_c2) (out := out_bo) (y := y) (by kernel_rfl) (by kernel_rfl) (by kernel_rfl) (lpok_impl_NodeFault_c2 fu) (fun d hd => out_bo_enc d _ hd) ((ev_impl_NodeFault_c2 fu k_0 x_1_1).trans hy)
theorem good_impl_NodeFault_c2 (fu : Nat) : ∀ xs o, S_impl_NodeFault_c2 fu xs = some o → ∀ y, o.x = some y → Good E Try.prog 91 xs (o.g y) := by
  intro xs o h y hy
  unfold S_impl_NodeFault_c2 at h
  split at h
  · rename_i a0_0 a1_0
    cases h
    exact goodv_impl_NodeFault_c2 fu a0_0 a1_0 y hy
  · cases h

/-! slices.IndexFunc[[]int64,int64] -/
def F_slices_IndexFunc_int64_int64_w_impl_NodeFault_c2_B0 {ρ : Type} (fu : Nat) (s0_0 : (Sl Int)) (f1_1 : Int) (t7_2 : Int) (k0 : Int → Option ρ) (k1 : Option ρ) (t8_3 : Int) (go : Int → Option ρ) : Option ρ :=
  (bif (decide (t8_3 < t7_2)) then ((bif (decide (0 ≤ t8_3) && decide ((Int.toNat t8_3) < s0_0.n)) then some () else none : Option Unit).bind fun _ => ((F_impl_NodeFault_c2 fu (s0_0.f (Int.toNat t8_3)) f1_1).bind fun y263 =>
    (bif y263 then (k0 t8_3) else (go (IntKind.wrap .i64 (t8_3 + 1)))))) else k1)
def F_slices_IndexFunc_int64_int64_w_impl_NodeFault_c2 (fu : Nat) (s_0 : (Sl Int)) (f_1_1 : Int) : Option (Int) :=
  (L (fun w0 go0 => F_slices_IndexFunc_int64_int64_w_impl_NodeFault_c2_B0 fu s_0 f_1_1 ((s_0.n : Nat) : Int) (fun z264 => (some z264)) (some (-1)) w0 go0) fu (0 : Int))
def pcf_slices_IndexFunc_int64_int64_w_impl_NodeFault_c2 (fu : Nat) (f : Nat) (xs : List (D RT den)) : Option (Out RT den) := match f with | 91 => S_impl_NodeFault_c2 fu xs | _ => none
def pcx_slices_IndexFunc_int64_int64_w_impl_NodeFault_c2 (fu : Nat) (f : Nat) (xs : List (D RT den)) (ins : List (Ob RT den)) : Option (OutX RT den) := none
def pc_slices_IndexFunc_int64_int64_w_impl_NodeFault_c2 (fu : Nat) : Pc RT den := ⟨pcf_slices_IndexFunc_int64_int64_w_impl_NodeFault_c2 fu, fun _ => false, fun _ => false, pcx_slices_IndexFunc_int64_int64_w_impl_NodeFault_c2 fu⟩
def msk_slices_IndexFunc_int64_int64_w_impl_NodeFault_c2 (b : Nat) : List Nat := match b with | 0 => [2, 3, 4, 5, 6, 9, 10, 11, 12, 13, 14, 15, 16, 17, 18] | 100000 => [0, 1, 2, 3, 5, 6, 7, 8, 9, 10, 11, 12, 13, 14, 15, 16, 17, 18] | _ => []
def ps_slices_IndexFunc_int64_int64_w_impl_NodeFault_c2_0 : List (Pat RT) := [.flat (.rs .i64), .fn 91 [.rptr [(.int .i64)]], .flat .dead, .flat .dead, .flat .dead, .flat .dead, .flat .dead, .flat (.int .i64), .flat (.int .i64), .flat .dead, .flat .dead, .flat .dead, .flat .dead, .flat .dead, .flat .dead, .flat .dead, .flat .dead, .flat .dead, .flat .dead]
def os_slices_IndexFunc_int64_int64_w_impl_NodeFault_c2_0 : List (OP RT) := []
def conv_slices_IndexFunc_int64_int64_w_impl_NodeFault_c2_0 (r : Raw den ps_slices_IndexFunc_int64_int64_w_impl_NodeFault_c2_0 os_slices_IndexFunc_int64_int64_w_impl_NodeFault_c2_0) : ((Sl Int) × Int × Int) × (Int) := ((r.1.1, r.1.2.1.1.1, r.1.2.2.2.2.2.2.2.1), r.1.2.2.2.2.2.2.2.2.1)
def back_slices_IndexFunc_int64_int64_w_impl_NodeFault_c2_0 (c : (Sl Int) × Int × Int) (w : Int) : St RT den := ⟨[(.rs c.1.z .i64 c.1.n c.1.f), (.fn 91 [(.rptr [(.int .i64 c.2.1)])]), .dead, .dead, .dead, .dead, .dead, (.int .i64 c.2.2), (.int .i64 w), .dead, .dead, .dead, .dead, .dead, .dead, .dead, .dead, .dead, .dead], []⟩
def Bk_slices_IndexFunc_int64_int64_w_impl_NodeFault_c2_0 {ρ : Type} (fu : Nat) (c : (Sl Int) × Int × Int) (k : Ex → St RT den → Option ρ) (w : Int) (go : (Int) → Option ρ) : Option ρ := F_slices_IndexFunc_int64_int64_w_impl_NodeFault_c2_B0 fu c.1 c.2.1 c.2.2 (fun a0 => k .ret ⟨[.dead, .dead, .dead, .dead, (.int .i64 a0), .dead, .dead, .dead, .dead, .dead, .dead, .dead, .dead, .dead, .dead, .dead, .dead, .dead, .dead], []⟩) (k (.exit 0) ⟨[.dead, .dead, .dead, .dead, .dead, .dead, .dead, .dead, .dead, .dead, .dead, .dead, .dead, .dead, .dead, .dead, .dead, .dead, .dead], []⟩) w go
def lp_slices_IndexFunc_int64_int64_w_impl_NodeFault_c2 (fu : Nat) : Lp RT den (Int) := fun b s k => match b with | 0 => handle ps_slices_IndexFunc_int64_int64_w_impl_NodeFault_c2_0 os_slices_IndexFunc_int64_int64_w_impl_NodeFault_c2_0 conv_slices_IndexFunc_int64_int64_w_impl_NodeFault_c2_0 (Bk_slices_IndexFunc_int64_int64_w_impl_NodeFault_c2_0 fu) fu s k | _ => none
theorem ev_slices_IndexFunc_int64_int64_w_impl_NodeFault_c2 (fu : Nat) (s_0 : (Sl Int)) (f_1_1 : Int) : evFun E (pc_slices_IndexFunc_int64_int64_w_impl_NodeFault_c2 fu) msk_slices_IndexFunc_int64_int64_w_impl_NodeFault_c2 (lp_slices_IndexFunc_int64_int64_w_impl_NodeFault_c2 fu) out_i64 107 [(.rs s_0.z .i64 s_0.n s_0.f), (.fn 91 [(.rptr [(.int .i64 f_1_1)])])] = F_slices_IndexFunc_int64_int64_w_impl_NodeFault_c2 fu s_0 f_1_1 := by kernel_rfl
noncomputable def body_slices_IndexFunc_int64_int64_w_impl_NodeFault_c2 : Code := Try.f107.body.getD .skip
noncomputable def lc_slices_IndexFunc_int64_int64_w_impl_NodeFault_c2_0 : Code := ((loops 0 body_slices_IndexFunc_int64_int64_w_impl_NodeFault_c2).getD 0 (0, .skip)).2
theorem round_slices_IndexFunc_int64_int64_w_impl_NodeFault_c2_0 (fu : Nat) (it : St RT den → Option (Int)) (k : Ex → St RT den → Option (Int)) c w : evCode E (pc_slices_IndexFunc_int64_int64_w_impl_NodeFault_c2 fu) msk_slices_IndexFunc_int64_int64_w_impl_NodeFault_c2 (lp_slices_IndexFunc_int64_int64_w_impl_NodeFault_c2 fu) 0 lc_slices_IndexFunc_int64_int64_w_impl_NodeFault_c2_0 (back_slices_IndexFunc_int64_int64_w_impl_NodeFault_c2_0 c w) (after (msk_slices_IndexFunc_int64_int64_w_impl_NodeFault_c2 0) (msk_slices_IndexFunc_int64_int64_w_impl_NodeFault_c2 100000) 0 it k) = Bk_slices_IndexFunc_int64_int64_w_impl_NodeFault_c2_0 fu c k w (fun w => it (back_slices_IndexFunc_int64_int64_w_impl_NodeFault_c2_0 c w)) := by kernel_rfl
theorem lpok_slices_IndexFunc_int64_int64_w_impl_NodeFault_c2_0 (fu : Nat) : ∀ s k r, lp_slices_IndexFunc_int64_int64_w_impl_NodeFault_c2 fu 0 s k = some r → ∃ fuel, iter (msk_slices_IndexFunc_int64_int64_w_impl_NodeFault_c2 0) (msk_slices_IndexFunc_int64_int64_w_impl_NodeFault_c2 100000) s.objs.length (evCode E (pc_slices_IndexFunc_int64_int64_w_impl_NodeFault_c2 fu) msk_slices_IndexFunc_int64_int64_w_impl_NodeFault_c2 (lp_slices_IndexFunc_int64_int64_w_impl_NodeFault_c2 fu) 0 lc_slices_IndexFunc_int64_int64_w_impl_NodeFault_c2_0) fuel s k = some r :=
  handle_ok (ps := ps_slices_IndexFunc_int64_int64_w_impl_NodeFault_c2_0) (os := os_slices_IndexFunc_int64_int64_w_impl_NodeFault_c2_0) (conv := conv_slices_IndexFunc_int64_int64_w_impl_NodeFault_c2_0) (B := Bk_slices_IndexFunc_int64_int64_w_impl_NodeFault_c2_0 fu) (fu := fu) back_slices_IndexFunc_int64_int64_w_impl_NodeFault_c2_0 (fun raw => by kernel_rfl) 0 (fun c w => by kernel_rfl) (round_slices_IndexFunc_int64_int64_w_impl_NodeFault_c2_0 fu)
theorem lpok_slices_IndexFunc_int64_int64_w_impl_NodeFault_c2 (fu : Nat) : LpOk E (pc_slices_IndexFunc_int64_int64_w_impl_NodeFault_c2 fu) msk_slices_IndexFunc_int64_int64_w_impl_NodeFault_c2 (lp_slices_IndexFunc_int64_int64_w_impl_NodeFault_c2 fu) (loops 0 body_slices_IndexFunc_int64_int64_w_impl_NodeFault_c2) := loop_all 1 (by kernel_rfl) fun i hi => match i, hi with
  | 0, _ => by
    have h : (loops 0 body_slices_IndexFunc_int64_int64_w_impl_NodeFault_c2).getD 0 (0, .skip) = (0, lc_slices_IndexFunc_int64_int64_w_impl_NodeFault_c2_0) := by kernel_rfl
    rw [h]; exact lpok_slices_IndexFunc_int64_int64_w_impl_NodeFault_c2_0 fu
  | i + 1, hi => absurd hi (by omega)
def S_slices_IndexFunc_int64_int64_w_impl_NodeFault_c2 (fu : Nat) (xs : List (D RT den)) : Option (Out RT den) := match xs with | [.rs za0_0 .i64 na0_0 fa0_0, .fn 91 [.rptr [.int .i64 a1_0]]] => some ⟨Int, F_slices_IndexFunc_int64_int64_w_impl_NodeFault_c2 fu (⟨za0_0, na0_0, fa0_0⟩ : (Sl Int)) a1_0, enc_i64, fun _ => true⟩ | _ => none
theorem hpc_slices_IndexFunc_int64_int64_w_impl_NodeFault_c2 (fu : Nat) : ∀ f xs o, pcf_slices_IndexFunc_int64_int64_w_impl_NodeFault_c2 fu f xs = some o → ∀ y, o.x = some y → Good E Try.prog f xs (o.g y) := by
  intro f xs o h
  unfold pcf_slices_IndexFunc_int64_int64_w_impl_NodeFault_c2 at h
  split at h
  · exact good_impl_NodeFault_c2 fu xs o h
  · cases h
theorem hpx_slices_IndexFunc_int64_int64_w_impl_NodeFault_c2 (fu : Nat) : ∀ f xs ins o, pcx_slices_IndexFunc_int64_int64_w_impl_NodeFault_c2 fu f xs ins = some o → ∀ y, o.x = some y → GoodX E Try.prog f xs ins (o.g y).1 (o.g y).2 := by
  intro f xs ins o h
  cases h
theorem goodv_slices_IndexFunc_int64_int64_w_impl_NodeFault_c2 (fu : Nat) (s_0 : (Sl Int)) (f_1_1 : Int) (y : Int) (hy : F_slices_IndexFunc_int64_int64_w_impl_NodeFault_c2 fu s_0 f_1_1 = some y) : Good E Try.prog 107 [(.rs s_0.z .i64 s_0.n s_0.f), (.fn 91 [(.rptr [(.int .i64 f_1_1)])])] (enc_i64 y) :=
  fun_good E_ok (pc_good (pc := pc_slices_IndexFunc_int64_int64_w_impl_NodeFault_c2 fu) (hpc_slices_IndexFunc_int64_int64_w_impl_NodeFault_c2 fu) (hpx_slices_IndexFunc_int64_int64_w_impl_NodeFault_c2 fu)) (fn := Try.f107) (c := body_slices_IndexFunc_int64_int64_w_impl_NodeFault_c2) (out := out_i64) (y := y) (by kernel_rfl) (by kernel_rfl) (by kernel_rfl) (lpok_slices_IndexFunc_int64_int64_w_impl_NodeFault_c2 fu) (fun d hd => out_i64_enc d _ hd) ((ev_slices_IndexFunc_int64_int64_w_impl_NodeFault_c2 fu s_0 f_1_1).trans hy)
theorem good_slices_IndexFunc_int64_int64_w_impl_NodeFault_c2 (fu : Nat) : ∀ xs o, S_slices_IndexFunc_int64_int64_w_impl_NodeFault_c2 fu xs = some o → ∀ y, o.x = some y → Good E Try.prog 107 xs (o.g y) := by
  intro xs o h y hy
  unfold S_slices_IndexFunc_int64_int64_w_impl_NodeFault_c2 at h
  split at h
  · rename_i za0_0 na0_0 fa0_0 a1_0
    cases h
    exact goodv_slices_IndexFunc_int64_int64_w_impl_NodeFault_c2 fu (⟨za0_0, na0_0, fa0_0⟩ : (Sl Int)) a1_0 y hy
  · cases h

/-! slices.ContainsFunc[[]int64,int64] -/
def F_slices_ContainsFunc_int64_int64_w_impl_NodeFault_c2 (fu : Nat) (s_0 : (Sl Int)) (f_1_1 : Int) : Option (Bool) :=
  ((F_slices_IndexFunc_int64_int64_w_impl_NodeFault_c2 fu s_0 f_1_1).bind fun y262 => (some (decide (y262 ≥ 0))))
def pcf_slices_ContainsFunc_int64_int64_w_impl_NodeFault_c2 (fu : Nat) (f : Nat) (xs : List (D RT den)) : Option (Out RT den) := match f with | 107 => S_slices_IndexFunc_int64_int64_w_impl_NodeFault_c2 fu xs | _ => none
def pcx_slices_ContainsFunc_int64_int64_w_impl_NodeFault_c2 (fu : Nat) (f : Nat) (xs : List (D RT den)) (ins : List (Ob RT den)) : Option (OutX RT den) := none
def pc_slices_ContainsFunc_int64_int64_w_impl_NodeFault_c2 (fu : Nat) : Pc RT den := ⟨pcf_slices_ContainsFunc_int64_int64_w_impl_NodeFault_c2 fu, fun _ => false, fun _ => false, pcx_slices_ContainsFunc_int64_int64_w_impl_NodeFault_c2 fu⟩
def msk_slices_ContainsFunc_int64_int64_w_impl_NodeFault_c2 (b : Nat) : List Nat := []
def lp_slices_ContainsFunc_int64_int64_w_impl_NodeFault_c2 (fu : Nat) : Lp RT den (Bool) := fun b s k => none
theorem ev_slices_ContainsFunc_int64_int64_w_impl_NodeFault_c2 (fu : Nat) (s_0 : (Sl Int)) (f_1_1 : Int) : evFun E (pc_slices_ContainsFunc_int64_int64_w_impl_NodeFault_c2 fu) msk_slices_ContainsFunc_int64_int64_w_impl_NodeFault_c2 (lp_slices_ContainsFunc_int64_int64_w_impl_NodeFault_c2 fu) out_bo 89 [(.rs s_0.z .i64 s_0.n s_0.f), (.fn 91 [(.rptr [(.int .i64 f_1_1)])])] = F_slices_ContainsFunc_int64_int64_w_impl_NodeFault_c2 fu s_0 f_1_1 := by kernel_rfl
noncomputable def body_slices_ContainsFunc_int64_int64_w_impl_NodeFault_c2 : Code := Try.f89.body.getD .skip
theorem lpok_slices_ContainsFunc_int64_int64_w_impl_NodeFault_c2 (fu : Nat) : LpOk E (pc_slices_ContainsFunc_int64_int64_w_impl_NodeFault_c2 fu) msk_slices_ContainsFunc_int64_int64_w_impl_NodeFault_c2 (lp_slices_ContainsFunc_int64_int64_w_impl_NodeFault_c2 fu) (loops 0 body_slices_ContainsFunc_int64_int64_w_impl_NodeFault_c2) := by
  have h : loops 0 body_slices_ContainsFunc_int64_int64_w_impl_NodeFault_c2 = [] := by kernel_rfl
  rw [h]; intro p hp; cases hp
def S_slices_ContainsFunc_int64_int64_w_impl_NodeFault_c2 (fu : Nat) (xs : List (D RT den)) : Option (Out RT den) := match xs with | [.rs za0_0 .i64 na0_0 fa0_0, .fn 91 [.rptr [.int .i64 a1_0]]] => some ⟨Bool, F_slices_ContainsFunc_int64_int64_w_impl_NodeFault_c2 fu (⟨za0_0, na0_0, fa0_0⟩ : (Sl Int)) a1_0, enc_bo, fun _ => true⟩ | _ => none
theorem hpc_slices_ContainsFunc_int64_int64_w_impl_NodeFault_c2 (fu : Nat) : ∀ f xs o, pcf_slices_ContainsFunc_int64_int64_w_impl_NodeFault_c2 fu f xs = some o → ∀ y, o.x = some y → Good E Try.prog f xs (o.g y) := by
  intro f xs o h
  unfold pcf_slices_ContainsFunc_int64_int64_w_impl_NodeFault_c2 at h
  split at h
  · exact good_slices_IndexFunc_int64_int64_w_impl_NodeFault_c2 fu xs o h
  · cases h
theorem hpx_slices_ContainsFunc_int64_int64_w_impl_NodeFault_c2 (fu : Nat) : ∀ f xs ins o, pcx_slices_ContainsFunc_int64_int64_w_impl_NodeFault_c2 fu f xs ins = some o → ∀ y, o.x = some y → GoodX E Try.prog f xs ins (o.g y).1 (o.g y).2 := by
  intro f xs ins o h
  cases h
theorem goodv_slices_ContainsFunc_int64_int64_w_impl_NodeFault_c2 (fu : Nat) (s_0 : (Sl Int)) (f_1_1 : Int) (y : Bool) (hy : F_slices_ContainsFunc_int64_int64_w_impl_NodeFault_c2 fu s_0 f_1_1 = some y) : Good E Try.prog 89 [(.rs s_0.z .i64 s_0.n s_0.f), (.fn 91 [(.rptr [(.int .i64 f_1_1)])])] (enc_bo y) :=
  fun_good E_ok (pc_good (pc := pc_slices_ContainsFunc_int64_int64_w_impl_NodeFault_c2 fu) (hpc_slices_ContainsFunc_int64_int64_w_impl_NodeFault_c2 fu) (hpx_slices_ContainsFunc_int64_int64_w_impl_NodeFault_c2 fu)) (fn := Try.f89) (c := body_slices_ContainsFunc_int64_int64_w_impl_NodeFault_c2) (out := out_bo) (y := y) (by kernel_rfl) (by kernel_rfl) (by kernel_rfl) (lpok_slices_ContainsFunc_int64_int64_w_impl_NodeFault_c2 fu) (fun d hd => out_bo_enc d _ hd) ((ev_slices_ContainsFunc_int64_int64_w_impl_NodeFault_c2 fu s_0 f_1_1).trans hy)
theorem good_slices_ContainsFunc_int64_int64_w_impl_NodeFault_c2 (fu : Nat) : ∀ xs o, S_slices_ContainsFunc_int64_int64_w_impl_NodeFault_c2 fu xs = some o → ∀ y, o.x = some y → Good E Try.prog 89 xs (o.g y) := by
  intro xs o h y hy
  unfold S_slices_ContainsFunc_int64_int64_w_impl_NodeFault_c2 at h
  split at h
  · rename_i za0_0 na0_0 fa0_0 a1_0
    cases h
    exact goodv_slices_ContainsFunc_int64_int64_w_impl_NodeFault_c2 fu (⟨za0_0, na0_0, fa0_0⟩ : (Sl Int)) a1_0 y hy
  · cases h

/-! impl.NodeFault -/
def F_impl_NodeFault_B1 {ρ : Type} (fu : Nat) (t75_0 : (Sl Int)) (t76_1 : Int) (o0_3 : Int) (o0_4 : Int) (o0_5 : Int) (o0_6 : Int) (o0_7 : (Sl S_impl_Entry)) (o0_8 : Int) (o0_9 : Int) (o0_10 : (Sl Int)) (o0_11 : (Sl Int)) (o0_12 : (Sl Int)) (o1_13 : Int) (k0 : Option ρ) (k1 : Option ρ) (t77_2 : Int) (go : Int → Option ρ) : Option ρ :=
  (bif (decide (t77_2 < t76_1)) then ((bif (decide (0 ≤ t77_2) && decide ((Int.toNat t77_2) < t75_0.n)) then some () else none : Option Unit).bind fun _ => ((((F_impl_Node_isId fu (⟨o0_3,
    o0_4, o0_5, o0_6, o0_7, o0_8, o0_9, o0_10, o0_11, o0_12⟩ : S_impl_Node) (t75_0.f (Int.toNat t77_2))).bind fun y187 => (bif (!y187) then (some true) else (bif (decide (t77_2 > 0)) then
    ((bif (decide (0 ≤ (IntKind.wrap .i64 (t77_2 - 1))) && decide ((Int.toNat (IntKind.wrap .i64 (t77_2 - 1))) < o0_10.n)) then some () else none : Option Unit).bind fun _ => (some (decide ((t75_0.f (Int.toNat t77_2)) ≤ (o0_10.f (Int.toNat (IntKind.wrap .i64 (t77_2 - 1)))))))) else
    (some false)))) : Option Bool).bind fun m188 => (bif m188 then k0 else (go (IntKind.wrap .i64 (t77_2 + 1)))))) else k1)
def F_impl_NodeFault (fu : Nat) (t_0 : S_impl_Node) : Option (Int) :=
  ((((F_impl_in fu t_0.Peers 1 5).bind fun y173 => (bif (!y173) then (some true) else ((F_impl_Node_isId fu t_0 t_0.Id).bind fun y176 => (bif (!y176) then (some true) else
    ((F_impl_in fu t_0.Term 0 100000).bind fun y177 => (bif (!y177) then (some true) else (bif (t_0.Voted != (-1)) then ((F_impl_Node_isId fu t_0 t_0.Voted).bind fun y178 => (bif (!y178) then
    (some true) else ((F_impl_in fu t_0.Role 0 2).bind fun y179 => (some (!y179))))) else ((F_impl_in fu t_0.Role 0 2).bind fun y180 => (some (!y180)))))))))) : Option Bool).bind fun m181 =>
    (bif m181 then (some 3) else ((F_impl_LogFault fu t_0.Log).bind fun y182 => (bif (y182 != 0) then (some y182) else ((F_impl_size_impl_Entry fu t_0.Log).bind fun y183 =>
    ((F_impl_last fu t_0.Log).bind fun y184 => (bif (decide (y184.Term > t_0.Term)) then (some 1) else ((F_impl_in fu t_0.Commit 0 y183).bind fun y185 => (bif (!y185) then (some 3) else
    (((bif (decide (((t_0.Votes.n : Nat) : Int) > 0)) then (some (t_0.Role != 1)) else (some false)) : Option Bool).bind fun m186 => (bif m186 then (some 1) else (L (fun w1 go1 =>
    F_impl_NodeFault_B1 fu t_0.Votes ((t_0.Votes.n : Nat) : Int) t_0.Id t_0.Peers t_0.Term t_0.Voted t_0.Log t_0.Role t_0.Commit t_0.Votes t_0.Next t_0.Match y183 (some 1) (bif (t_0.Role == 2) then
    ((((F_impl_size_int64 fu t_0.Next).bind fun y189 => (bif (y189 != t_0.Peers) then (some true) else ((F_impl_size_int64 fu t_0.Match).bind fun y190 => (some (y190 != t_0.Peers))))) : Option Bool).bind fun m191 =>
    (bif m191 then (some 1) else ((F_slices_ContainsFunc_int64_int64_w_impl_NodeFault_c1 fu t_0.Next y183).bind fun y192 => (bif y192 then (some 3) else
    ((F_slices_ContainsFunc_int64_int64_w_impl_NodeFault_c2 fu t_0.Match y183).bind fun y193 => (bif y193 then (some 3) else (((bif (t_0.Role != 0) then (bif (t_0.Voted != t_0.Id) then
    (some true) else (some (t_0.Term == 0))) else (some false)) : Option Bool).bind fun m194 => (bif m194 then (some 1) else (some 0))))))))) else ((((F_impl_size_int64 fu t_0.Next).bind fun y195 =>
    (bif (y195 != 0) then (some true) else ((F_impl_size_int64 fu t_0.Match).bind fun y196 => (some (y196 != 0))))) : Option Bool).bind fun m197 => (bif m197 then (some 1) else
    ((F_slices_ContainsFunc_int64_int64_w_impl_NodeFault_c1 fu t_0.Next y183).bind fun y198 => (bif y198 then (some 3) else ((F_slices_ContainsFunc_int64_int64_w_impl_NodeFault_c2 fu t_0.Match y183).bind fun y199 =>
    (bif y199 then (some 3) else (((bif (t_0.Role != 0) then (bif (t_0.Voted != t_0.Id) then (some true) else (some (t_0.Term == 0))) else (some false)) : Option Bool).bind fun m200 =>
    (bif m200 then (some 1) else (some 0)))))))))) w1 go1) fu (0 : Int)))))))))))))
def pcf_impl_NodeFault (fu : Nat) (f : Nat) (xs : List (D RT den)) : Option (Out RT den) := match f with | 26 => S_impl_LogFault fu xs | 46 => S_impl_last fu xs | 48 => S_impl_size_impl_Entry fu xs | 86 => S_impl_in fu xs | 87 => S_impl_Node_isId fu xs | 88 => S_impl_size_int64 fu xs | 89 => (match S_slices_ContainsFunc_int64_int64_w_impl_NodeFault_c1 fu xs with | some o => some o | none => S_slices_ContainsFunc_int64_int64_w_impl_NodeFault_c2 fu xs) | _ => none
def pcx_impl_NodeFault (fu : Nat) (f : Nat) (xs : List (D RT den)) (ins : List (Ob RT den)) : Option (OutX RT den) := none
def pc_impl_NodeFault (fu : Nat) : Pc RT den := ⟨pcf_impl_NodeFault fu, fun _ => false, fun _ => false, pcx_impl_NodeFault fu⟩
def msk_impl_NodeFault (b : Nat) : List Nat := match b with | 1 => [0, 2, 3, 5, 6, 7, 8, 9, 10, 11, 12, 13, 14, 15, 16, 17, 18, 19, 20, 21, 22, 23, 24, 25, 26, 27, 28, 29, 30, 31, 32, 33, 34, 35, 36, 37, 38, 39, 40, 41, 42, 43, 44, 45, 46, 47, 48, 49, 50, 51, 52, 53, 54, 55, 56, 57, 58, 59, 60, 61, 62, 63, 64, 65, 66, 67, 68, 69, 70, 71, 72, 73, 74, 78, 79, 80, 81, 82, 83, 84, 85, 86, 87, 88, 89, 90, 91, 92, 93, 94, 95, 96, 97, 98, 99, 100, 101, 102, 103, 104, 105, 106, 107, 108, 109, 110, 111, 112, 113, 114, 115, 116, 117, 118, 119, 120, 121, 122, 123, 124, 125, 126, 127, 128, 129, 130, 131, 132, 133, 134, 135, 136, 137, 138, 139, 140, 141, 142, 143] | 100001 => [0, 3, 5, 6, 7, 8, 9, 10, 11, 12, 13, 14, 15, 16, 17, 18, 19, 20, 21, 22, 23, 24, 25, 26, 27, 28, 29, 30, 31, 32, 33, 34, 35, 36, 37, 38, 39, 40, 41, 42, 43, 44, 45, 46, 47, 48, 49, 50, 51, 52, 53, 54, 55, 56, 57, 58, 59, 60, 61, 62, 63, 64, 65, 66, 67, 68, 69, 70, 71, 72, 73, 74, 75, 76, 77, 78, 79, 80, 81, 82, 83, 84, 85, 86, 87, 88, 89, 90, 91, 92, 93, 94, 95, 96, 97, 98, 99, 100, 101, 102, 103, 104, 105, 106, 107, 108, 109, 110, 111, 112, 113, 114, 115, 116, 117, 118, 119, 120, 121, 122, 123, 124, 125, 126, 127, 128, 129, 130, 131, 132, 133, 134, 135, 136, 137, 138, 139, 140, 141, 142, 143] | 200001 => [40] | 200011 => [64] | 200016 => [98] | 200022 => [105] | 200028 => [128] | _ => []
def ps_impl_NodeFault_1 : List (Pat RT) := [.flat .dead, .flat (.ref 0 0), .flat .dead, .flat .dead, .flat (.ref 1 0), .flat .dead, .flat .dead, .flat .dead, .flat .dead, .flat .dead, .flat .dead, .flat .dead, .flat .dead, .flat .dead, .flat .dead, .flat .dead, .flat .dead, .flat .dead, .flat .dead, .flat .dead, .flat .dead, .flat .dead, .flat .dead, .flat .dead, .flat .dead, .flat .dead, .flat .dead, .flat .dead, .flat .dead, .flat .dead, .flat .dead, .flat .dead, .flat .dead, .flat .dead, .flat .dead, .flat .dead, .flat .dead, .flat .dead, .flat .dead, .flat .dead, .flat .dead, .flat .dead, .flat .dead, .flat .dead, .flat .dead, .flat .dead, .flat .dead, .flat .dead, .flat .dead, .flat .dead, .flat .dead, .flat .dead, .flat .dead, .flat .dead, .flat .dead, .flat .dead, .flat .dead, .flat .dead, .flat .dead, .flat .dead, .flat .dead, .flat .dead, .flat .dead, .flat .dead, .flat .dead, .flat .dead, .flat .dead, .flat .dead, .flat .dead, .flat .dead, .flat .dead, .flat .dead, .flat .dead, .flat .dead, .flat .dead, .flat (.rs .i64), .flat (.int .i64), .flat (.int .i64), .flat .dead, .flat .dead, .flat .dead, .flat .dead, .flat .dead, .flat .dead, .flat .dead, .flat .dead, .flat .dead, .flat .dead, .flat .dead, .flat .dead, .flat .dead, .flat .dead, .flat .dead, .flat .dead, .flat .dead, .flat .dead, .flat .dead, .flat .dead, .flat .dead, .flat .dead, .flat .dead, .flat .dead, .flat .dead, .flat .dead, .flat .dead, .flat .dead, .flat .dead, .flat .dead, .flat .dead, .flat .dead, .flat .dead, .flat .dead, .flat .dead, .flat .dead, .flat .dead, .flat .dead, .flat .dead, .flat .dead, .flat .dead, .flat .dead, .flat .dead, .flat .dead, .flat .dead, .flat .dead, .flat .dead, .flat .dead, .flat .dead, .flat .dead, .flat .dead, .flat .dead, .flat .dead, .flat .dead, .flat .dead, .flat .dead, .flat .dead, .flat .dead, .flat .dead, .flat .dead, .flat .dead, .flat .dead, .flat .dead, .flat .dead, .flat .dead, .flat .dead]
def os_impl_NodeFault_1 : List (OP RT) := [.box false [(.int .i64), (.int .i64), (.int .i64), (.int .i64), (.rs .impl_Entry), (.int .i64), (.int .i64), (.rs .i64), (.rs .i64), (.rs .i64)], .box false [(.int .i64)]]
def conv_impl_NodeFault_1 (r : Raw den ps_impl_NodeFault_1 os_impl_NodeFault_1) : ((Sl Int) × Int × Int × Int × Int × Int × (Sl S_impl_Entry) × Int × Int × (Sl Int) × (Sl Int) × (Sl Int) × Int) × (Int) := ((r.1.2.2.2.2.2.2.2.2.2.2.2.2.2.2.2.2.2.2.2.2.2.2.2.2.2.2.2.2.2.2.2.2.2.2.2.2.2.2.2.2.2.2.2.2.2.2.2.2.2.2.2.2.2.2.2.2.2.2.2.2.2.2.2.2.2.2.2.2.2.2.2.2.2.2.2.1, r.1.2.2.2.2.2.2.2.2.2.2.2.2.2.2.2.2.2.2.2.2.2.2.2.2.2.2.2.2.2.2.2.2.2.2.2.2.2.2.2.2.2.2.2.2.2.2.2.2.2.2.2.2.2.2.2.2.2.2.2.2.2.2.2.2.2.2.2.2.2.2.2.2.2.2.2.2.1, r.2.1.1, r.2.1.2.1, r.2.1.2.2.1, r.2.1.2.2.2.1, r.2.1.2.2.2.2.1, r.2.1.2.2.2.2.2.1, r.2.1.2.2.2.2.2.2.1, r.2.1.2.2.2.2.2.2.2.1, r.2.1.2.2.2.2.2.2.2.2.1, r.2.1.2.2.2.2.2.2.2.2.2.1, r.2.2.1.1), r.1.2.2.2.2.2.2.2.2.2.2.2.2.2.2.2.2.2.2.2.2.2.2.2.2.2.2.2.2.2.2.2.2.2.2.2.2.2.2.2.2.2.2.2.2.2.2.2.2.2.2.2.2.2.2.2.2.2.2.2.2.2.2.2.2.2.2.2.2.2.2.2.2.2.2.2.2.2.1)
def back_impl_NodeFault_1 (c : (Sl Int) × Int × Int × Int × Int × Int × (Sl S_impl_Entry) × Int × Int × (Sl Int) × (Sl Int) × (Sl Int) × Int) (w : Int) : St RT den := ⟨[.dead, (.ref 0 0), .dead, .dead, (.ref 1 0), .dead, .dead, .dead, .dead, .dead, .dead, .dead, .dead, .dead, .dead, .dead, .dead, .dead, .dead, .dead, .dead, .dead, .dead, .dead, .dead, .dead, .dead, .dead, .dead, .dead, .dead, .dead, .dead, .dead, .dead, .dead, .dead, .dead, .dead, .dead, .dead, .dead, .dead, .dead, .dead, .dead, .dead, .dead, .dead, .dead, .dead, .dead, .dead, .dead, .dead, .dead, .dead, .dead, .dead, .dead, .dead, .dead, .dead, .dead, .dead, .dead, .dead, .dead, .dead, .dead, .dead, .dead, .dead, .dead, .dead, (.rs c.1.z .i64 c.1.n c.1.f), (.int .i64 c.2.1), (.int .i64 w), .dead, .dead, .dead, .dead, .dead, .dead, .dead, .dead, .dead, .dead, .dead, .dead, .dead, .dead, .dead, .dead, .dead, .dead, .dead, .dead, .dead, .dead, .dead, .dead, .dead, .dead, .dead, .dead, .dead, .dead, .dead, .dead, .dead, .dead, .dead, .dead, .dead, .dead, .dead, .dead, .dead, .dead, .dead, .dead, .dead, .dead, .dead, .dead, .dead, .dead, .dead, .dead, .dead, .dead, .dead, .dead, .dead, .dead, .dead, .dead, .dead, .dead, .dead, .dead, .dead, .dead], [(.box false [(.int .i64 c.2.2.1), (.int .i64 c.2.2.2.1), (.int .i64 c.2.2.2.2.1), (.int .i64 c.2.2.2.2.2.1), (.rs c.2.2.2.2.2.2.1.z .impl_Entry c.2.2.2.2.2.2.1.n c.2.2.2.2.2.2.1.f), (.int .i64 c.2.2.2.2.2.2.2.1), (.int .i64 c.2.2.2.2.2.2.2.2.1), (.rs c.2.2.2.2.2.2.2.2.2.1.z .i64 c.2.2.2.2.2.2.2.2.2.1.n c.2.2.2.2.2.2.2.2.2.1.f), (.rs c.2.2.2.2.2.2.2.2.2.2.1.z .i64 c.2.2.2.2.2.2.2.2.2.2.1.n c.2.2.2.2.2.2.2.2.2.2.1.f), (.rs c.2.2.2.2.2.2.2.2.2.2.2.1.z .i64 c.2.2.2.2.2.2.2.2.2.2.2.1.n c.2.2.2.2.2.2.2.2.2.2.2.1.f)]), (.box false [(.int .i64 c.2.2.2.2.2.2.2.2.2.2.2.2)])]⟩
def Bk_impl_NodeFault_1 {ρ : Type} (fu : Nat) (c : (Sl Int) × Int × Int × Int × Int × Int × (Sl S_impl_Entry) × Int × Int × (Sl Int) × (Sl Int) × (Sl Int) × Int) (k : Ex → St RT den → Option ρ) (w : Int) (go : (Int) → Option ρ) : Option ρ := F_impl_NodeFault_B1 fu c.1 c.2.1 c.2.2.1 c.2.2.2.1 c.2.2.2.2.1 c.2.2.2.2.2.1 c.2.2.2.2.2.2.1 c.2.2.2.2.2.2.2.1 c.2.2.2.2.2.2.2.2.1 c.2.2.2.2.2.2.2.2.2.1 c.2.2.2.2.2.2.2.2.2.2.1 c.2.2.2.2.2.2.2.2.2.2.2.1 c.2.2.2.2.2.2.2.2.2.2.2.2 (k .ret ⟨[.dead, (.ref 0 0), (.int .i64 1), .dead, (.ref 1 0), .dead, .dead, .dead, .dead, .dead, .dead, .dead, .dead, .dead, .dead, .dead, .dead, .dead, .dead, .dead, .dead, .dead, .dead, .dead, .dead, .dead, .dead, .dead, .dead, .dead, .dead, .dead, .dead, .dead, .dead, .dead, .dead, .dead, .dead, .dead, .dead, .dead, .dead, .dead, .dead, .dead, .dead, .dead, .dead, .dead, .dead, .dead, .dead, .dead, .dead, .dead, .dead, .dead, .dead, .dead, .dead, .dead, .dead, .dead, .dead, .dead, .dead, .dead, .dead, .dead, .dead, .dead, .dead, .dead, .dead, .dead, .dead, .dead, .dead, .dead, .dead, .dead, .dead, .dead, .dead, .dead, .dead, .dead, .dead, .dead, .dead, .dead, .dead, .dead, .dead, .dead, .dead, .dead, .dead, .dead, .dead, .dead, .dead, .dead, .dead, .dead, .dead, .dead, .dead, .dead, .dead, .dead, .dead, .dead, .dead, .dead, .dead, .dead, .dead, .dead, .dead, .dead, .dead, .dead, .dead, .dead, .dead, .dead, .dead, .dead, .dead, .dead, .dead, .dead, .dead, .dead, .dead, .dead, .dead, .dead, .dead, .dead, .dead, .dead], [(.box false [(.int .i64 c.2.2.1), (.int .i64 c.2.2.2.1), (.int .i64 c.2.2.2.2.1), (.int .i64 c.2.2.2.2.2.1), (.rs c.2.2.2.2.2.2.1.z .impl_Entry c.2.2.2.2.2.2.1.n c.2.2.2.2.2.2.1.f), (.int .i64 c.2.2.2.2.2.2.2.1), (.int .i64 c.2.2.2.2.2.2.2.2.1), (.rs c.2.2.2.2.2.2.2.2.2.1.z .i64 c.2.2.2.2.2.2.2.2.2.1.n c.2.2.2.2.2.2.2.2.2.1.f), (.rs c.2.2.2.2.2.2.2.2.2.2.1.z .i64 c.2.2.2.2.2.2.2.2.2.2.1.n c.2.2.2.2.2.2.2.2.2.2.1.f), (.rs c.2.2.2.2.2.2.2.2.2.2.2.1.z .i64 c.2.2.2.2.2.2.2.2.2.2.2.1.n c.2.2.2.2.2.2.2.2.2.2.2.1.f)]), (.box false [(.int .i64 c.2.2.2.2.2.2.2.2.2.2.2.2)])]⟩) (k (.exit 1) ⟨[.dead, (.ref 0 0), .dead, .dead, (.ref 1 0), .dead, .dead, .dead, .dead, .dead, .dead, .dead, .dead, .dead, .dead, .dead, .dead, .dead, .dead, .dead, .dead, .dead, .dead, .dead, .dead, .dead, .dead, .dead, .dead, .dead, .dead, .dead, .dead, .dead, .dead, .dead, .dead, .dead, .dead, .dead, .dead, .dead, .dead, .dead, .dead, .dead, .dead, .dead, .dead, .dead, .dead, .dead, .dead, .dead, .dead, .dead, .dead, .dead, .dead, .dead, .dead, .dead, .dead, .dead, .dead, .dead, .dead, .dead, .dead, .dead, .dead, .dead, .dead, .dead, .dead, .dead, .dead, .dead, .dead, .dead, .dead, .dead, .dead, .dead, .dead, .dead, .dead, .dead, .dead, .dead, .dead, .dead, .dead, .dead, .dead, .dead, .dead, .dead, .dead, .dead, .dead, .dead, .dead, .dead, .dead, .dead, .dead, .dead, .dead, .dead, .dead, .dead, .dead, .dead, .dead, .dead, .dead, .dead, .dead, .dead, .dead, .dead, .dead, .dead, .dead, .dead, .dead, .dead, .dead, .dead, .dead, .dead, .dead, .dead, .dead, .dead, .dead, .dead, .dead, .dead, .dead, .dead, .dead, .dead], [(.box false [(.int .i64 c.2.2.1), (.int .i64 c.2.2.2.1), (.int .i64 c.2.2.2.2.1), (.int .i64 c.2.2.2.2.2.1), (.rs c.2.2.2.2.2.2.1.z .impl_Entry c.2.2.2.2.2.2.1.n c.2.2.2.2.2.2.1.f), (.int .i64 c.2.2.2.2.2.2.2.1), (.int .i64 c.2.2.2.2.2.2.2.2.1), (.rs c.2.2.2.2.2.2.2.2.2.1.z .i64 c.2.2.2.2.2.2.2.2.2.1.n c.2.2.2.2.2.2.2.2.2.1.f), (.rs c.2.2.2.2.2.2.2.2.2.2.1.z .i64 c.2.2.2.2.2.2.2.2.2.2.1.n c.2.2.2.2.2.2.2.2.2.2.1.f), (.rs c.2.2.2.2.2.2.2.2.2.2.2.1.z .i64 c.2.2.2.2.2.2.2.2.2.2.2.1.n c.2.2.2.2.2.2.2.2.2.2.2.1.f)]), (.box false [(.int .i64 c.2.2.2.2.2.2.2.2.2.2.2.2)])]⟩) w go
def lp_impl_NodeFault (fu : Nat) : Lp RT den (Int) := fun b s k => match b with | 1 => handle ps_impl_NodeFault_1 os_impl_NodeFault_1 conv_impl_NodeFault_1 (Bk_impl_NodeFault_1 fu) fu s k | _ => none
theorem ev_impl_NodeFault (fu : Nat) (t_0 : S_impl_Node) : evFun E (pc_impl_NodeFault fu) msk_impl_NodeFault (lp_impl_NodeFault fu) out_i64 33 [(.agg [(.int .i64 t_0.Id), (.int .i64 t_0.Peers), (.int .i64 t_0.Term), (.int .i64 t_0.Voted), (.rs t_0.Log.z .impl_Entry t_0.Log.n t_0.Log.f), (.int .i64 t_0.Role), (.int .i64 t_0.Commit), (.rs t_0.Votes.z .i64 t_0.Votes.n t_0.Votes.f), (.rs t_0.Next.z .i64 t_0.Next.n t_0.Next.f), (.rs t_0.Match.z .i64 t_0.Match.n t_0.Match.f)])] = F_impl_NodeFault fu t_0 := by kernel_rfl
noncomputable def body_impl_NodeFault : Code := Try.f33.body.getD .skip
noncomputable def lc_impl_NodeFault_1 : Code := ((loops 0 body_impl_NodeFault).getD 0 (0, .skip)).2
theorem round_impl_NodeFault_1 (fu : Nat) (it : St RT den → Option (Int)) (k : Ex → St RT den → Option (Int)) c w : evCode E (pc_impl_NodeFault fu) msk_impl_NodeFault (lp_impl_NodeFault fu) 1 lc_impl_NodeFault_1 (back_impl_NodeFault_1 c w) (after (msk_impl_NodeFault 1) (msk_impl_NodeFault 100001) 2 it k) = Bk_impl_NodeFault_1 fu c k w (fun w => it (back_impl_NodeFault_1 c w)) := by kernel_rfl
theorem lpok_impl_NodeFault_1 (fu : Nat) : ∀ s k r, lp_impl_NodeFault fu 1 s k = some r → ∃ fuel, iter (msk_impl_NodeFault 1) (msk_impl_NodeFault 100001) s.objs.length (evCode E (pc_impl_NodeFault fu) msk_impl_NodeFault (lp_impl_NodeFault fu) 1 lc_impl_NodeFault_1) fuel s k = some r :=
  handle_ok (ps := ps_impl_NodeFault_1) (os := os_impl_NodeFault_1) (conv := conv_impl_NodeFault_1) (B := Bk_impl_NodeFault_1 fu) (fu := fu) back_impl_NodeFault_1 (fun raw => by kernel_rfl) 2 (fun c w => by kernel_rfl) (round_impl_NodeFault_1 fu)
theorem lpok_impl_NodeFault (fu : Nat) : LpOk E (pc_impl_NodeFault fu) msk_impl_NodeFault (lp_impl_NodeFault fu) (loops 0 body_impl_NodeFault) := loop_all 1 (by kernel_rfl) fun i hi => match i, hi with
  | 0, _ => by
    have h : (loops 0 body_impl_NodeFault).getD 0 (0, .skip) = (1, lc_impl_NodeFault_1) := by kernel_rfl
    rw [h]; exact lpok_impl_NodeFault_1 fu
  | i + 1, hi => absurd hi (by omega)
def S_impl_NodeFault (fu : Nat) (xs : List (D RT den)) : Option (Out RT den) := match xs with | [.agg [.int .i64 a0_1, .int .i64 a0_2, .int .i64 a0_3, .int .i64 a0_4, .rs za0_5 .impl_Entry na0_5 fa0_5, .int .i64 a0_6, .int .i64 a0_7, .rs za0_8 .i64 na0_8 fa0_8, .rs za0_9 .i64 na0_9 fa0_9, .rs za0_10 .i64 na0_10 fa0_10]] => some ⟨Int, F_impl_NodeFault fu (⟨a0_1, a0_2, a0_3, a0_4, (⟨za0_5, na0_5, fa0_5⟩ : (Sl S_impl_Entry)), a0_6, a0_7, (⟨za0_8, na0_8, fa0_8⟩ : (Sl Int)), (⟨za0_9, na0_9, fa0_9⟩ : (Sl Int)), (⟨za0_10, na0_10, fa0_10⟩ : (Sl Int))⟩ : S_impl_Node), enc_i64, fun _ => true⟩ | _ => none
theorem hpc_impl_NodeFault (fu : Nat) : ∀ f xs o, pcf_impl_NodeFault fu f xs = some o → ∀ y, o.x = some y → Good E Try.prog f xs (o.g y) := by
  intro f xs o h
  unfold pcf_impl_NodeFault at h
  split at h
  · exact good_impl_LogFault fu xs o h
  · exact good_impl_last fu xs o h
  · exact good_impl_size_impl_Entry fu xs o h
  · exact good_impl_in fu xs o h
  · exact good_impl_Node_isId fu xs o h
  · exact good_impl_size_int64 fu xs o h
  · split at h
    · rename_i o' ho; cases h; exact good_slices_ContainsFunc_int64_int64_w_impl_NodeFault_c1 fu xs _ ho
    · exact good_slices_ContainsFunc_int64_int64_w_impl_NodeFault_c2 fu xs o h
  · cases h
theorem hpx_impl_NodeFault (fu : Nat) : ∀ f xs ins o, pcx_impl_NodeFault fu f xs ins = some o → ∀ y, o.x = some y → GoodX E Try.prog f xs ins (o.g y).1 (o.g y).2 := by
  intro f xs ins o h
  cases h
theorem goodv_impl_NodeFault (fu : Nat) (t_0 : S_impl_Node) (y : Int) (hy : F_impl_NodeFault fu t_0 = some y) : Good E Try.prog 33 [(.agg [(.int .i64 t_0.Id), (.int .i64 t_0.Peers), (.int .i64 t_0.Term), (.int .i64 t_0.Voted), (.rs t_0.Log.z .impl_Entry t_0.Log.n t_0.Log.f), (.int .i64 t_0.Role), (.int .i64 t_0.Commit), (.rs t_0.Votes.z .i64 t_0.Votes.n t_0.Votes.f), (.rs t_0.Next.z .i64 t_0.Next.n t_0.Next.f), (.rs t_0.Match.z .i64 t_0.Match.n t_0.Match.f)])] (enc_i64 y) :=
  fun_good E_ok (pc_good (pc := pc_impl_NodeFault fu) (hpc_impl_NodeFault fu) (hpx_impl_NodeFault fu)) (fn := Try.f33) (c := body_impl_NodeFault) (out := out_i64) (y := y) (by kernel_rfl) (by kernel_rfl) (by kernel_rfl) (lpok_impl_NodeFault fu) (fun d hd => out_i64_enc d _ hd) ((ev_impl_NodeFault fu t_0).trans hy)
theorem good_impl_NodeFault (fu : Nat) : ∀ xs o, S_impl_NodeFault fu xs = some o → ∀ y, o.x = some y → Good E Try.prog 33 xs (o.g y) := by
  intro xs o h y hy
  unfold S_impl_NodeFault at h
  split at h
  · rename_i a0_1 a0_2 a0_3 a0_4 za0_5 na0_5 fa0_5 a0_6 a0_7 za0_8 na0_8 fa0_8 za0_9 na0_9 fa0_9 za0_10 na0_10 fa0_10
    cases h
    exact goodv_impl_NodeFault fu (⟨a0_1, a0_2, a0_3, a0_4, (⟨za0_5, na0_5, fa0_5⟩ : (Sl S_impl_Entry)), a0_6, a0_7, (⟨za0_8, na0_8, fa0_8⟩ : (Sl Int)), (⟨za0_9, na0_9, fa0_9⟩ : (Sl Int)), (⟨za0_10, na0_10, fa0_10⟩ : (Sl Int))⟩ : S_impl_Node) y hy
  · cases h

/-! impl.leadFault -/
def F_impl_leadFault (fu : Nat) (n_0 : S_impl_Node) : Option (Int) :=
  ((F_impl_NodeFault fu n_0).bind fun y171 => (((bif (y171 == 0) then (some (n_0.Role != 2)) else (some false)) : Option Bool).bind fun m172 => (bif m172 then (some 10) else (some y171))))
def pcf_impl_leadFault (fu : Nat) (f : Nat) (xs : List (D RT den)) : Option (Out RT den) := match f with | 33 => S_impl_NodeFault fu xs | _ => none
def pcx_impl_leadFault (fu : Nat) (f : Nat) (xs : List (D RT den)) (ins : List (Ob RT den)) : Option (OutX RT den) := none
def pc_impl_leadFault (fu : Nat) : Pc RT den := ⟨pcf_impl_leadFault fu, fun _ => false, fun _ => false, pcx_impl_leadFault fu⟩
def msk_impl_leadFault (b : Nat) : List Nat := match b with | 200002 => [12] | _ => []
def lp_impl_leadFault (fu : Nat) : Lp RT den (Int) := fun b s k => none
theorem ev_impl_leadFault (fu : Nat) (n_0 : S_impl_Node) : evFun E (pc_impl_leadFault fu) msk_impl_leadFault (lp_impl_leadFault fu) out_i64 42 [(.agg [(.int .i64 n_0.Id), (.int .i64 n_0.Peers), (.int .i64 n_0.Term), (.int .i64 n_0.Voted), (.rs n_0.Log.z .impl_Entry n_0.Log.n n_0.Log.f), (.int .i64 n_0.Role), (.int .i64 n_0.Commit), (.rs n_0.Votes.z .i64 n_0.Votes.n n_0.Votes.f), (.rs n_0.Next.z .i64 n_0.Next.n n_0.Next.f), (.rs n_0.Match.z .i64 n_0.Match.n n_0.Match.f)])] = F_impl_leadFault fu n_0 := by kernel_rfl
noncomputable def body_impl_leadFault : Code := Try.f42.body.getD .skip
theorem lpok_impl_leadFault (fu : Nat) : LpOk E (pc_impl_leadFault fu) msk_impl_leadFault (lp_impl_leadFault fu) (loops 0 body_impl_leadFault) := by
  have h : loops 0 body_impl_leadFault = [] := by kernel_rfl
  rw [h]; intro p hp; cases hp
def S_impl_leadFault (fu : Nat) (xs : List (D RT den)) : Option (Out RT den) := match xs with | [.agg [.int .i64 a0_1, .int .i64 a0_2, .int .i64 a0_3, .int .i64 a0_4, .rs za0_5 .impl_Entry na0_5 fa0_5, .int .i64 a0_6, .int .i64 a0_7, .rs za0_8 .i64 na0_8 fa0_8, .rs za0_9 .i64 na0_9 fa0_9, .rs za0_10 .i64 na0_10 fa0_10]] => some ⟨Int, F_impl_leadFault fu (⟨a0_1, a0_2, a0_3, a0_4, (⟨za0_5, na0_5, fa0_5⟩ : (Sl S_impl_Entry)), a0_6, a0_7, (⟨za0_8, na0_8, fa0_8⟩ : (Sl Int)), (⟨za0_9, na0_9, fa0_9⟩ : (Sl Int)), (⟨za0_10, na0_10, fa0_10⟩ : (Sl Int))⟩ : S_impl_Node), enc_i64, fun _ => true⟩ | _ => none
theorem hpc_impl_leadFault (fu : Nat) : ∀ f xs o, pcf_impl_leadFault fu f xs = some o → ∀ y, o.x = some y → Good E Try.prog f xs (o.g y) := by
  intro f xs o h
  unfold pcf_impl_leadFault at h
  split at h
  · exact good_impl_NodeFault fu xs o h
  · cases h
theorem hpx_impl_leadFault (fu : Nat) : ∀ f xs ins o, pcx_impl_leadFault fu f xs ins = some o → ∀ y, o.x = some y → GoodX E Try.prog f xs ins (o.g y).1 (o.g y).2 := by
  intro f xs ins o h
  cases h
theorem goodv_impl_leadFault (fu : Nat) (n_0 : S_impl_Node) (y : Int) (hy : F_impl_leadFault fu n_0 = some y) : Good E Try.prog 42 [(.agg [(.int .i64 n_0.Id), (.int .i64 n_0.Peers), (.int .i64 n_0.Term), (.int .i64 n_0.Voted), (.rs n_0.Log.z .impl_Entry n_0.Log.n n_0.Log.f), (.int .i64 n_0.Role), (.int .i64 n_0.Commit), (.rs n_0.Votes.z .i64 n_0.Votes.n n_0.Votes.f), (.rs n_0.Next.z .i64 n_0.Next.n n_0.Next.f), (.rs n_0.Match.z .i64 n_0.Match.n n_0.Match.f)])] (enc_i64 y) :=
  fun_good E_ok (pc_good (pc := pc_impl_leadFault fu) (hpc_impl_leadFault fu) (hpx_impl_leadFault fu)) (fn := Try.f42) (c := body_impl_leadFault) (out := out_i64) (y := y) (by kernel_rfl) (by kernel_rfl) (by kernel_rfl) (lpok_impl_leadFault fu) (fun d hd => out_i64_enc d _ hd) ((ev_impl_leadFault fu n_0).trans hy)
theorem good_impl_leadFault (fu : Nat) : ∀ xs o, S_impl_leadFault fu xs = some o → ∀ y, o.x = some y → Good E Try.prog 42 xs (o.g y) := by
  intro xs o h y hy
  unfold S_impl_leadFault at h
  split at h
  · rename_i a0_1 a0_2 a0_3 a0_4 za0_5 na0_5 fa0_5 a0_6 a0_7 za0_8 na0_8 fa0_8 za0_9 na0_9 fa0_9 za0_10 na0_10 fa0_10
    cases h
    exact goodv_impl_leadFault fu (⟨a0_1, a0_2, a0_3, a0_4, (⟨za0_5, na0_5, fa0_5⟩ : (Sl S_impl_Entry)), a0_6, a0_7, (⟨za0_8, na0_8, fa0_8⟩ : (Sl Int)), (⟨za0_9, na0_9, fa0_9⟩ : (Sl Int)), (⟨za0_10, na0_10, fa0_10⟩ : (Sl Int))⟩ : S_impl_Node) y hy
  · cases h

/-! impl.AskNode -/
def F_impl_AskNode_H (fu : Nat) (n_0 : S_impl_Node) (x_1 : S_impl_Entry) : Option (S_impl_NodeResult) :=
  ((F_impl_leadFault fu n_0).bind fun y161 => (bif (y161 == 0) then ((F_impl_EntryFault fu x_1).bind fun y162 => (bif (y162 != 0) then (some (⟨y162, (⟨0, 0, 0, 0, (⟨(some true), 0,
    (fun _ => dflt .impl_Entry)⟩ : (Sl S_impl_Entry)), 0, 0, (⟨(some true), 0, (fun _ => dflt .i64)⟩ : (Sl Int)), (⟨(some true), 0, (fun _ => dflt .i64)⟩ : (Sl Int)), (⟨(some true),
    0, (fun _ => dflt .i64)⟩ : (Sl Int))⟩ : S_impl_Node), (⟨(some true), 0, (fun _ => dflt .impl_Mail)⟩ : (Sl S_impl_Mail))⟩ : S_impl_NodeResult)) else (bif (x_1.Term != n_0.Term) then
    (some (⟨1, (⟨0, 0, 0, 0, (⟨(some true), 0, (fun _ => dflt .impl_Entry)⟩ : (Sl S_impl_Entry)), 0, 0, (⟨(some true), 0, (fun _ => dflt .i64)⟩ : (Sl Int)), (⟨(some true), 0, (fun _ =>
    dflt .i64)⟩ : (Sl Int)), (⟨(some true), 0, (fun _ => dflt .i64)⟩ : (Sl Int))⟩ : S_impl_Node), (⟨(some true), 0, (fun _ => dflt .impl_Mail)⟩ : (Sl S_impl_Mail))⟩ : S_impl_NodeResult)) else
    (bif (((n_0.Log.n : Nat) : Int) == 40) then (some (⟨2, (⟨0, 0, 0, 0, (⟨(some true), 0, (fun _ => dflt .impl_Entry)⟩ : (Sl S_impl_Entry)), 0, 0, (⟨(some true), 0, (fun _ => dflt .i64)⟩ : (Sl Int)),
    (⟨(some true), 0, (fun _ => dflt .i64)⟩ : (Sl Int)), (⟨(some true), 0, (fun _ => dflt .i64)⟩ : (Sl Int))⟩ : S_impl_Node), (⟨(some true), 0, (fun _ => dflt .impl_Mail)⟩ : (Sl S_impl_Mail))⟩ : S_impl_NodeResult)) else
    ((F_impl_Node_copied_H fu n_0).bind fun y163 => (bif (decide ((y163.Log.n + 1) ≤ 9223372036854775807) && decide ((y163.Log.n + 1) * 72 ≤ 140737488355328)) then
    ((F_impl_size_impl_Entry fu (⟨none, (y163.Log.n + 1), (fun i => if i < y163.Log.n then (y163.Log.f i) else ((fun i => [x_1].getD i (dflt .impl_Entry)) (i - y163.Log.n)))⟩ : (Sl S_impl_Entry))).bind fun y164 =>
    ((F_impl_size_impl_Entry fu (⟨none, (y163.Log.n + 1), (fun i => if i < y163.Log.n then (y163.Log.f i) else ((fun i => [x_1].getD i (dflt .impl_Entry)) (i - y163.Log.n)))⟩ : (Sl S_impl_Entry))).bind fun y165 =>
    ((bif (decide (0 ≤ n_0.Id) && decide ((Int.toNat n_0.Id) < y163.Match.n)) then some () else none : Option Unit).bind fun _ => ((bif (decide (0 ≤ n_0.Id) && decide ((Int.toNat n_0.Id) < y163.Next.n)) then
    some () else none : Option Unit).bind fun _ => ((F_impl_Node_agree_M fu y163.Id y163.Peers y163.Term y163.Voted (y163.Log.n + 1) y163.Role y163.Commit y163.Votes.n y163.Next.n y163.Match.n (y163.Log.n + 1) (fun i =>
    if i < y163.Log.n then (y163.Log.f i) else ((fun i => [x_1].getD i (dflt .impl_Entry)) (i - y163.Log.n))) y163.Votes.n y163.Votes.f y163.Next.n (fun j => if j = (Int.toNat n_0.Id) then
    (IntKind.wrap .i64 (y165 + 1)) else y163.Next.f j) y163.Match.n (fun j => if j = (Int.toNat n_0.Id) then y164 else y163.Match.f j)).bind fun y166 => (some (⟨0, (⟨y166.1,
    y166.2.1, y166.2.2.1, y166.2.2.2.1, (⟨none, y166.2.2.2.2.1, y166.2.2.2.2.2.2.2.2.2.2.2.1⟩ : (Sl S_impl_Entry)), y166.2.2.2.2.2.1, y166.2.2.2.2.2.2.1, (⟨none,
    y166.2.2.2.2.2.2.2.1, y166.2.2.2.2.2.2.2.2.2.2.2.2.2.1⟩ : (Sl Int)), (⟨none, y166.2.2.2.2.2.2.2.2.1, y166.2.2.2.2.2.2.2.2.2.2.2.2.2.2.2.1⟩ : (Sl Int)), (⟨none,
    y166.2.2.2.2.2.2.2.2.2.1, y166.2.2.2.2.2.2.2.2.2.2.2.2.2.2.2.2.2⟩ : (Sl Int))⟩ : S_impl_Node), (⟨(some true), 0, (fun _ => dflt .impl_Mail)⟩ : (Sl S_impl_Mail))⟩ : S_impl_NodeResult))))))) else
    none)))))) else (bif (y161 != 0) then (some (⟨y161, (⟨0, 0, 0, 0, (⟨(some true), 0, (fun _ => dflt .impl_Entry)⟩ : (Sl S_impl_Entry)), 0, 0, (⟨(some true), 0, (fun _ => dflt .i64)⟩ : (Sl Int)),
    (⟨(some true), 0, (fun _ => dflt .i64)⟩ : (Sl Int)), (⟨(some true), 0, (fun _ => dflt .i64)⟩ : (Sl Int))⟩ : S_impl_Node), (⟨(some true), 0, (fun _ => dflt .impl_Mail)⟩ : (Sl S_impl_Mail))⟩ : S_impl_NodeResult)) else
    (bif (x_1.Term != n_0.Term) then (some (⟨1, (⟨0, 0, 0, 0, (⟨(some true), 0, (fun _ => dflt .impl_Entry)⟩ : (Sl S_impl_Entry)), 0, 0, (⟨(some true), 0, (fun _ => dflt .i64)⟩ : (Sl Int)),
    (⟨(some true), 0, (fun _ => dflt .i64)⟩ : (Sl Int)), (⟨(some true), 0, (fun _ => dflt .i64)⟩ : (Sl Int))⟩ : S_impl_Node), (⟨(some true), 0, (fun _ => dflt .impl_Mail)⟩ : (Sl S_impl_Mail))⟩ : S_impl_NodeResult)) else
    (bif (((n_0.Log.n : Nat) : Int) == 40) then (some (⟨2, (⟨0, 0, 0, 0, (⟨(some true), 0, (fun _ => dflt .impl_Entry)⟩ : (Sl S_impl_Entry)), 0, 0, (⟨(some true), 0, (fun _ => dflt .i64)⟩ : (Sl Int)),
    (⟨(some true), 0, (fun _ => dflt .i64)⟩ : (Sl Int)), (⟨(some true), 0, (fun _ => dflt .i64)⟩ : (Sl Int))⟩ : S_impl_Node), (⟨(some true), 0, (fun _ => dflt .impl_Mail)⟩ : (Sl S_impl_Mail))⟩ : S_impl_NodeResult)) else
    ((F_impl_Node_copied_H fu n_0).bind fun y167 => (bif (decide ((y167.Log.n + 1) ≤ 9223372036854775807) && decide ((y167.Log.n + 1) * 72 ≤ 140737488355328)) then
    ((F_impl_size_impl_Entry fu (⟨none, (y167.Log.n + 1), (fun i => if i < y167.Log.n then (y167.Log.f i) else ((fun i => [x_1].getD i (dflt .impl_Entry)) (i - y167.Log.n)))⟩ : (Sl S_impl_Entry))).bind fun y168 =>
    ((F_impl_size_impl_Entry fu (⟨none, (y167.Log.n + 1), (fun i => if i < y167.Log.n then (y167.Log.f i) else ((fun i => [x_1].getD i (dflt .impl_Entry)) (i - y167.Log.n)))⟩ : (Sl S_impl_Entry))).bind fun y169 =>
    ((bif (decide (0 ≤ n_0.Id) && decide ((Int.toNat n_0.Id) < y167.Match.n)) then some () else none : Option Unit).bind fun _ => ((bif (decide (0 ≤ n_0.Id) && decide ((Int.toNat n_0.Id) < y167.Next.n)) then
    some () else none : Option Unit).bind fun _ => ((F_impl_Node_agree_M fu y167.Id y167.Peers y167.Term y167.Voted (y167.Log.n + 1) y167.Role y167.Commit y167.Votes.n y167.Next.n y167.Match.n (y167.Log.n + 1) (fun i =>
    if i < y167.Log.n then (y167.Log.f i) else ((fun i => [x_1].getD i (dflt .impl_Entry)) (i - y167.Log.n))) y167.Votes.n y167.Votes.f y167.Next.n (fun j => if j = (Int.toNat n_0.Id) then
    (IntKind.wrap .i64 (y169 + 1)) else y167.Next.f j) y167.Match.n (fun j => if j = (Int.toNat n_0.Id) then y168 else y167.Match.f j)).bind fun y170 => (some (⟨0, (⟨y170.1,
    y170.2.1, y170.2.2.1, y170.2.2.2.1, (⟨none, y170.2.2.2.2.1, y170.2.2.2.2.2.2.2.2.2.2.2.1⟩ : (Sl S_impl_Entry)), y170.2.2.2.2.2.1, y170.2.2.2.2.2.2.1, (⟨none,
    y170.2.2.2.2.2.2.2.1, y170.2.2.2.2.2.2.2.2.2.2.2.2.2.1⟩ : (Sl Int)), (⟨none, y170.2.2.2.2.2.2.2.2.1, y170.2.2.2.2.2.2.2.2.2.2.2.2.2.2.2.1⟩ : (Sl Int)), (⟨none,
    y170.2.2.2.2.2.2.2.2.2.1, y170.2.2.2.2.2.2.2.2.2.2.2.2.2.2.2.2.2⟩ : (Sl Int))⟩ : S_impl_Node), (⟨(some true), 0, (fun _ => dflt .impl_Mail)⟩ : (Sl S_impl_Mail))⟩ : S_impl_NodeResult))))))) else
    none)))))))
def pcf_impl_AskNode_H (fu : Nat) (f : Nat) (xs : List (D RT den)) : Option (Out RT den) := match f with | 42 => S_impl_leadFault fu xs | 48 => S_impl_size_impl_Entry fu xs | 60 => S_impl_EntryFault fu xs | _ => none
def pcx_impl_AskNode_H (fu : Nat) (f : Nat) (xs : List (D RT den)) (ins : List (Ob RT den)) : Option (OutX RT den) := match f with | 43 => S_impl_Node_copied_H fu xs ins | 61 => S_impl_Node_agree_M fu xs ins | _ => none
def pc_impl_AskNode_H (fu : Nat) : Pc RT den := ⟨pcf_impl_AskNode_H fu, fun f => match f with | 43 => true | 61 => true | _ => false, fun f => match f with | 61 => true | _ => false, pcx_impl_AskNode_H fu⟩
def msk_impl_AskNode_H (b : Nat) : List Nat := match b with | 500012 => [1] | _ => []
def lp_impl_AskNode_H (fu : Nat) : Lp RT den (S_impl_NodeResult) := fun b s k => none
theorem ev_impl_AskNode_H (fu : Nat) (n_0 : S_impl_Node) (x_1 : S_impl_Entry) : evFunX E false (pc_impl_AskNode_H fu) msk_impl_AskNode_H (lp_impl_AskNode_H fu) out_impl_NodeResult_H 19 [(.agg [(.int .i64 n_0.Id), (.int .i64 n_0.Peers), (.int .i64 n_0.Term), (.int .i64 n_0.Voted), (.rs n_0.Log.z .impl_Entry n_0.Log.n n_0.Log.f), (.int .i64 n_0.Role), (.int .i64 n_0.Commit), (.rs n_0.Votes.z .i64 n_0.Votes.n n_0.Votes.f), (.rs n_0.Next.z .i64 n_0.Next.n n_0.Next.f), (.rs n_0.Match.z .i64 n_0.Match.n n_0.Match.f)]), (.agg [(.int .i64 x_1.Term), (.int .i64 x_1.Client), (.int .i64 x_1.Seq), (.int .i64 x_1.Cmd.Kind), (.int .i64 x_1.Cmd.Expect), (.int .i64 x_1.Cmd.Name), (.int .i64 x_1.Cmd.Addr), (.int .i64 x_1.Cmd.Number), (.int .i64 x_1.Cmd.Proto)])] [] = F_impl_AskNode_H fu n_0 x_1 := by kernel_rfl
noncomputable def body_impl_AskNode_H : Code := Try.f19.body.getD .skip
theorem lpok_impl_AskNode_H (fu : Nat) : LpOk E (pc_impl_AskNode_H fu) msk_impl_AskNode_H (lp_impl_AskNode_H fu) (loops 0 body_impl_AskNode_H) := by
  have h : loops 0 body_impl_AskNode_H = [] := by kernel_rfl
  rw [h]; intro p hp; cases hp
def S_impl_AskNode_H (fu : Nat) (xs : List (D RT den)) (ins : List (Ob RT den)) : Option (OutX RT den) := match xs, ins with | [.agg [.int .i64 a0_1, .int .i64 a0_2, .int .i64 a0_3, .int .i64 a0_4, .rs za0_5 .impl_Entry na0_5 fa0_5, .int .i64 a0_6, .int .i64 a0_7, .rs za0_8 .i64 na0_8 fa0_8, .rs za0_9 .i64 na0_9 fa0_9, .rs za0_10 .i64 na0_10 fa0_10], .agg [.int .i64 a1_1, .int .i64 a1_2, .int .i64 a1_3, .int .i64 a1_5, .int .i64 a1_6, .int .i64 a1_7, .int .i64 a1_8, .int .i64 a1_9, .int .i64 a1_10]], [] => some ⟨S_impl_NodeResult, F_impl_AskNode_H fu (⟨a0_1, a0_2, a0_3, a0_4, (⟨za0_5, na0_5, fa0_5⟩ : (Sl S_impl_Entry)), a0_6, a0_7, (⟨za0_8, na0_8, fa0_8⟩ : (Sl Int)), (⟨za0_9, na0_9, fa0_9⟩ : (Sl Int)), (⟨za0_10, na0_10, fa0_10⟩ : (Sl Int))⟩ : S_impl_Node) (⟨a1_1, a1_2, a1_3, (⟨a1_5, a1_6, a1_7, a1_8, a1_9, a1_10⟩ : S_impl_Cmd)⟩ : S_impl_Entry), enc_impl_NodeResult_H⟩ | _, _ => none
theorem hpc_impl_AskNode_H (fu : Nat) : ∀ f xs o, pcf_impl_AskNode_H fu f xs = some o → ∀ y, o.x = some y → Good E Try.prog f xs (o.g y) := by
  intro f xs o h
  unfold pcf_impl_AskNode_H at h
  split at h
  · exact good_impl_leadFault fu xs o h
  · exact good_impl_size_impl_Entry fu xs o h
  · exact good_impl_EntryFault fu xs o h
  · cases h
theorem hpx_impl_AskNode_H (fu : Nat) : ∀ f xs ins o, pcx_impl_AskNode_H fu f xs ins = some o → ∀ y, o.x = some y → GoodX E Try.prog f xs ins (o.g y).1 (o.g y).2 := by
  intro f xs ins o h
  unfold pcx_impl_AskNode_H at h
  split at h
  · exact good_impl_Node_copied_H fu xs ins o h
  · exact good_impl_Node_agree_M fu xs ins o h
  · cases h
theorem goodv_impl_AskNode_H (fu : Nat) (n_0 : S_impl_Node) (x_1 : S_impl_Entry) (y : S_impl_NodeResult) (hy : F_impl_AskNode_H fu n_0 x_1 = some y) : GoodX E Try.prog 19 [(.agg [(.int .i64 n_0.Id), (.int .i64 n_0.Peers), (.int .i64 n_0.Term), (.int .i64 n_0.Voted), (.rs n_0.Log.z .impl_Entry n_0.Log.n n_0.Log.f), (.int .i64 n_0.Role), (.int .i64 n_0.Commit), (.rs n_0.Votes.z .i64 n_0.Votes.n n_0.Votes.f), (.rs n_0.Next.z .i64 n_0.Next.n n_0.Next.f), (.rs n_0.Match.z .i64 n_0.Match.n n_0.Match.f)]), (.agg [(.int .i64 x_1.Term), (.int .i64 x_1.Client), (.int .i64 x_1.Seq), (.int .i64 x_1.Cmd.Kind), (.int .i64 x_1.Cmd.Expect), (.int .i64 x_1.Cmd.Name), (.int .i64 x_1.Cmd.Addr), (.int .i64 x_1.Cmd.Number), (.int .i64 x_1.Cmd.Proto)])] [] (enc_impl_NodeResult_H y).1 (enc_impl_NodeResult_H y).2 :=
  funX_good (ke := false) E_ok (pc_good (pc := pc_impl_AskNode_H fu) (hpc_impl_AskNode_H fu) (hpx_impl_AskNode_H fu)) (fn := Try.f19) (c := body_impl_AskNode_H) (out := out_impl_NodeResult_H) (y := y) (by kernel_rfl) (by kernel_rfl) (by kernel_rfl) (lpok_impl_AskNode_H fu) (by kernel_rfl) (Nat.zero_le _) (fun d os hd => out_impl_NodeResult_H_enc d os _ hd) ((ev_impl_AskNode_H fu n_0 x_1).trans hy)
theorem good_impl_AskNode_H (fu : Nat) : ∀ xs ins o, S_impl_AskNode_H fu xs ins = some o → ∀ y, o.x = some y → GoodX E Try.prog 19 xs ins (o.g y).1 (o.g y).2 := by
  intro xs ins o h y hy
  unfold S_impl_AskNode_H at h
  split at h
  · rename_i a0_1 a0_2 a0_3 a0_4 za0_5 na0_5 fa0_5 a0_6 a0_7 za0_8 na0_8 fa0_8 za0_9 na0_9 fa0_9 za0_10 na0_10 fa0_10 a1_1 a1_2 a1_3 a1_5 a1_6 a1_7 a1_8 a1_9 a1_10
    cases h
    exact goodv_impl_AskNode_H fu (⟨a0_1, a0_2, a0_3, a0_4, (⟨za0_5, na0_5, fa0_5⟩ : (Sl S_impl_Entry)), a0_6, a0_7, (⟨za0_8, na0_8, fa0_8⟩ : (Sl Int)), (⟨za0_9, na0_9, fa0_9⟩ : (Sl Int)), (⟨za0_10, na0_10, fa0_10⟩ : (Sl Int))⟩ : S_impl_Node) (⟨a1_1, a1_2, a1_3, (⟨a1_5, a1_6, a1_7, a1_8, a1_9, a1_10⟩ : S_impl_Cmd)⟩ : S_impl_Entry) y hy
  · cases h

/-! laws.markEntryS -/
def F_laws_markEntryS_L_B0 {ρ : Type} (fu : Nat) (a0_0 : Nat) (on0_3 : Nat) (k0 : Int → (Nat → S_impl_Entry) → Option ρ) (k1_1 : Int) (i5_2 : Int) (of0_4 : (Nat → S_impl_Entry)) (go : Int → Int → (Nat → S_impl_Entry) → Option ρ) : Option ρ :=
  (bif (decide (i5_2 < ((a0_0 : Nat) : Int))) then ((bif (decide (0 ≤ i5_2) && decide ((Int.toNat i5_2) < a0_0)) then some () else none : Option Unit).bind fun _ => ((bif (decide (0 ≤ i5_2) &&
    decide ((Int.toNat i5_2) < a0_0)) then some () else none : Option Unit).bind fun _ => ((bif (decide (0 ≤ i5_2) && decide ((Int.toNat i5_2) < a0_0)) then some () else none : Option Unit).bind fun _ =>
    ((bif (decide (0 ≤ i5_2) && decide ((Int.toNat i5_2) < a0_0)) then some () else none : Option Unit).bind fun _ => ((bif (decide (0 ≤ i5_2) && decide ((Int.toNat i5_2) < a0_0)) then
    some () else none : Option Unit).bind fun _ => ((bif (decide (0 ≤ i5_2) && decide ((Int.toNat i5_2) < a0_0)) then some () else none : Option Unit).bind fun _ => ((bif (decide (0 ≤ i5_2) &&
    decide ((Int.toNat i5_2) < a0_0)) then some () else none : Option Unit).bind fun _ => ((bif (decide (0 ≤ i5_2) && decide ((Int.toNat i5_2) < a0_0)) then some () else none : Option Unit).bind fun _ =>
    ((bif (decide (0 ≤ i5_2) && decide ((Int.toNat i5_2) < a0_0)) then some () else none : Option Unit).bind fun _ => (go (IntKind.wrap .i64 ((IntKind.wrap .i64 ((IntKind.wrap .i64 ((IntKind.wrap .i64 ((IntKind.wrap .i64 ((IntKind.wrap .i64 ((IntKind.wrap .i64 ((IntKind.wrap .i64 ((IntKind.wrap .i64 (k1_1 + 1)) + 1)) + 1)) + 1)) + 1)) + 1)) + 1)) + 1)) + 1)) (IntKind.wrap .i64 (i5_2 + 1)) (upd_impl_Entry_8_1 (upd_impl_Entry_7_1 (upd_impl_Entry_6_1 (upd_impl_Entry_5_1 (upd_impl_Entry_4_1 (upd_impl_Entry_3_1 (upd_impl_Entry_2_1 (upd_impl_Entry_1_1 (upd_impl_Entry_0_1 of0_4 (Int.toNat i5_2) k1_1) (Int.toNat i5_2) (IntKind.wrap .i64 (k1_1 + 1))) (Int.toNat i5_2) (IntKind.wrap .i64 ((IntKind.wrap .i64 (k1_1 + 1)) + 1))) (Int.toNat i5_2) (IntKind.wrap .i64 ((IntKind.wrap .i64 ((IntKind.wrap .i64 (k1_1 + 1)) + 1)) + 1))) (Int.toNat i5_2) (IntKind.wrap .i64 ((IntKind.wrap .i64 ((IntKind.wrap .i64 ((IntKind.wrap .i64 (k1_1 + 1)) + 1)) + 1)) + 1))) (Int.toNat i5_2) (IntKind.wrap .i64 ((IntKind.wrap .i64 ((IntKind.wrap .i64 ((IntKind.wrap .i64 ((IntKind.wrap .i64 (k1_1 + 1)) + 1)) + 1)) + 1)) + 1))) (Int.toNat i5_2) (IntKind.wrap .i64 ((IntKind.wrap .i64 ((IntKind.wrap .i64 ((IntKind.wrap .i64 ((IntKind.wrap .i64 ((IntKind.wrap .i64 (k1_1 + 1)) + 1)) + 1)) + 1)) + 1)) + 1))) (Int.toNat i5_2) (IntKind.wrap .i64 ((IntKind.wrap .i64 ((IntKind.wrap .i64 ((IntKind.wrap .i64 ((IntKind.wrap .i64 ((IntKind.wrap .i64 ((IntKind.wrap .i64 (k1_1 + 1)) + 1)) + 1)) + 1)) + 1)) + 1)) + 1))) (Int.toNat i5_2) (IntKind.wrap .i64 ((IntKind.wrap .i64 ((IntKind.wrap .i64 ((IntKind.wrap .i64 ((IntKind.wrap .i64 ((IntKind.wrap .i64 ((IntKind.wrap .i64 ((IntKind.wrap .i64 (k1_1 + 1)) + 1)) + 1)) + 1)) + 1)) + 1)) + 1)) + 1))))))))))))) else
    (k0 k1_1 of0_4))
def F_laws_markEntryS_L (fu : Nat) (a_0_0 : Nat) (k_1_1 : Int) (rn0 : Nat) (rf0 : (Nat → S_impl_Entry)) : Option (Int × (Nat × (Nat → S_impl_Entry))) :=
  (L (fun w0 go0 => F_laws_markEntryS_L_B0 fu a_0_0 rn0 (fun z270 z271 => (some (z270, (rn0, z271)))) w0.1 w0.2.1 w0.2.2 (fun q0 q1 q2 => go0 (q0, q1, q2))) fu ((k_1_1, 0, rf0) : Int × Int × (Nat → S_impl_Entry)))
def pcf_laws_markEntryS_L (fu : Nat) (f : Nat) (xs : List (D RT den)) : Option (Out RT den) := none
def pcx_laws_markEntryS_L (fu : Nat) (f : Nat) (xs : List (D RT den)) (ins : List (Ob RT den)) : Option (OutX RT den) := none
def pc_laws_markEntryS_L (fu : Nat) : Pc RT den := ⟨pcf_laws_markEntryS_L fu, fun _ => false, fun _ => false, pcx_laws_markEntryS_L fu⟩
def msk_laws_markEntryS_L (b : Nat) : List Nat := match b with | 0 => [2, 3, 4, 6, 7, 8, 9, 10, 11, 12, 13, 14, 15, 16, 17, 18, 19, 20, 21, 22, 23, 24, 25, 26, 27, 28, 29, 30, 31, 32, 33, 34, 35, 36, 37, 38, 39, 40, 41, 42, 43, 44, 45, 46, 47, 48, 49, 50, 51, 52, 53, 54, 55, 56, 57, 58, 59, 60, 61, 62, 63, 64, 65, 66, 67, 68, 69, 70, 71, 72, 73, 74, 75, 76, 77, 78, 79, 80, 81] | 100000 => [0, 2, 3, 5, 6, 7, 8, 9, 10, 11, 12, 13, 14, 15, 16, 17, 18, 19, 20, 21, 22, 23, 24, 25, 26, 27, 28, 29, 30, 31, 32, 33, 34, 35, 36, 37, 38, 39, 40, 41, 42, 43, 44, 45, 46, 47, 48, 49, 50, 51, 52, 53, 54, 55, 56, 57, 58, 59, 60, 61, 62, 63, 64, 65, 66, 67, 68, 69, 70, 71, 72, 73, 74, 75, 76, 77, 78, 79, 80, 81] | _ => []
def ps_laws_markEntryS_L_0 : List (Pat RT) := [.flat (.os 0), .flat (.int .i64), .flat .dead, .flat .dead, .flat .dead, .flat (.int .i64), .flat .dead, .flat .dead, .flat .dead, .flat .dead, .flat .dead, .flat .dead, .flat .dead, .flat .dead, .flat .dead, .flat .dead, .flat .dead, .flat .dead, .flat .dead, .flat .dead, .flat .dead, .flat .dead, .flat .dead, .flat .dead, .flat .dead, .flat .dead, .flat .dead, .flat .dead, .flat .dead, .flat .dead, .flat .dead, .flat .dead, .flat .dead, .flat .dead, .flat .dead, .flat .dead, .flat .dead, .flat .dead, .flat .dead, .flat .dead, .flat .dead, .flat .dead, .flat .dead, .flat .dead, .flat .dead, .flat .dead, .flat .dead, .flat .dead, .flat .dead, .flat .dead, .flat .dead, .flat .dead, .flat .dead, .flat .dead, .flat .dead, .flat .dead, .flat .dead, .flat .dead, .flat .dead, .flat .dead, .flat .dead, .flat .dead, .flat .dead, .flat .dead, .flat .dead, .flat .dead, .flat .dead, .flat .dead, .flat .dead, .flat .dead, .flat .dead, .flat .dead, .flat .dead, .flat .dead, .flat .dead, .flat .dead, .flat .dead, .flat .dead, .flat .dead, .flat .dead, .flat .dead, .flat .dead]
def os_laws_markEntryS_L_0 : List (OP RT) := [.row true .impl_Entry]
def conv_laws_markEntryS_L_0 (r : Raw den ps_laws_markEntryS_L_0 os_laws_markEntryS_L_0) : (Nat × Nat) × (Int × Int × (Nat → S_impl_Entry)) := ((r.1.1, r.2.1.1), (r.1.2.1, r.1.2.2.2.2.2.1, r.2.1.2))
def back_laws_markEntryS_L_0 (c : Nat × Nat) (w : Int × Int × (Nat → S_impl_Entry)) : St RT den := ⟨[(.os 0 c.1), (.int .i64 w.1), .dead, .dead, .dead, (.int .i64 w.2.1), .dead, .dead, .dead, .dead, .dead, .dead, .dead, .dead, .dead, .dead, .dead, .dead, .dead, .dead, .dead, .dead, .dead, .dead, .dead, .dead, .dead, .dead, .dead, .dead, .dead, .dead, .dead, .dead, .dead, .dead, .dead, .dead, .dead, .dead, .dead, .dead, .dead, .dead, .dead, .dead, .dead, .dead, .dead, .dead, .dead, .dead, .dead, .dead, .dead, .dead, .dead, .dead, .dead, .dead, .dead, .dead, .dead, .dead, .dead, .dead, .dead, .dead, .dead, .dead, .dead, .dead, .dead, .dead, .dead, .dead, .dead, .dead, .dead, .dead, .dead, .dead], [(.row true .impl_Entry c.2 w.2.2)]⟩
def Bk_laws_markEntryS_L_0 {ρ : Type} (fu : Nat) (c : Nat × Nat) (k : Ex → St RT den → Option ρ) (w : Int × Int × (Nat → S_impl_Entry)) (go : (Int × Int × (Nat → S_impl_Entry)) → Option ρ) : Option ρ := F_laws_markEntryS_L_B0 fu c.1 c.2 (fun a0 a1 => k (.exit 0) ⟨[.dead, (.int .i64 a0), .dead, .dead, .dead, .dead, .dead, .dead, .dead, .dead, .dead, .dead, .dead, .dead, .dead, .dead, .dead, .dead, .dead, .dead, .dead, .dead, .dead, .dead, .dead, .dead, .dead, .dead, .dead, .dead, .dead, .dead, .dead, .dead, .dead, .dead, .dead, .dead, .dead, .dead, .dead, .dead, .dead, .dead, .dead, .dead, .dead, .dead, .dead, .dead, .dead, .dead, .dead, .dead, .dead, .dead, .dead, .dead, .dead, .dead, .dead, .dead, .dead, .dead, .dead, .dead, .dead, .dead, .dead, .dead, .dead, .dead, .dead, .dead, .dead, .dead, .dead, .dead, .dead, .dead, .dead, .dead], [(.row true .impl_Entry c.2 a1)]⟩) w.1 w.2.1 w.2.2 (fun q0 q1 q2 => go (q0, q1, q2))
def lp_laws_markEntryS_L (fu : Nat) : Lp RT den (Int × (Nat × (Nat → S_impl_Entry))) := fun b s k => match b with | 0 => handle ps_laws_markEntryS_L_0 os_laws_markEntryS_L_0 conv_laws_markEntryS_L_0 (Bk_laws_markEntryS_L_0 fu) fu s k | _ => none
def out_laws_markEntryS_L (d : D RT den) (os : List (Ob RT den)) : Option (Int × (Nat × (Nat → S_impl_Entry))) := match d, os with | .int .i64 a0_0, [.row true .impl_Entry n0 f0] => some (a0_0, (n0, f0)) | _, _ => none
def enc_laws_markEntryS_L (y : Int × (Nat × (Nat → S_impl_Entry))) : D RT den × List (Ob RT den) := ((.int .i64 y.1), [(.row true .impl_Entry y.2.1 y.2.2)])
theorem out_laws_markEntryS_L_enc (d : D RT den) (os : List (Ob RT den)) (y : Int × (Nat × (Nat → S_impl_Entry))) (h : out_laws_markEntryS_L d os = some y) : (unh 1 d).1 = (enc_laws_markEntryS_L y).1 ∧ os ++ (unh 1 d).2 = (enc_laws_markEntryS_L y).2 := by
  unfold out_laws_markEntryS_L at h
  split at h
  · cases h; exact ⟨rfl, rfl⟩
  · cases h
theorem ev_laws_markEntryS_L (fu : Nat) (a_0_0 : Nat) (k_1_1 : Int) (rn0 : Nat) (rf0 : (Nat → S_impl_Entry)) : evFunX E false (pc_laws_markEntryS_L fu) msk_laws_markEntryS_L (lp_laws_markEntryS_L fu) out_laws_markEntryS_L 52 [(.os 0 a_0_0), (.int .i64 k_1_1)] [(.row true .impl_Entry rn0 rf0)] = F_laws_markEntryS_L fu a_0_0 k_1_1 rn0 rf0 := by kernel_rfl
noncomputable def body_laws_markEntryS_L : Code := Try.f52.body.getD .skip
noncomputable def lc_laws_markEntryS_L_0 : Code := ((loops 0 body_laws_markEntryS_L).getD 0 (0, .skip)).2
theorem round_laws_markEntryS_L_0 (fu : Nat) (it : St RT den → Option (Int × (Nat × (Nat → S_impl_Entry)))) (k : Ex → St RT den → Option (Int × (Nat × (Nat → S_impl_Entry)))) c w : evCode E (pc_laws_markEntryS_L fu) msk_laws_markEntryS_L (lp_laws_markEntryS_L fu) 0 lc_laws_markEntryS_L_0 (back_laws_markEntryS_L_0 c w) (after (msk_laws_markEntryS_L 0) (msk_laws_markEntryS_L 100000) 1 it k) = Bk_laws_markEntryS_L_0 fu c k w (fun w => it (back_laws_markEntryS_L_0 c w)) := by kernel_rfl
theorem lpok_laws_markEntryS_L_0 (fu : Nat) : ∀ s k r, lp_laws_markEntryS_L fu 0 s k = some r → ∃ fuel, iter (msk_laws_markEntryS_L 0) (msk_laws_markEntryS_L 100000) s.objs.length (evCode E (pc_laws_markEntryS_L fu) msk_laws_markEntryS_L (lp_laws_markEntryS_L fu) 0 lc_laws_markEntryS_L_0) fuel s k = some r :=
  handle_ok (ps := ps_laws_markEntryS_L_0) (os := os_laws_markEntryS_L_0) (conv := conv_laws_markEntryS_L_0) (B := Bk_laws_markEntryS_L_0 fu) (fu := fu) back_laws_markEntryS_L_0 (fun raw => by kernel_rfl) 1 (fun c w => by kernel_rfl) (round_laws_markEntryS_L_0 fu)
theorem lpok_laws_markEntryS_L (fu : Nat) : LpOk E (pc_laws_markEntryS_L fu) msk_laws_markEntryS_L (lp_laws_markEntryS_L fu) (loops 0 body_laws_markEntryS_L) := loop_all 1 (by kernel_rfl) fun i hi => match i, hi with
  | 0, _ => by
    have h : (loops 0 body_laws_markEntryS_L).getD 0 (0, .skip) = (0, lc_laws_markEntryS_L_0) := by kernel_rfl
    rw [h]; exact lpok_laws_markEntryS_L_0 fu
  | i + 1, hi => absurd hi (by omega)
def S_laws_markEntryS_L (fu : Nat) (xs : List (D RT den)) (ins : List (Ob RT den)) : Option (OutX RT den) := match xs, ins with | [.os 0 a0_0, .int .i64 a1_0], [.row true .impl_Entry rn0 rf0] => some ⟨Int × (Nat × (Nat → S_impl_Entry)), F_laws_markEntryS_L fu a0_0 a1_0 rn0 rf0, enc_laws_markEntryS_L⟩ | _, _ => none
theorem hpc_laws_markEntryS_L (fu : Nat) : ∀ f xs o, pcf_laws_markEntryS_L fu f xs = some o → ∀ y, o.x = some y → Good E Try.prog f xs (o.g y) := by
  intro f xs o h
  cases h
theorem hpx_laws_markEntryS_L (fu : Nat) : ∀ f xs ins o, pcx_laws_markEntryS_L fu f xs ins = some o → ∀ y, o.x = some y → GoodX E Try.prog f xs ins (o.g y).1 (o.g y).2 := by
  intro f xs ins o h
  cases h
theorem goodv_laws_markEntryS_L (fu : Nat) (a_0_0 : Nat) (k_1_1 : Int) (rn0 : Nat) (rf0 : (Nat → S_impl_Entry)) (y : Int × (Nat × (Nat → S_impl_Entry))) (hy : F_laws_markEntryS_L fu a_0_0 k_1_1 rn0 rf0 = some y) : GoodX E Try.prog 52 [(.os 0 a_0_0), (.int .i64 k_1_1)] [(.row true .impl_Entry rn0 rf0)] (enc_laws_markEntryS_L y).1 (enc_laws_markEntryS_L y).2 :=
  funX_good (ke := false) E_ok (pc_good (pc := pc_laws_markEntryS_L fu) (hpc_laws_markEntryS_L fu) (hpx_laws_markEntryS_L fu)) (fn := Try.f52) (c := body_laws_markEntryS_L) (out := out_laws_markEntryS_L) (y := y) (by kernel_rfl) (by kernel_rfl) (by kernel_rfl) (lpok_laws_markEntryS_L fu) (by kernel_rfl) (Nat.le_refl _) (fun d os hd => out_laws_markEntryS_L_enc d os _ hd) ((ev_laws_markEntryS_L fu a_0_0 k_1_1 rn0 rf0).trans hy)
theorem good_laws_markEntryS_L (fu : Nat) : ∀ xs ins o, S_laws_markEntryS_L fu xs ins = some o → ∀ y, o.x = some y → GoodX E Try.prog 52 xs ins (o.g y).1 (o.g y).2 := by
  intro xs ins o h y hy
  unfold S_laws_markEntryS_L at h
  split at h
  · rename_i a0_0 a1_0 rn0 rf0
    cases h
    exact goodv_laws_markEntryS_L fu a0_0 a1_0 rn0 rf0 y hy
  · cases h
end Go.Proofs.Ytohlgllpplbehaa.Pc
