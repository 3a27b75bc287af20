/- The functions' evaluated forms, each a proved summary. Conditions: none. -/
import Derived.Test.YtknnfcbagbafaaaPcF3
namespace Go.Proofs.Ytknnfcbagbafaaa.Pc
open Go Go.RowKit Go.Proofs Vm
set_option linter.unusedVariables false
set_option linter.unusedSimpArgs false
set_option maxRecDepth 100000
/-! laws.markUpdate -/
def F_laws_markUpdate_U (fu : Nat) (a_0_0 : Int) (a_0_1 : Int) (a_0_2 : Bool) (a_0_3 : Int) (a_0_4 : Nat) (a_0_5 : Nat) (a_0_6 : Nat) (k_1 : Int) (rn0 : Nat) (rf0 : (Nat → S_impl_Backend)) (dn1 : Nat) (dp1 : Nat) (df1 : (Nat → S_impl_Vip)) (rn2 : Nat) (rf2 : (Nat → S_impl_Cmd)) : Option (Int × Nat × (Nat → S_impl_Backend) × Nat × Nat × (Nat → S_impl_Vip) × Nat × (Nat → S_impl_Cmd)) :=
  ((F_laws_markConfig_U fu a_0_3 a_0_4 a_0_5 k_1 rn0 rf0 dn1 dp1 df1).bind fun y263 => ((F_laws_markCmdS_U fu a_0_6 y263.1 rn2 rf2).bind fun y266 => (some (y266.1, y263.2.1,
    y263.2.2.1, y263.2.2.2.1, y263.2.2.2.2.1, y263.2.2.2.2.2, y266.2.1, y266.2.2))))
def pcx_b23 (fu : Nat) (f : Nat) (xs : List (D RT den)) (ins : List (Ob RT den)) : Option (OutX RT den) := match f with | 36 => S_b22 fu xs ins | 47 => S_b21 fu xs ins | _ => none
def pcd_b23 : Nat → Bool := fun f => match f with | 36 => true | 47 => true | _ => false
def pc_b23 (fu : Nat) : Pc RT den := ⟨pcf0, fun f => match f with | 36 => true | 47 => true | _ => false, fun f => match f with | 36 => true | 47 => true | _ => false, pcd_b23, pcx_b23 fu⟩
def msk_b23 (b : Nat) : List Nat := []
def lp_b23 (fu : Nat) : Lp RT den (Int × Nat × (Nat → S_impl_Backend) × Nat × Nat × (Nat → S_impl_Vip) × Nat × (Nat → S_impl_Cmd)) := fun b s k => none
def pso_b23 : List (Pat RT) := [.flat (.int .i64)]
def oso_b23 : List (OP RT) := [.row true .impl_Backend, .deep true .impl_Vip, .row true .impl_Cmd]
def conv_b23 (r : Raw den pso_b23 oso_b23) : Int × Nat × (Nat → S_impl_Backend) × Nat × Nat × (Nat → S_impl_Vip) × Nat × (Nat → S_impl_Cmd) := (r.1.1, r.2.1.1, r.2.1.2, r.2.2.1.1, r.2.2.1.2.1, r.2.2.1.2.2, r.2.2.2.1.1, r.2.2.2.1.2)
def enc_b23 (y : Int × Nat × (Nat → S_impl_Backend) × Nat × Nat × (Nat → S_impl_Vip) × Nat × (Nat → S_impl_Cmd)) : D RT den × List (Ob RT den) := ((.int .i64 y.1), [(.row true .impl_Backend y.2.1 y.2.2.1), (.deep true .impl_Vip y.2.2.2.1 y.2.2.2.2.1 y.2.2.2.2.2.1), (.row true .impl_Cmd y.2.2.2.2.2.2.1 y.2.2.2.2.2.2.2)])
def out_b23 (d : D RT den) (os : List (Ob RT den)) : Option (Int × Nat × (Nat → S_impl_Backend) × Nat × Nat × (Nat → S_impl_Vip) × Nat × (Nat → S_impl_Cmd)) := (unSt pso_b23 oso_b23 ⟨[d], os⟩).bind fun v => some (conv_b23 v.1)
theorem out_b23_enc (d : D RT den) (os : List (Ob RT den)) (y : Int × Nat × (Nat → S_impl_Backend) × Nat × Nat × (Nat → S_impl_Vip) × Nat × (Nat → S_impl_Cmd)) (h : out_b23 d os = some y) : d = (enc_b23 y).1 ∧ os = (enc_b23 y).2 :=
  outM (conv := conv_b23) (enc := enc_b23) (fun raw => by kernel_rfl) h
theorem ev_b23 (fu : Nat) (a_0_0 : Int) (a_0_1 : Int) (a_0_2 : Bool) (a_0_3 : Int) (a_0_4 : Nat) (a_0_5 : Nat) (a_0_6 : Nat) (k_1 : Int) (rn0 : Nat) (rf0 : (Nat → S_impl_Backend)) (dn1 : Nat) (dp1 : Nat) (df1 : (Nat → S_impl_Vip)) (rn2 : Nat) (rf2 : (Nat → S_impl_Cmd)) : evFunU E (pc_b23 fu) msk_b23 (lp_b23 fu) out_b23 78 [(.agg [(.int .i64 a_0_0), (.int .i64 a_0_1), (.bool a_0_2), (.int .i64 a_0_3), (.os 0 a_0_4), (.os 1 a_0_5), (.os 2 a_0_6)]), (.int .i64 k_1)] [(.row true .impl_Backend rn0 rf0), (.deep true .impl_Vip dn1 dp1 df1), (.row true .impl_Cmd rn2 rf2)] = F_laws_markUpdate_U fu a_0_0 a_0_1 a_0_2 a_0_3 a_0_4 a_0_5 a_0_6 k_1 rn0 rf0 dn1 dp1 df1 rn2 rf2 := by kernel_rfl
noncomputable def body_b23 : Code := Try.f78.body.getD .skip
theorem lpok_b23 (fu : Nat) : LpOk E (pc_b23 fu) msk_b23 (lp_b23 fu) (loops 0 body_b23) := by
  have h : loops 0 body_b23 = [] := by kernel_rfl
  rw [h]; intro p hp; cases hp
def S_b23 (fu : Nat) (xs : List (D RT den)) (ins : List (Ob RT den)) : Option (OutX RT den) := match xs, ins with | [.agg [.int .i64 a0_0, .int .i64 a0_1, .bool a0_2, .int .i64 a0_3, .os 0 a0_4, .os 1 a0_5, .os 2 a0_6], .int .i64 a1_0], [.row true .impl_Backend rn0 rf0, .deep true .impl_Vip dn1 dp1 df1, .row true .impl_Cmd rn2 rf2] => some ⟨Int × Nat × (Nat → S_impl_Backend) × Nat × Nat × (Nat → S_impl_Vip) × Nat × (Nat → S_impl_Cmd), F_laws_markUpdate_U fu a0_0 a0_1 a0_2 a0_3 a0_4 a0_5 a0_6 a1_0 rn0 rf0 dn1 dp1 df1 rn2 rf2, enc_b23⟩ | _, _ => none
theorem hpx_b23 (fu : Nat) : ∀ f xs ins o, pcx_b23 fu f xs ins = some o → ∀ y, o.x = some y → GoodXD E Try.prog (pcd_b23 f) f xs ins (o.g y).1 (o.g y).2 := by
  intro f xs ins o h
  unfold pcx_b23 at h
  split at h
  · exact good_b22 fu xs ins o h
  · exact good_b21 fu xs ins o h
  · cases h
theorem goodv_b23 (fu : Nat) (a_0_0 : Int) (a_0_1 : Int) (a_0_2 : Bool) (a_0_3 : Int) (a_0_4 : Nat) (a_0_5 : Nat) (a_0_6 : Nat) (k_1 : Int) (rn0 : Nat) (rf0 : (Nat → S_impl_Backend)) (dn1 : Nat) (dp1 : Nat) (df1 : (Nat → S_impl_Vip)) (rn2 : Nat) (rf2 : (Nat → S_impl_Cmd)) (y : Int × Nat × (Nat → S_impl_Backend) × Nat × Nat × (Nat → S_impl_Vip) × Nat × (Nat → S_impl_Cmd)) (hy : F_laws_markUpdate_U fu a_0_0 a_0_1 a_0_2 a_0_3 a_0_4 a_0_5 a_0_6 k_1 rn0 rf0 dn1 dp1 df1 rn2 rf2 = some y) : GoodD E Try.prog 78 [(.agg [(.int .i64 a_0_0), (.int .i64 a_0_1), (.bool a_0_2), (.int .i64 a_0_3), (.os 0 a_0_4), (.os 1 a_0_5), (.os 2 a_0_6)]), (.int .i64 k_1)] [(.row true .impl_Backend rn0 rf0), (.deep true .impl_Vip dn1 dp1 df1), (.row true .impl_Cmd rn2 rf2)] (enc_b23 y).1 (enc_b23 y).2 :=
  funU_good E_ok (pc_good (pc := pc_b23 fu) hpc0 (hpx_b23 fu)) (fn := Try.f78) (c := body_b23) (out := out_b23) (y := y) (by kernel_rfl) (by kernel_rfl) (by kernel_rfl) (lpok_b23 fu) (by kernel_rfl) (Nat.le_of_ble_eq_true (by kernel_rfl)) (Fulls.get 3 trivial) (fun d os hd => out_b23_enc d os _ hd) ((ev_b23 fu a_0_0 a_0_1 a_0_2 a_0_3 a_0_4 a_0_5 a_0_6 k_1 rn0 rf0 dn1 dp1 df1 rn2 rf2).trans hy)
theorem good_b23 (fu : Nat) : ∀ xs ins o, S_b23 fu xs ins = some o → ∀ y, o.x = some y → GoodD E Try.prog 78 xs ins (o.g y).1 (o.g y).2 := by
  intro xs ins o h y hy
  unfold S_b23 at h
  split at h
  · rename_i a0_0 a0_1 a0_2 a0_3 a0_4 a0_5 a0_6 a1_0 rn0 rf0 dn1 dp1 df1 rn2 rf2
    cases h
    exact goodv_b23 fu a0_0 a0_1 a0_2 a0_3 a0_4 a0_5 a0_6 a1_0 rn0 rf0 dn1 dp1 df1 rn2 rf2 y hy
  · cases h

/-! laws.markUpdateResult -/
def F_laws_markUpdateResult_U (fu : Nat) (a_0_0 : Int) (a_0_1 : Int) (a_0_2 : Int) (a_0_3 : Bool) (a_0_4 : Int) (a_0_5 : Nat) (a_0_6 : Nat) (a_0_7 : Nat) (k_1 : Int) (rn0 : Nat) (rf0 : (Nat → S_impl_Backend)) (dn1 : Nat) (dp1 : Nat) (df1 : (Nat → S_impl_Vip)) (rn2 : Nat) (rf2 : (Nat → S_impl_Cmd)) : Option (Int × Nat × (Nat → S_impl_Backend) × Nat × Nat × (Nat → S_impl_Vip) × Nat × (Nat → S_impl_Cmd)) :=
  ((F_laws_markUpdate_U fu a_0_1 a_0_2 a_0_3 a_0_4 a_0_5 a_0_6 a_0_7 k_1 rn0 rf0 dn1 dp1 df1 rn2 rf2).bind fun y267 => (some (y267.1, y267.2.1, y267.2.2.1, y267.2.2.2.1,
    y267.2.2.2.2.1, y267.2.2.2.2.2.1, y267.2.2.2.2.2.2.1, y267.2.2.2.2.2.2.2)))
def pcx_b24 (fu : Nat) (f : Nat) (xs : List (D RT den)) (ins : List (Ob RT den)) : Option (OutX RT den) := match f with | 78 => S_b23 fu xs ins | _ => none
def pcd_b24 : Nat → Bool := fun f => match f with | 78 => true | _ => false
def pc_b24 (fu : Nat) : Pc RT den := ⟨pcf0, fun f => match f with | 78 => true | _ => false, fun f => match f with | 78 => true | _ => false, pcd_b24, pcx_b24 fu⟩
def msk_b24 (b : Nat) : List Nat := []
def lp_b24 (fu : Nat) : Lp RT den (Int × Nat × (Nat → S_impl_Backend) × Nat × Nat × (Nat → S_impl_Vip) × Nat × (Nat → S_impl_Cmd)) := fun b s k => none
def pso_b24 : List (Pat RT) := [.flat (.int .i64)]
def oso_b24 : List (OP RT) := [.row true .impl_Backend, .deep true .impl_Vip, .row true .impl_Cmd]
def conv_b24 (r : Raw den pso_b24 oso_b24) : Int × Nat × (Nat → S_impl_Backend) × Nat × Nat × (Nat → S_impl_Vip) × Nat × (Nat → S_impl_Cmd) := (r.1.1, r.2.1.1, r.2.1.2, r.2.2.1.1, r.2.2.1.2.1, r.2.2.1.2.2, r.2.2.2.1.1, r.2.2.2.1.2)
def enc_b24 (y : Int × Nat × (Nat → S_impl_Backend) × Nat × Nat × (Nat → S_impl_Vip) × Nat × (Nat → S_impl_Cmd)) : D RT den × List (Ob RT den) := ((.int .i64 y.1), [(.row true .impl_Backend y.2.1 y.2.2.1), (.deep true .impl_Vip y.2.2.2.1 y.2.2.2.2.1 y.2.2.2.2.2.1), (.row true .impl_Cmd y.2.2.2.2.2.2.1 y.2.2.2.2.2.2.2)])
def out_b24 (d : D RT den) (os : List (Ob RT den)) : Option (Int × Nat × (Nat → S_impl_Backend) × Nat × Nat × (Nat → S_impl_Vip) × Nat × (Nat → S_impl_Cmd)) := (unSt pso_b24 oso_b24 ⟨[d], os⟩).bind fun v => some (conv_b24 v.1)
theorem out_b24_enc (d : D RT den) (os : List (Ob RT den)) (y : Int × Nat × (Nat → S_impl_Backend) × Nat × Nat × (Nat → S_impl_Vip) × Nat × (Nat → S_impl_Cmd)) (h : out_b24 d os = some y) : d = (enc_b24 y).1 ∧ os = (enc_b24 y).2 :=
  outM (conv := conv_b24) (enc := enc_b24) (fun raw => by kernel_rfl) h
theorem ev_b24 (fu : Nat) (a_0_0 : Int) (a_0_1 : Int) (a_0_2 : Int) (a_0_3 : Bool) (a_0_4 : Int) (a_0_5 : Nat) (a_0_6 : Nat) (a_0_7 : Nat) (k_1 : Int) (rn0 : Nat) (rf0 : (Nat → S_impl_Backend)) (dn1 : Nat) (dp1 : Nat) (df1 : (Nat → S_impl_Vip)) (rn2 : Nat) (rf2 : (Nat → S_impl_Cmd)) : evFunU E (pc_b24 fu) msk_b24 (lp_b24 fu) out_b24 37 [(.agg [(.int .i64 a_0_0), (.int .i64 a_0_1), (.int .i64 a_0_2), (.bool a_0_3), (.int .i64 a_0_4), (.os 0 a_0_5), (.os 1 a_0_6), (.os 2 a_0_7)]), (.int .i64 k_1)] [(.row true .impl_Backend rn0 rf0), (.deep true .impl_Vip dn1 dp1 df1), (.row true .impl_Cmd rn2 rf2)] = F_laws_markUpdateResult_U fu a_0_0 a_0_1 a_0_2 a_0_3 a_0_4 a_0_5 a_0_6 a_0_7 k_1 rn0 rf0 dn1 dp1 df1 rn2 rf2 := by kernel_rfl
noncomputable def body_b24 : Code := Try.f37.body.getD .skip
theorem lpok_b24 (fu : Nat) : LpOk E (pc_b24 fu) msk_b24 (lp_b24 fu) (loops 0 body_b24) := by
  have h : loops 0 body_b24 = [] := by kernel_rfl
  rw [h]; intro p hp; cases hp
def S_b24 (fu : Nat) (xs : List (D RT den)) (ins : List (Ob RT den)) : Option (OutX RT den) := match xs, ins with | [.agg [.int .i64 a0_0, .int .i64 a0_1, .int .i64 a0_2, .bool a0_3, .int .i64 a0_4, .os 0 a0_5, .os 1 a0_6, .os 2 a0_7], .int .i64 a1_0], [.row true .impl_Backend rn0 rf0, .deep true .impl_Vip dn1 dp1 df1, .row true .impl_Cmd rn2 rf2] => some ⟨Int × Nat × (Nat → S_impl_Backend) × Nat × Nat × (Nat → S_impl_Vip) × Nat × (Nat → S_impl_Cmd), F_laws_markUpdateResult_U fu a0_0 a0_1 a0_2 a0_3 a0_4 a0_5 a0_6 a0_7 a1_0 rn0 rf0 dn1 dp1 df1 rn2 rf2, enc_b24⟩ | _, _ => none
theorem hpx_b24 (fu : Nat) : ∀ f xs ins o, pcx_b24 fu f xs ins = some o → ∀ y, o.x = some y → GoodXD E Try.prog (pcd_b24 f) f xs ins (o.g y).1 (o.g y).2 := by
  intro f xs ins o h
  unfold pcx_b24 at h
  split at h
  · exact good_b23 fu xs ins o h
  · cases h
theorem goodv_b24 (fu : Nat) (a_0_0 : Int) (a_0_1 : Int) (a_0_2 : Int) (a_0_3 : Bool) (a_0_4 : Int) (a_0_5 : Nat) (a_0_6 : Nat) (a_0_7 : Nat) (k_1 : Int) (rn0 : Nat) (rf0 : (Nat → S_impl_Backend)) (dn1 : Nat) (dp1 : Nat) (df1 : (Nat → S_impl_Vip)) (rn2 : Nat) (rf2 : (Nat → S_impl_Cmd)) (y : Int × Nat × (Nat → S_impl_Backend) × Nat × Nat × (Nat → S_impl_Vip) × Nat × (Nat → S_impl_Cmd)) (hy : F_laws_markUpdateResult_U fu a_0_0 a_0_1 a_0_2 a_0_3 a_0_4 a_0_5 a_0_6 a_0_7 k_1 rn0 rf0 dn1 dp1 df1 rn2 rf2 = some y) : GoodD E Try.prog 37 [(.agg [(.int .i64 a_0_0), (.int .i64 a_0_1), (.int .i64 a_0_2), (.bool a_0_3), (.int .i64 a_0_4), (.os 0 a_0_5), (.os 1 a_0_6), (.os 2 a_0_7)]), (.int .i64 k_1)] [(.row true .impl_Backend rn0 rf0), (.deep true .impl_Vip dn1 dp1 df1), (.row true .impl_Cmd rn2 rf2)] (enc_b24 y).1 (enc_b24 y).2 :=
  funU_good E_ok (pc_good (pc := pc_b24 fu) hpc0 (hpx_b24 fu)) (fn := Try.f37) (c := body_b24) (out := out_b24) (y := y) (by kernel_rfl) (by kernel_rfl) (by kernel_rfl) (lpok_b24 fu) (by kernel_rfl) (Nat.le_of_ble_eq_true (by kernel_rfl)) (Fulls.get 3 trivial) (fun d os hd => out_b24_enc d os _ hd) ((ev_b24 fu a_0_0 a_0_1 a_0_2 a_0_3 a_0_4 a_0_5 a_0_6 a_0_7 k_1 rn0 rf0 dn1 dp1 df1 rn2 rf2).trans hy)
theorem good_b24 (fu : Nat) : ∀ xs ins o, S_b24 fu xs ins = some o → ∀ y, o.x = some y → GoodD E Try.prog 37 xs ins (o.g y).1 (o.g y).2 := by
  intro xs ins o h y hy
  unfold S_b24 at h
  split at h
  · rename_i a0_0 a0_1 a0_2 a0_3 a0_4 a0_5 a0_6 a0_7 a1_0 rn0 rf0 dn1 dp1 df1 rn2 rf2
    cases h
    exact goodv_b24 fu a0_0 a0_1 a0_2 a0_3 a0_4 a0_5 a0_6 a0_7 a1_0 rn0 rf0 dn1 dp1 df1 rn2 rf2 y hy
  · cases h

/-! laws.szBackendS -/
def F_laws_szBackendS (fu : Nat) (a_0 : (Sl S_impl_Backend)) (left_1 : Int) : Option (Int) :=
  (bif (decide ((IntKind.wrap .i64 (left_1 - ((a_0.n : Nat) : Int))) < 0)) then (some (-1)) else (some (IntKind.wrap .i64 (left_1 - ((a_0.n : Nat) : Int)))))
def pc_b25 (fu : Nat) : Pc RT den := ⟨pcf0, fun _ => false, fun _ => false, pcd0, pcx0⟩
def msk_b25 (b : Nat) : List Nat := []
def lp_b25 (fu : Nat) : Lp RT den (Int) := fun b s k => none
theorem ev_b25 (fu : Nat) (a_0 : (Sl S_impl_Backend)) (left_1 : Int) : evFun E (pc_b25 fu) msk_b25 (lp_b25 fu) out_i64 112 [(.rs a_0.z .impl_Backend a_0.n a_0.f), (.int .i64 left_1)] = F_laws_szBackendS fu a_0 left_1 := by kernel_rfl
noncomputable def body_b25 : Code := Try.f112.body.getD .skip
theorem lpok_b25 (fu : Nat) : LpOk E (pc_b25 fu) msk_b25 (lp_b25 fu) (loops 0 body_b25) := by
  have h : loops 0 body_b25 = [] := by kernel_rfl
  rw [h]; intro p hp; cases hp
def S_b25 (fu : Nat) (xs : List (D RT den)) : Option (Out RT den) := match xs with | [.rs za0_0 .impl_Backend na0_0 fa0_0, .int .i64 a1_0] => some ⟨Int, F_laws_szBackendS fu (⟨za0_0, na0_0, fa0_0⟩ : (Sl S_impl_Backend)) a1_0, enc_i64, fun _ => true⟩ | _ => none
theorem goodv_b25 (fu : Nat) (a_0 : (Sl S_impl_Backend)) (left_1 : Int) (y : Int) (hy : F_laws_szBackendS fu a_0 left_1 = some y) : Good E Try.prog 112 [(.rs a_0.z .impl_Backend a_0.n a_0.f), (.int .i64 left_1)] (enc_i64 y) :=
  fun_good E_ok (pc_good (pc := pc_b25 fu) hpc0 hpx0) (fn := Try.f112) (c := body_b25) (out := out_i64) (y := y) (by kernel_rfl) (by kernel_rfl) (by kernel_rfl) (lpok_b25 fu) (fun d hd => out_i64_enc d _ hd) ((ev_b25 fu a_0 left_1).trans hy)
theorem good_b25 (fu : Nat) : ∀ xs o, S_b25 fu xs = some o → ∀ y, o.x = some y → Good E Try.prog 112 xs (o.g y) := by
  intro xs o h y hy
  unfold S_b25 at h
  split at h
  · rename_i za0_0 na0_0 fa0_0 a1_0
    cases h
    exact goodv_b25 fu (⟨za0_0, na0_0, fa0_0⟩ : (Sl S_impl_Backend)) a1_0 y hy
  · cases h

/-! laws.szInt64S -/
def F_laws_szInt64S (fu : Nat) (a_0 : (Sl Int)) (left_1 : Int) : Option (Int) :=
  (bif (decide ((IntKind.wrap .i64 (left_1 - ((a_0.n : Nat) : Int))) < 0)) then (some (-1)) else (some (IntKind.wrap .i64 (left_1 - ((a_0.n : Nat) : Int)))))
def pc_b26 (fu : Nat) : Pc RT den := ⟨pcf0, fun _ => false, fun _ => false, pcd0, pcx0⟩
def msk_b26 (b : Nat) : List Nat := []
def lp_b26 (fu : Nat) : Lp RT den (Int) := fun b s k => none
theorem ev_b26 (fu : Nat) (a_0 : (Sl Int)) (left_1 : Int) : evFun E (pc_b26 fu) msk_b26 (lp_b26 fu) out_i64 145 [(.rs a_0.z .i64 a_0.n a_0.f), (.int .i64 left_1)] = F_laws_szInt64S fu a_0 left_1 := by kernel_rfl
noncomputable def body_b26 : Code := Try.f145.body.getD .skip
theorem lpok_b26 (fu : Nat) : LpOk E (pc_b26 fu) msk_b26 (lp_b26 fu) (loops 0 body_b26) := by
  have h : loops 0 body_b26 = [] := by kernel_rfl
  rw [h]; intro p hp; cases hp
def S_b26 (fu : Nat) (xs : List (D RT den)) : Option (Out RT den) := match xs with | [.rs za0_0 .i64 na0_0 fa0_0, .int .i64 a1_0] => some ⟨Int, F_laws_szInt64S fu (⟨za0_0, na0_0, fa0_0⟩ : (Sl Int)) a1_0, enc_i64, fun _ => true⟩ | _ => none
theorem goodv_b26 (fu : Nat) (a_0 : (Sl Int)) (left_1 : Int) (y : Int) (hy : F_laws_szInt64S fu a_0 left_1 = some y) : Good E Try.prog 145 [(.rs a_0.z .i64 a_0.n a_0.f), (.int .i64 left_1)] (enc_i64 y) :=
  fun_good E_ok (pc_good (pc := pc_b26 fu) hpc0 hpx0) (fn := Try.f145) (c := body_b26) (out := out_i64) (y := y) (by kernel_rfl) (by kernel_rfl) (by kernel_rfl) (lpok_b26 fu) (fun d hd => out_i64_enc d _ hd) ((ev_b26 fu a_0 left_1).trans hy)
theorem good_b26 (fu : Nat) : ∀ xs o, S_b26 fu xs = some o → ∀ y, o.x = some y → Good E Try.prog 145 xs (o.g y) := by
  intro xs o h y hy
  unfold S_b26 at h
  split at h
  · rename_i za0_0 na0_0 fa0_0 a1_0
    cases h
    exact goodv_b26 fu (⟨za0_0, na0_0, fa0_0⟩ : (Sl Int)) a1_0 y hy
  · cases h

/-! laws.szVip -/
def F_laws_szVip (fu : Nat) (a_0 : S_impl_Vip) (left_1 : Int) : Option (Int) :=
  ((F_laws_szInt64S fu a_0.Names left_1).bind fun y283 => (bif (decide (y283 < 0)) then (some (-1)) else (some y283)))
def pcf_b27 (fu : Nat) (f : Nat) (xs : List (D RT den)) : Option (Out RT den) := match f with | 145 => S_b26 fu xs | _ => none
def pc_b27 (fu : Nat) : Pc RT den := ⟨pcf_b27 fu, fun _ => false, fun _ => false, pcd0, pcx0⟩
def msk_b27 (b : Nat) : List Nat := []
def lp_b27 (fu : Nat) : Lp RT den (Int) := fun b s k => none
theorem ev_b27 (fu : Nat) (a_0 : S_impl_Vip) (left_1 : Int) : evFun E (pc_b27 fu) msk_b27 (lp_b27 fu) out_i64 133 [(.agg [(.int .i64 a_0.Address), (.int .i64 a_0.Port), (.int .i64 a_0.Proto), (.rs a_0.Names.z .i64 a_0.Names.n a_0.Names.f)]), (.int .i64 left_1)] = F_laws_szVip fu a_0 left_1 := by kernel_rfl
noncomputable def body_b27 : Code := Try.f133.body.getD .skip
theorem lpok_b27 (fu : Nat) : LpOk E (pc_b27 fu) msk_b27 (lp_b27 fu) (loops 0 body_b27) := by
  have h : loops 0 body_b27 = [] := by kernel_rfl
  rw [h]; intro p hp; cases hp
def S_b27 (fu : Nat) (xs : List (D RT den)) : Option (Out RT den) := match xs with | [.agg [.int .i64 a0_1, .int .i64 a0_2, .int .i64 a0_3, .rs za0_4 .i64 na0_4 fa0_4], .int .i64 a1_0] => some ⟨Int, F_laws_szVip fu (⟨a0_1, a0_2, a0_3, (⟨za0_4, na0_4, fa0_4⟩ : (Sl Int))⟩ : S_impl_Vip) a1_0, enc_i64, fun _ => true⟩ | _ => none
theorem hpc_b27 (fu : Nat) : ∀ f xs o, pcf_b27 fu f xs = some o → ∀ y, o.x = some y → Good E Try.prog f xs (o.g y) := by
  intro f xs o h
  unfold pcf_b27 at h
  split at h
  · exact good_b26 fu xs o h
  · cases h
theorem goodv_b27 (fu : Nat) (a_0 : S_impl_Vip) (left_1 : Int) (y : Int) (hy : F_laws_szVip fu a_0 left_1 = some y) : Good E Try.prog 133 [(.agg [(.int .i64 a_0.Address), (.int .i64 a_0.Port), (.int .i64 a_0.Proto), (.rs a_0.Names.z .i64 a_0.Names.n a_0.Names.f)]), (.int .i64 left_1)] (enc_i64 y) :=
  fun_good E_ok (pc_good (pc := pc_b27 fu) (hpc_b27 fu) hpx0) (fn := Try.f133) (c := body_b27) (out := out_i64) (y := y) (by kernel_rfl) (by kernel_rfl) (by kernel_rfl) (lpok_b27 fu) (fun d hd => out_i64_enc d _ hd) ((ev_b27 fu a_0 left_1).trans hy)
theorem good_b27 (fu : Nat) : ∀ xs o, S_b27 fu xs = some o → ∀ y, o.x = some y → Good E Try.prog 133 xs (o.g y) := by
  intro xs o h y hy
  unfold S_b27 at h
  split at h
  · rename_i a0_1 a0_2 a0_3 za0_4 na0_4 fa0_4 a1_0
    cases h
    exact goodv_b27 fu (⟨a0_1, a0_2, a0_3, (⟨za0_4, na0_4, fa0_4⟩ : (Sl Int))⟩ : S_impl_Vip) a1_0 y hy
  · cases h

/-! laws.szVipS -/
def F_laws_szVipS_B0 {ρ : Type} (fu : Nat) (a0_0 : (Sl S_impl_Vip)) (k0 : Int → Option ρ) (k1 : Int → Option ρ) (left1_1 : Int) (i5_2 : Int) (go : Int → Int → Option ρ) : Option ρ :=
  (bif (decide (i5_2 < ((a0_0.n : Nat) : Int))) then ((bif (decide (0 ≤ i5_2) && decide ((Int.toNat i5_2) < a0_0.n)) then some () else none : Option Unit).bind fun _ =>
    ((F_laws_szVip fu (a0_0.f (Int.toNat i5_2)) left1_1).bind fun y280 => (bif (decide (y280 < 0)) then (k0 y280) else (go y280 (IntKind.wrap .i64 (i5_2 + 1)))))) else (k1 left1_1))
def F_laws_szVipS (fu : Nat) (a_0 : (Sl S_impl_Vip)) (left_1 : Int) : Option (Int) :=
  (bif (decide ((IntKind.wrap .i64 (left_1 - ((a_0.n : Nat) : Int))) < 0)) then (some (-1)) else (L (fun w0 go0 => F_laws_szVipS_B0 fu a_0 (fun z281 => (some (-1))) (fun z282 =>
    (some z282)) w0.1 w0.2 (fun q0 q1 => go0 (q0, q1))) fu (((IntKind.wrap .i64 (left_1 - ((a_0.n : Nat) : Int))), 0) : Int × Int)))
def pcf_b28 (fu : Nat) (f : Nat) (xs : List (D RT den)) : Option (Out RT den) := match f with | 133 => S_b27 fu xs | _ => none
def pc_b28 (fu : Nat) : Pc RT den := ⟨pcf_b28 fu, fun _ => false, fun _ => false, pcd0, pcx0⟩
def msk_b28 (b : Nat) : List Nat := match b with | 0 => [2, 3, 4, 6, 7, 8, 9, 10, 11, 12, 13, 14, 15, 16, 17, 18, 19, 20, 21, 22, 23, 24, 25, 26] | 100000 => [0, 2, 3, 5, 6, 7, 8, 9, 10, 11, 12, 13, 14, 15, 16, 17, 18, 19, 20, 21, 22, 23, 24, 25, 26] | _ => []
def ps_b28_0 : List (Pat RT) := [.flat (.rs .impl_Vip), .flat (.int .i64), .flat .q, .flat .q, .flat .q, .flat (.int .i64), .flat .q, .flat .q, .flat .q, .flat .q, .flat .q, .flat .q, .flat .q, .flat .q, .flat .q, .flat .q, .flat .q, .flat .q, .flat .q, .flat .q, .flat .q, .flat .q, .flat .q, .flat .q, .flat .q, .flat .q, .flat .q]
def os_b28_0 : List (OP RT) := []
def conv_b28_0 (r : Raw den ps_b28_0 os_b28_0) : ((Sl S_impl_Vip)) × (Int × Int) := (r.1.1, (r.1.2.1, r.1.2.2.2.2.2.1))
def back_b28_0 (c : (Sl S_impl_Vip)) (w : Int × Int) : St RT den := ⟨[(.rs c.z .impl_Vip c.n c.f), (.int .i64 w.1), .q, .q, .q, (.int .i64 w.2), .q, .q, .q, .q, .q, .q, .q, .q, .q, .q, .q, .q, .q, .q, .q, .q, .q, .q, .q, .q, .q], []⟩
def Bk_b28_0 {ρ : Type} (fu : Nat) (c : (Sl S_impl_Vip)) (k : Ex → St RT den → Option ρ) (w : Int × Int) (go : (Int × Int) → Option ρ) : Option ρ := F_laws_szVipS_B0 fu c (fun a0 => k .ret ⟨[.q, (.int .i64 a0), .q, .q, (.int .i64 (-1)), .q, .q, .q, .q, .q, .q, .q, .q, .q, .q, .q, .q, .q, .q, .q, .q, .q, .q, .q, .q, .q, .q], []⟩) (fun a0 => k (.exit 0) ⟨[.q, (.int .i64 a0), .q, .q, .q, .q, .q, .q, .q, .q, .q, .q, .q, .q, .q, .q, .q, .q, .q, .q, .q, .q, .q, .q, .q, .q, .q], []⟩) w.1 w.2 (fun q0 q1 => go (q0, q1))
def lp_b28 (fu : Nat) : Lp RT den (Int) := fun b s k => match b with | 0 => handle ps_b28_0 os_b28_0 conv_b28_0 (Bk_b28_0 fu) fu s k | _ => none
theorem ev_b28 (fu : Nat) (a_0 : (Sl S_impl_Vip)) (left_1 : Int) : evFun E (pc_b28 fu) msk_b28 (lp_b28 fu) out_i64 113 [(.rs a_0.z .impl_Vip a_0.n a_0.f), (.int .i64 left_1)] = F_laws_szVipS fu a_0 left_1 := by kernel_rfl
noncomputable def body_b28 : Code := Try.f113.body.getD .skip
noncomputable def lc_b28_0 : Code := ((loops 0 body_b28).getD 0 (0, .skip)).2
theorem round_b28_0 (fu : Nat) (it : St RT den → Option (Int)) (k : Ex → St RT den → Option (Int)) c w : evCode E (pc_b28 fu) msk_b28 (lp_b28 fu) 0 lc_b28_0 (back_b28_0 c w) (after (msk_b28 0) (msk_b28 100000) 0 it k) = Bk_b28_0 fu c k w (fun w => it (back_b28_0 c w)) := by kernel_rfl
theorem lpok_b28_0 (fu : Nat) : ∀ s k r, lp_b28 fu 0 s k = some r → ∃ fuel, iter (msk_b28 0) (msk_b28 100000) s.objs.length (evCode E (pc_b28 fu) msk_b28 (lp_b28 fu) 0 lc_b28_0) fuel s k = some r :=
  handle_ok (ps := ps_b28_0) (os := os_b28_0) (conv := conv_b28_0) (B := Bk_b28_0 fu) (fu := fu) back_b28_0 (fun raw => by kernel_rfl) 0 (fun c w => by kernel_rfl) (round_b28_0 fu)
theorem lpok_b28 (fu : Nat) : LpOk E (pc_b28 fu) msk_b28 (lp_b28 fu) (loops 0 body_b28) := loop_all 1 (by kernel_rfl) fun i hi => match i, hi with
  | 0, _ => by
    have h : (loops 0 body_b28).getD 0 (0, .skip) = (0, lc_b28_0) := by kernel_rfl
    rw [h]; exact lpok_b28_0 fu
  | i + 1, hi => absurd hi (by omega)
def S_b28 (fu : Nat) (xs : List (D RT den)) : Option (Out RT den) := match xs with | [.rs za0_0 .impl_Vip na0_0 fa0_0, .int .i64 a1_0] => some ⟨Int, F_laws_szVipS fu (⟨za0_0, na0_0, fa0_0⟩ : (Sl S_impl_Vip)) a1_0, enc_i64, fun _ => true⟩ | _ => none
theorem hpc_b28 (fu : Nat) : ∀ f xs o, pcf_b28 fu f xs = some o → ∀ y, o.x = some y → Good E Try.prog f xs (o.g y) := by
  intro f xs o h
  unfold pcf_b28 at h
  split at h
  · exact good_b27 fu xs o h
  · cases h
theorem goodv_b28 (fu : Nat) (a_0 : (Sl S_impl_Vip)) (left_1 : Int) (y : Int) (hy : F_laws_szVipS fu a_0 left_1 = some y) : Good E Try.prog 113 [(.rs a_0.z .impl_Vip a_0.n a_0.f), (.int .i64 left_1)] (enc_i64 y) :=
  fun_good E_ok (pc_good (pc := pc_b28 fu) (hpc_b28 fu) hpx0) (fn := Try.f113) (c := body_b28) (out := out_i64) (y := y) (by kernel_rfl) (by kernel_rfl) (by kernel_rfl) (lpok_b28 fu) (fun d hd => out_i64_enc d _ hd) ((ev_b28 fu a_0 left_1).trans hy)
theorem good_b28 (fu : Nat) : ∀ xs o, S_b28 fu xs = some o → ∀ y, o.x = some y → Good E Try.prog 113 xs (o.g y) := by
  intro xs o h y hy
  unfold S_b28 at h
  split at h
  · rename_i za0_0 na0_0 fa0_0 a1_0
    cases h
    exact goodv_b28 fu (⟨za0_0, na0_0, fa0_0⟩ : (Sl S_impl_Vip)) a1_0 y hy
  · cases h

/-! laws.szConfig -/
def F_laws_szConfig (fu : Nat) (a_0 : S_laws_Config) (left_1 : Int) : Option (Int) :=
  ((F_laws_szBackendS fu a_0.Backends left_1).bind fun y278 => (bif (decide (y278 < 0)) then (some (-1)) else ((F_laws_szVipS fu a_0.Vips y278).bind fun y279 => (bif (decide (y279 < 0)) then
    (some (-1)) else (some y279)))))
def pcf_b29 (fu : Nat) (f : Nat) (xs : List (D RT den)) : Option (Out RT den) := match f with | 112 => S_b25 fu xs | 113 => S_b28 fu xs | _ => none
def pc_b29 (fu : Nat) : Pc RT den := ⟨pcf_b29 fu, fun _ => false, fun _ => false, pcd0, pcx0⟩
def msk_b29 (b : Nat) : List Nat := []
def lp_b29 (fu : Nat) : Lp RT den (Int) := fun b s k => none
theorem ev_b29 (fu : Nat) (a_0 : S_laws_Config) (left_1 : Int) : evFun E (pc_b29 fu) msk_b29 (lp_b29 fu) out_i64 62 [(.agg [(.int .i64 a_0.Version), (.rs a_0.Backends.z .impl_Backend a_0.Backends.n a_0.Backends.f), (.rs a_0.Vips.z .impl_Vip a_0.Vips.n a_0.Vips.f)]), (.int .i64 left_1)] = F_laws_szConfig fu a_0 left_1 := by kernel_rfl
noncomputable def body_b29 : Code := Try.f62.body.getD .skip
theorem lpok_b29 (fu : Nat) : LpOk E (pc_b29 fu) msk_b29 (lp_b29 fu) (loops 0 body_b29) := by
  have h : loops 0 body_b29 = [] := by kernel_rfl
  rw [h]; intro p hp; cases hp
def S_b29 (fu : Nat) (xs : List (D RT den)) : Option (Out RT den) := match xs with | [.agg [.int .i64 a0_1, .rs za0_2 .impl_Backend na0_2 fa0_2, .rs za0_3 .impl_Vip na0_3 fa0_3], .int .i64 a1_0] => some ⟨Int, F_laws_szConfig fu (⟨a0_1, (⟨za0_2, na0_2, fa0_2⟩ : (Sl S_impl_Backend)), (⟨za0_3, na0_3, fa0_3⟩ : (Sl S_impl_Vip))⟩ : S_laws_Config) a1_0, enc_i64, fun _ => true⟩ | _ => none
theorem hpc_b29 (fu : Nat) : ∀ f xs o, pcf_b29 fu f xs = some o → ∀ y, o.x = some y → Good E Try.prog f xs (o.g y) := by
  intro f xs o h
  unfold pcf_b29 at h
  split at h
  · exact good_b25 fu xs o h
  · exact good_b28 fu xs o h
  · cases h
theorem goodv_b29 (fu : Nat) (a_0 : S_laws_Config) (left_1 : Int) (y : Int) (hy : F_laws_szConfig fu a_0 left_1 = some y) : Good E Try.prog 62 [(.agg [(.int .i64 a_0.Version), (.rs a_0.Backends.z .impl_Backend a_0.Backends.n a_0.Backends.f), (.rs a_0.Vips.z .impl_Vip a_0.Vips.n a_0.Vips.f)]), (.int .i64 left_1)] (enc_i64 y) :=
  fun_good E_ok (pc_good (pc := pc_b29 fu) (hpc_b29 fu) hpx0) (fn := Try.f62) (c := body_b29) (out := out_i64) (y := y) (by kernel_rfl) (by kernel_rfl) (by kernel_rfl) (lpok_b29 fu) (fun d hd => out_i64_enc d _ hd) ((ev_b29 fu a_0 left_1).trans hy)
theorem good_b29 (fu : Nat) : ∀ xs o, S_b29 fu xs = some o → ∀ y, o.x = some y → Good E Try.prog 62 xs (o.g y) := by
  intro xs o h y hy
  unfold S_b29 at h
  split at h
  · rename_i a0_1 za0_2 na0_2 fa0_2 za0_3 na0_3 fa0_3 a1_0
    cases h
    exact goodv_b29 fu (⟨a0_1, (⟨za0_2, na0_2, fa0_2⟩ : (Sl S_impl_Backend)), (⟨za0_3, na0_3, fa0_3⟩ : (Sl S_impl_Vip))⟩ : S_laws_Config) a1_0 y hy
  · cases h

/-! laws.szConfigS -/
def F_laws_szConfigS_B0 {ρ : Type} (fu : Nat) (a0_0 : (Sl S_laws_Config)) (k0 : Int → Option ρ) (k1 : Int → Option ρ) (left1_1 : Int) (i5_2 : Int) (go : Int → Int → Option ρ) : Option ρ :=
  (bif (decide (i5_2 < ((a0_0.n : Nat) : Int))) then ((bif (decide (0 ≤ i5_2) && decide ((Int.toNat i5_2) < a0_0.n)) then some () else none : Option Unit).bind fun _ =>
    ((F_laws_szConfig fu (a0_0.f (Int.toNat i5_2)) left1_1).bind fun y275 => (bif (decide (y275 < 0)) then (k0 y275) else (go y275 (IntKind.wrap .i64 (i5_2 + 1)))))) else (k1 left1_1))
def F_laws_szConfigS (fu : Nat) (a_0 : (Sl S_laws_Config)) (left_1 : Int) : Option (Int) :=
  (bif (decide ((IntKind.wrap .i64 (left_1 - ((a_0.n : Nat) : Int))) < 0)) then (some (-1)) else (L (fun w0 go0 => F_laws_szConfigS_B0 fu a_0 (fun z276 => (some (-1))) (fun z277 =>
    (some z277)) w0.1 w0.2 (fun q0 q1 => go0 (q0, q1))) fu (((IntKind.wrap .i64 (left_1 - ((a_0.n : Nat) : Int))), 0) : Int × Int)))
def pcf_b30 (fu : Nat) (f : Nat) (xs : List (D RT den)) : Option (Out RT den) := match f with | 62 => S_b29 fu xs | _ => none
def pc_b30 (fu : Nat) : Pc RT den := ⟨pcf_b30 fu, fun _ => false, fun _ => false, pcd0, pcx0⟩
def msk_b30 (b : Nat) : List Nat := match b with | 0 => [2, 3, 4, 6, 7, 8, 9, 10, 11, 12, 13, 14, 15, 16, 17, 18, 19, 20, 21, 22, 23, 24, 25, 26] | 100000 => [0, 2, 3, 5, 6, 7, 8, 9, 10, 11, 12, 13, 14, 15, 16, 17, 18, 19, 20, 21, 22, 23, 24, 25, 26] | _ => []
def ps_b30_0 : List (Pat RT) := [.flat (.rs .laws_Config), .flat (.int .i64), .flat .q, .flat .q, .flat .q, .flat (.int .i64), .flat .q, .flat .q, .flat .q, .flat .q, .flat .q, .flat .q, .flat .q, .flat .q, .flat .q, .flat .q, .flat .q, .flat .q, .flat .q, .flat .q, .flat .q, .flat .q, .flat .q, .flat .q, .flat .q, .flat .q, .flat .q]
def os_b30_0 : List (OP RT) := []
def conv_b30_0 (r : Raw den ps_b30_0 os_b30_0) : ((Sl S_laws_Config)) × (Int × Int) := (r.1.1, (r.1.2.1, r.1.2.2.2.2.2.1))
def back_b30_0 (c : (Sl S_laws_Config)) (w : Int × Int) : St RT den := ⟨[(.rs c.z .laws_Config c.n c.f), (.int .i64 w.1), .q, .q, .q, (.int .i64 w.2), .q, .q, .q, .q, .q, .q, .q, .q, .q, .q, .q, .q, .q, .q, .q, .q, .q, .q, .q, .q, .q], []⟩
def Bk_b30_0 {ρ : Type} (fu : Nat) (c : (Sl S_laws_Config)) (k : Ex → St RT den → Option ρ) (w : Int × Int) (go : (Int × Int) → Option ρ) : Option ρ := F_laws_szConfigS_B0 fu c (fun a0 => k .ret ⟨[.q, (.int .i64 a0), .q, .q, (.int .i64 (-1)), .q, .q, .q, .q, .q, .q, .q, .q, .q, .q, .q, .q, .q, .q, .q, .q, .q, .q, .q, .q, .q, .q], []⟩) (fun a0 => k (.exit 0) ⟨[.q, (.int .i64 a0), .q, .q, .q, .q, .q, .q, .q, .q, .q, .q, .q, .q, .q, .q, .q, .q, .q, .q, .q, .q, .q, .q, .q, .q, .q], []⟩) w.1 w.2 (fun q0 q1 => go (q0, q1))
def lp_b30 (fu : Nat) : Lp RT den (Int) := fun b s k => match b with | 0 => handle ps_b30_0 os_b30_0 conv_b30_0 (Bk_b30_0 fu) fu s k | _ => none
theorem ev_b30 (fu : Nat) (a_0 : (Sl S_laws_Config)) (left_1 : Int) : evFun E (pc_b30 fu) msk_b30 (lp_b30 fu) out_i64 26 [(.rs a_0.z .laws_Config a_0.n a_0.f), (.int .i64 left_1)] = F_laws_szConfigS fu a_0 left_1 := by kernel_rfl
noncomputable def body_b30 : Code := Try.f26.body.getD .skip
noncomputable def lc_b30_0 : Code := ((loops 0 body_b30).getD 0 (0, .skip)).2
theorem round_b30_0 (fu : Nat) (it : St RT den → Option (Int)) (k : Ex → St RT den → Option (Int)) c w : evCode E (pc_b30 fu) msk_b30 (lp_b30 fu) 0 lc_b30_0 (back_b30_0 c w) (after (msk_b30 0) (msk_b30 100000) 0 it k) = Bk_b30_0 fu c k w (fun w => it (back_b30_0 c w)) := by kernel_rfl
theorem lpok_b30_0 (fu : Nat) : ∀ s k r, lp_b30 fu 0 s k = some r → ∃ fuel, iter (msk_b30 0) (msk_b30 100000) s.objs.length (evCode E (pc_b30 fu) msk_b30 (lp_b30 fu) 0 lc_b30_0) fuel s k = some r :=
  handle_ok (ps := ps_b30_0) (os := os_b30_0) (conv := conv_b30_0) (B := Bk_b30_0 fu) (fu := fu) back_b30_0 (fun raw => by kernel_rfl) 0 (fun c w => by kernel_rfl) (round_b30_0 fu)
theorem lpok_b30 (fu : Nat) : LpOk E (pc_b30 fu) msk_b30 (lp_b30 fu) (loops 0 body_b30) := loop_all 1 (by kernel_rfl) fun i hi => match i, hi with
  | 0, _ => by
    have h : (loops 0 body_b30).getD 0 (0, .skip) = (0, lc_b30_0) := by kernel_rfl
    rw [h]; exact lpok_b30_0 fu
  | i + 1, hi => absurd hi (by omega)
def S_b30 (fu : Nat) (xs : List (D RT den)) : Option (Out RT den) := match xs with | [.rs za0_0 .laws_Config na0_0 fa0_0, .int .i64 a1_0] => some ⟨Int, F_laws_szConfigS fu (⟨za0_0, na0_0, fa0_0⟩ : (Sl S_laws_Config)) a1_0, enc_i64, fun _ => true⟩ | _ => none
theorem hpc_b30 (fu : Nat) : ∀ f xs o, pcf_b30 fu f xs = some o → ∀ y, o.x = some y → Good E Try.prog f xs (o.g y) := by
  intro f xs o h
  unfold pcf_b30 at h
  split at h
  · exact good_b29 fu xs o h
  · cases h
theorem goodv_b30 (fu : Nat) (a_0 : (Sl S_laws_Config)) (left_1 : Int) (y : Int) (hy : F_laws_szConfigS fu a_0 left_1 = some y) : Good E Try.prog 26 [(.rs a_0.z .laws_Config a_0.n a_0.f), (.int .i64 left_1)] (enc_i64 y) :=
  fun_good E_ok (pc_good (pc := pc_b30 fu) (hpc_b30 fu) hpx0) (fn := Try.f26) (c := body_b30) (out := out_i64) (y := y) (by kernel_rfl) (by kernel_rfl) (by kernel_rfl) (lpok_b30 fu) (fun d hd => out_i64_enc d _ hd) ((ev_b30 fu a_0 left_1).trans hy)
theorem good_b30 (fu : Nat) : ∀ xs o, S_b30 fu xs = some o → ∀ y, o.x = some y → Good E Try.prog 26 xs (o.g y) := by
  intro xs o h y hy
  unfold S_b30 at h
  split at h
  · rename_i za0_0 na0_0 fa0_0 a1_0
    cases h
    exact goodv_b30 fu (⟨za0_0, na0_0, fa0_0⟩ : (Sl S_laws_Config)) a1_0 y hy
  · cases h

/-! laws.szCmdS -/
def F_laws_szCmdS (fu : Nat) (a_0 : (Sl S_impl_Cmd)) (left_1 : Int) : Option (Int) :=
  (bif (decide ((IntKind.wrap .i64 (left_1 - ((a_0.n : Nat) : Int))) < 0)) then (some (-1)) else (some (IntKind.wrap .i64 (left_1 - ((a_0.n : Nat) : Int)))))
def pc_b31 (fu : Nat) : Pc RT den := ⟨pcf0, fun _ => false, fun _ => false, pcd0, pcx0⟩
def msk_b31 (b : Nat) : List Nat := []
def lp_b31 (fu : Nat) : Lp RT den (Int) := fun b s k => none
theorem ev_b31 (fu : Nat) (a_0 : (Sl S_impl_Cmd)) (left_1 : Int) : evFun E (pc_b31 fu) msk_b31 (lp_b31 fu) out_i64 27 [(.rs a_0.z .impl_Cmd a_0.n a_0.f), (.int .i64 left_1)] = F_laws_szCmdS fu a_0 left_1 := by kernel_rfl
noncomputable def body_b31 : Code := Try.f27.body.getD .skip
theorem lpok_b31 (fu : Nat) : LpOk E (pc_b31 fu) msk_b31 (lp_b31 fu) (loops 0 body_b31) := by
  have h : loops 0 body_b31 = [] := by kernel_rfl
  rw [h]; intro p hp; cases hp
def S_b31 (fu : Nat) (xs : List (D RT den)) : Option (Out RT den) := match xs with | [.rs za0_0 .impl_Cmd na0_0 fa0_0, .int .i64 a1_0] => some ⟨Int, F_laws_szCmdS fu (⟨za0_0, na0_0, fa0_0⟩ : (Sl S_impl_Cmd)) a1_0, enc_i64, fun _ => true⟩ | _ => none
theorem goodv_b31 (fu : Nat) (a_0 : (Sl S_impl_Cmd)) (left_1 : Int) (y : Int) (hy : F_laws_szCmdS fu a_0 left_1 = some y) : Good E Try.prog 27 [(.rs a_0.z .impl_Cmd a_0.n a_0.f), (.int .i64 left_1)] (enc_i64 y) :=
  fun_good E_ok (pc_good (pc := pc_b31 fu) hpc0 hpx0) (fn := Try.f27) (c := body_b31) (out := out_i64) (y := y) (by kernel_rfl) (by kernel_rfl) (by kernel_rfl) (lpok_b31 fu) (fun d hd => out_i64_enc d _ hd) ((ev_b31 fu a_0 left_1).trans hy)
theorem good_b31 (fu : Nat) : ∀ xs o, S_b31 fu xs = some o → ∀ y, o.x = some y → Good E Try.prog 27 xs (o.g y) := by
  intro xs o h y hy
  unfold S_b31 at h
  split at h
  · rename_i za0_0 na0_0 fa0_0 a1_0
    cases h
    exact goodv_b31 fu (⟨za0_0, na0_0, fa0_0⟩ : (Sl S_impl_Cmd)) a1_0 y hy
  · cases h

/-! laws.eqBackend -/
def F_laws_eqBackend (fu : Nat) (a_0 : S_impl_Backend) (b_1 : S_impl_Backend) : Option (Bool) :=
  (bif (a_0.Name != b_1.Name) then (some false) else (bif (a_0.Address != b_1.Address) then (some false) else (bif (a_0.Weight != b_1.Weight) then (some false) else (bif (a_0.Stage != b_1.Stage) then
    (some false) else (bif (!(a_0.Up == b_1.Up)) then (some false) else (some true))))))
def pc_b32 (fu : Nat) : Pc RT den := ⟨pcf0, fun _ => false, fun _ => false, pcd0, pcx0⟩
def msk_b32 (b : Nat) : List Nat := []
def lp_b32 (fu : Nat) : Lp RT den (Bool) := fun b s k => none
theorem ev_b32 (fu : Nat) (a_0 : S_impl_Backend) (b_1 : S_impl_Backend) : evFun E (pc_b32 fu) msk_b32 (lp_b32 fu) out_bo 127 [(.agg [(.int .i64 a_0.Name), (.int .i64 a_0.Address), (.int .i64 a_0.Weight), (.int .i64 a_0.Stage), (.bool a_0.Up)]), (.agg [(.int .i64 b_1.Name), (.int .i64 b_1.Address), (.int .i64 b_1.Weight), (.int .i64 b_1.Stage), (.bool b_1.Up)])] = F_laws_eqBackend fu a_0 b_1 := by kernel_rfl
noncomputable def body_b32 : Code := Try.f127.body.getD .skip
theorem lpok_b32 (fu : Nat) : LpOk E (pc_b32 fu) msk_b32 (lp_b32 fu) (loops 0 body_b32) := by
  have h : loops 0 body_b32 = [] := by kernel_rfl
  rw [h]; intro p hp; cases hp
def S_b32 (fu : Nat) (xs : List (D RT den)) : Option (Out RT den) := match xs with | [.agg [.int .i64 a0_1, .int .i64 a0_2, .int .i64 a0_3, .int .i64 a0_4, .bool a0_5], .agg [.int .i64 a1_1, .int .i64 a1_2, .int .i64 a1_3, .int .i64 a1_4, .bool a1_5]] => some ⟨Bool, F_laws_eqBackend fu (⟨a0_1, a0_2, a0_3, a0_4, a0_5⟩ : S_impl_Backend) (⟨a1_1, a1_2, a1_3, a1_4, a1_5⟩ : S_impl_Backend), enc_bo, fun _ => true⟩ | _ => none
theorem goodv_b32 (fu : Nat) (a_0 : S_impl_Backend) (b_1 : S_impl_Backend) (y : Bool) (hy : F_laws_eqBackend fu a_0 b_1 = some y) : Good E Try.prog 127 [(.agg [(.int .i64 a_0.Name), (.int .i64 a_0.Address), (.int .i64 a_0.Weight), (.int .i64 a_0.Stage), (.bool a_0.Up)]), (.agg [(.int .i64 b_1.Name), (.int .i64 b_1.Address), (.int .i64 b_1.Weight), (.int .i64 b_1.Stage), (.bool b_1.Up)])] (enc_bo y) :=
  fun_good E_ok (pc_good (pc := pc_b32 fu) hpc0 hpx0) (fn := Try.f127) (c := body_b32) (out := out_bo) (y := y) (by kernel_rfl) (by kernel_rfl) (by kernel_rfl) (lpok_b32 fu) (fun d hd => out_bo_enc d _ hd) ((ev_b32 fu a_0 b_1).trans hy)
theorem good_b32 (fu : Nat) : ∀ xs o, S_b32 fu xs = some o → ∀ y, o.x = some y → Good E Try.prog 127 xs (o.g y) := by
  intro xs o h y hy
  unfold S_b32 at h
  split at h
  · rename_i a0_1 a0_2 a0_3 a0_4 a0_5 a1_1 a1_2 a1_3 a1_4 a1_5
    cases h
    exact goodv_b32 fu (⟨a0_1, a0_2, a0_3, a0_4, a0_5⟩ : S_impl_Backend) (⟨a1_1, a1_2, a1_3, a1_4, a1_5⟩ : S_impl_Backend) y hy
  · cases h

/-! laws.eqBackendS -/
def F_laws_eqBackendS_B0 {ρ : Type} (fu : Nat) (a0_0 : (Sl S_impl_Backend)) (b1_1 : (Sl S_impl_Backend)) (k0 : Option ρ) (k1 : Option ρ) (i5_2 : Int) (go : Int → Option ρ) : Option ρ :=
  (bif (decide (i5_2 < ((a0_0.n : Nat) : Int))) then ((bif (decide (0 ≤ i5_2) && decide ((Int.toNat i5_2) < a0_0.n)) then some () else none : Option Unit).bind fun _ => ((bif (decide (0 ≤ i5_2) &&
    decide ((Int.toNat i5_2) < b1_1.n)) then some () else none : Option Unit).bind fun _ => ((F_laws_eqBackend fu (a0_0.f (Int.toNat i5_2)) (b1_1.f (Int.toNat i5_2))).bind fun y289 =>
    (bif (!y289) then k0 else (go (IntKind.wrap .i64 (i5_2 + 1))))))) else k1)
def F_laws_eqBackendS (fu : Nat) (a_0 : (Sl S_impl_Backend)) (b_1 : (Sl S_impl_Backend)) : Option (Bool) :=
  (bif (((a_0.n : Nat) : Int) != ((b_1.n : Nat) : Int)) then (some false) else (L (fun w0 go0 => F_laws_eqBackendS_B0 fu a_0 b_1 (some false) (some true) w0 go0) fu (0 : Int)))
def pcf_b33 (fu : Nat) (f : Nat) (xs : List (D RT den)) : Option (Out RT den) := match f with | 127 => S_b32 fu xs | _ => none
def pc_b33 (fu : Nat) : Pc RT den := ⟨pcf_b33 fu, fun _ => false, fun _ => false, pcd0, pcx0⟩
def msk_b33 (b : Nat) : List Nat := match b with | 0 => [2, 3, 4, 6, 7, 8, 9, 10, 11, 12, 13, 14, 15, 16, 17, 18, 19, 20, 21, 22, 23, 24, 25, 26] | 100000 => [0, 1, 2, 3, 5, 6, 7, 8, 9, 10, 11, 12, 13, 14, 15, 16, 17, 18, 19, 20, 21, 22, 23, 24, 25, 26] | _ => []
def ps_b33_0 : List (Pat RT) := [.flat (.rs .impl_Backend), .flat (.rs .impl_Backend), .flat .q, .flat .q, .flat .q, .flat (.int .i64), .flat .q, .flat .q, .flat .q, .flat .q, .flat .q, .flat .q, .flat .q, .flat .q, .flat .q, .flat .q, .flat .q, .flat .q, .flat .q, .flat .q, .flat .q, .flat .q, .flat .q, .flat .q, .flat .q, .flat .q, .flat .q]
def os_b33_0 : List (OP RT) := []
def conv_b33_0 (r : Raw den ps_b33_0 os_b33_0) : ((Sl S_impl_Backend) × (Sl S_impl_Backend)) × (Int) := ((r.1.1, r.1.2.1), r.1.2.2.2.2.2.1)
def back_b33_0 (c : (Sl S_impl_Backend) × (Sl S_impl_Backend)) (w : Int) : St RT den := ⟨[(.rs c.1.z .impl_Backend c.1.n c.1.f), (.rs c.2.z .impl_Backend c.2.n c.2.f), .q, .q, .q, (.int .i64 w), .q, .q, .q, .q, .q, .q, .q, .q, .q, .q, .q, .q, .q, .q, .q, .q, .q, .q, .q, .q, .q], []⟩
def Bk_b33_0 {ρ : Type} (fu : Nat) (c : (Sl S_impl_Backend) × (Sl S_impl_Backend)) (k : Ex → St RT den → Option ρ) (w : Int) (go : (Int) → Option ρ) : Option ρ := F_laws_eqBackendS_B0 fu c.1 c.2 (k .ret ⟨[.q, .q, .q, .q, (.bool false), .q, .q, .q, .q, .q, .q, .q, .q, .q, .q, .q, .q, .q, .q, .q, .q, .q, .q, .q, .q, .q, .q], []⟩) (k (.exit 0) ⟨[.q, .q, .q, .q, .q, .q, .q, .q, .q, .q, .q, .q, .q, .q, .q, .q, .q, .q, .q, .q, .q, .q, .q, .q, .q, .q, .q], []⟩) w go
def lp_b33 (fu : Nat) : Lp RT den (Bool) := fun b s k => match b with | 0 => handle ps_b33_0 os_b33_0 conv_b33_0 (Bk_b33_0 fu) fu s k | _ => none
theorem ev_b33 (fu : Nat) (a_0 : (Sl S_impl_Backend)) (b_1 : (Sl S_impl_Backend)) : evFun E (pc_b33 fu) msk_b33 (lp_b33 fu) out_bo 93 [(.rs a_0.z .impl_Backend a_0.n a_0.f), (.rs b_1.z .impl_Backend b_1.n b_1.f)] = F_laws_eqBackendS fu a_0 b_1 := by kernel_rfl
noncomputable def body_b33 : Code := Try.f93.body.getD .skip
noncomputable def lc_b33_0 : Code := ((loops 0 body_b33).getD 0 (0, .skip)).2
theorem round_b33_0 (fu : Nat) (it : St RT den → Option (Bool)) (k : Ex → St RT den → Option (Bool)) c w : evCode E (pc_b33 fu) msk_b33 (lp_b33 fu) 0 lc_b33_0 (back_b33_0 c w) (after (msk_b33 0) (msk_b33 100000) 0 it k) = Bk_b33_0 fu c k w (fun w => it (back_b33_0 c w)) := by kernel_rfl
theorem lpok_b33_0 (fu : Nat) : ∀ s k r, lp_b33 fu 0 s k = some r → ∃ fuel, iter (msk_b33 0) (msk_b33 100000) s.objs.length (evCode E (pc_b33 fu) msk_b33 (lp_b33 fu) 0 lc_b33_0) fuel s k = some r :=
  handle_ok (ps := ps_b33_0) (os := os_b33_0) (conv := conv_b33_0) (B := Bk_b33_0 fu) (fu := fu) back_b33_0 (fun raw => by kernel_rfl) 0 (fun c w => by kernel_rfl) (round_b33_0 fu)
theorem lpok_b33 (fu : Nat) : LpOk E (pc_b33 fu) msk_b33 (lp_b33 fu) (loops 0 body_b33) := loop_all 1 (by kernel_rfl) fun i hi => match i, hi with
  | 0, _ => by
    have h : (loops 0 body_b33).getD 0 (0, .skip) = (0, lc_b33_0) := by kernel_rfl
    rw [h]; exact lpok_b33_0 fu
  | i + 1, hi => absurd hi (by omega)
def S_b33 (fu : Nat) (xs : List (D RT den)) : Option (Out RT den) := match xs with | [.rs za0_0 .impl_Backend na0_0 fa0_0, .rs za1_0 .impl_Backend na1_0 fa1_0] => some ⟨Bool, F_laws_eqBackendS fu (⟨za0_0, na0_0, fa0_0⟩ : (Sl S_impl_Backend)) (⟨za1_0, na1_0, fa1_0⟩ : (Sl S_impl_Backend)), enc_bo, fun _ => true⟩ | _ => none
theorem hpc_b33 (fu : Nat) : ∀ f xs o, pcf_b33 fu f xs = some o → ∀ y, o.x = some y → Good E Try.prog f xs (o.g y) := by
  intro f xs o h
  unfold pcf_b33 at h
  split at h
  · exact good_b32 fu xs o h
  · cases h
theorem goodv_b33 (fu : Nat) (a_0 : (Sl S_impl_Backend)) (b_1 : (Sl S_impl_Backend)) (y : Bool) (hy : F_laws_eqBackendS fu a_0 b_1 = some y) : Good E Try.prog 93 [(.rs a_0.z .impl_Backend a_0.n a_0.f), (.rs b_1.z .impl_Backend b_1.n b_1.f)] (enc_bo y) :=
  fun_good E_ok (pc_good (pc := pc_b33 fu) (hpc_b33 fu) hpx0) (fn := Try.f93) (c := body_b33) (out := out_bo) (y := y) (by kernel_rfl) (by kernel_rfl) (by kernel_rfl) (lpok_b33 fu) (fun d hd => out_bo_enc d _ hd) ((ev_b33 fu a_0 b_1).trans hy)
theorem good_b33 (fu : Nat) : ∀ xs o, S_b33 fu xs = some o → ∀ y, o.x = some y → Good E Try.prog 93 xs (o.g y) := by
  intro xs o h y hy
  unfold S_b33 at h
  split at h
  · rename_i za0_0 na0_0 fa0_0 za1_0 na1_0 fa1_0
    cases h
    exact goodv_b33 fu (⟨za0_0, na0_0, fa0_0⟩ : (Sl S_impl_Backend)) (⟨za1_0, na1_0, fa1_0⟩ : (Sl S_impl_Backend)) y hy
  · cases h

/-! laws.eqInt64S -/
def F_laws_eqInt64S_B0 {ρ : Type} (fu : Nat) (a0_0 : (Sl Int)) (b1_1 : (Sl Int)) (k0 : Option ρ) (k1 : Option ρ) (i5_2 : Int) (go : Int → Option ρ) : Option ρ :=
  (bif (decide (i5_2 < ((a0_0.n : Nat) : Int))) then ((bif (decide (0 ≤ i5_2) && decide ((Int.toNat i5_2) < a0_0.n)) then some () else none : Option Unit).bind fun _ => ((bif (decide (0 ≤ i5_2) &&
    decide ((Int.toNat i5_2) < b1_1.n)) then some () else none : Option Unit).bind fun _ => (bif ((a0_0.f (Int.toNat i5_2)) != (b1_1.f (Int.toNat i5_2))) then k0 else (go (IntKind.wrap .i64 (i5_2 + 1)))))) else
    k1)
def F_laws_eqInt64S (fu : Nat) (a_0 : (Sl Int)) (b_1 : (Sl Int)) : Option (Bool) :=
  (bif (((a_0.n : Nat) : Int) != ((b_1.n : Nat) : Int)) then (some false) else (L (fun w0 go0 => F_laws_eqInt64S_B0 fu a_0 b_1 (some false) (some true) w0 go0) fu (0 : Int)))
def pc_b34 (fu : Nat) : Pc RT den := ⟨pcf0, fun _ => false, fun _ => false, pcd0, pcx0⟩
def msk_b34 (b : Nat) : List Nat := match b with | 0 => [2, 3, 4, 6, 7, 8, 9, 10, 11, 12, 13, 14, 15, 16, 17, 18, 19, 20, 21, 22, 23, 24, 25] | 100000 => [0, 1, 2, 3, 5, 6, 7, 8, 9, 10, 11, 12, 13, 14, 15, 16, 17, 18, 19, 20, 21, 22, 23, 24, 25] | _ => []
def ps_b34_0 : List (Pat RT) := [.flat (.rs .i64), .flat (.rs .i64), .flat .q, .flat .q, .flat .q, .flat (.int .i64), .flat .q, .flat .q, .flat .q, .flat .q, .flat .q, .flat .q, .flat .q, .flat .q, .flat .q, .flat .q, .flat .q, .flat .q, .flat .q, .flat .q, .flat .q, .flat .q, .flat .q, .flat .q, .flat .q, .flat .q]
def os_b34_0 : List (OP RT) := []
def conv_b34_0 (r : Raw den ps_b34_0 os_b34_0) : ((Sl Int) × (Sl Int)) × (Int) := ((r.1.1, r.1.2.1), r.1.2.2.2.2.2.1)
def back_b34_0 (c : (Sl Int) × (Sl Int)) (w : Int) : St RT den := ⟨[(.rs c.1.z .i64 c.1.n c.1.f), (.rs c.2.z .i64 c.2.n c.2.f), .q, .q, .q, (.int .i64 w), .q, .q, .q, .q, .q, .q, .q, .q, .q, .q, .q, .q, .q, .q, .q, .q, .q, .q, .q, .q], []⟩
def Bk_b34_0 {ρ : Type} (fu : Nat) (c : (Sl Int) × (Sl Int)) (k : Ex → St RT den → Option ρ) (w : Int) (go : (Int) → Option ρ) : Option ρ := F_laws_eqInt64S_B0 fu c.1 c.2 (k .ret ⟨[.q, .q, .q, .q, (.bool false), .q, .q, .q, .q, .q, .q, .q, .q, .q, .q, .q, .q, .q, .q, .q, .q, .q, .q, .q, .q, .q], []⟩) (k (.exit 0) ⟨[.q, .q, .q, .q, .q, .q, .q, .q, .q, .q, .q, .q, .q, .q, .q, .q, .q, .q, .q, .q, .q, .q, .q, .q, .q, .q], []⟩) w go
def lp_b34 (fu : Nat) : Lp RT den (Bool) := fun b s k => match b with | 0 => handle ps_b34_0 os_b34_0 conv_b34_0 (Bk_b34_0 fu) fu s k | _ => none
theorem ev_b34 (fu : Nat) (a_0 : (Sl Int)) (b_1 : (Sl Int)) : evFun E (pc_b34 fu) msk_b34 (lp_b34 fu) out_bo 140 [(.rs a_0.z .i64 a_0.n a_0.f), (.rs b_1.z .i64 b_1.n b_1.f)] = F_laws_eqInt64S fu a_0 b_1 := by kernel_rfl
noncomputable def body_b34 : Code := Try.f140.body.getD .skip
noncomputable def lc_b34_0 : Code := ((loops 0 body_b34).getD 0 (0, .skip)).2
theorem round_b34_0 (fu : Nat) (it : St RT den → Option (Bool)) (k : Ex → St RT den → Option (Bool)) c w : evCode E (pc_b34 fu) msk_b34 (lp_b34 fu) 0 lc_b34_0 (back_b34_0 c w) (after (msk_b34 0) (msk_b34 100000) 0 it k) = Bk_b34_0 fu c k w (fun w => it (back_b34_0 c w)) := by kernel_rfl
theorem lpok_b34_0 (fu : Nat) : ∀ s k r, lp_b34 fu 0 s k = some r → ∃ fuel, iter (msk_b34 0) (msk_b34 100000) s.objs.length (evCode E (pc_b34 fu) msk_b34 (lp_b34 fu) 0 lc_b34_0) fuel s k = some r :=
  handle_ok (ps := ps_b34_0) (os := os_b34_0) (conv := conv_b34_0) (B := Bk_b34_0 fu) (fu := fu) back_b34_0 (fun raw => by kernel_rfl) 0 (fun c w => by kernel_rfl) (round_b34_0 fu)
theorem lpok_b34 (fu : Nat) : LpOk E (pc_b34 fu) msk_b34 (lp_b34 fu) (loops 0 body_b34) := loop_all 1 (by kernel_rfl) fun i hi => match i, hi with
  | 0, _ => by
    have h : (loops 0 body_b34).getD 0 (0, .skip) = (0, lc_b34_0) := by kernel_rfl
    rw [h]; exact lpok_b34_0 fu
  | i + 1, hi => absurd hi (by omega)
def S_b34 (fu : Nat) (xs : List (D RT den)) : Option (Out RT den) := match xs with | [.rs za0_0 .i64 na0_0 fa0_0, .rs za1_0 .i64 na1_0 fa1_0] => some ⟨Bool, F_laws_eqInt64S fu (⟨za0_0, na0_0, fa0_0⟩ : (Sl Int)) (⟨za1_0, na1_0, fa1_0⟩ : (Sl Int)), enc_bo, fun _ => true⟩ | _ => none
theorem goodv_b34 (fu : Nat) (a_0 : (Sl Int)) (b_1 : (Sl Int)) (y : Bool) (hy : F_laws_eqInt64S fu a_0 b_1 = some y) : Good E Try.prog 140 [(.rs a_0.z .i64 a_0.n a_0.f), (.rs b_1.z .i64 b_1.n b_1.f)] (enc_bo y) :=
  fun_good E_ok (pc_good (pc := pc_b34 fu) hpc0 hpx0) (fn := Try.f140) (c := body_b34) (out := out_bo) (y := y) (by kernel_rfl) (by kernel_rfl) (by kernel_rfl) (lpok_b34 fu) (fun d hd => out_bo_enc d _ hd) ((ev_b34 fu a_0 b_1).trans hy)
theorem good_b34 (fu : Nat) : ∀ xs o, S_b34 fu xs = some o → ∀ y, o.x = some y → Good E Try.prog 140 xs (o.g y) := by
  intro xs o h y hy
  unfold S_b34 at h
  split at h
  · rename_i za0_0 na0_0 fa0_0 za1_0 na1_0 fa1_0
    cases h
    exact goodv_b34 fu (⟨za0_0, na0_0, fa0_0⟩ : (Sl Int)) (⟨za1_0, na1_0, fa1_0⟩ : (Sl Int)) y hy
  · cases h

/-! laws.eqVip -/
def F_laws_eqVip (fu : Nat) (a_0 : S_impl_Vip) (b_1 : S_impl_Vip) : Option (Bool) :=
  (bif (a_0.Address != b_1.Address) then (some false) else (bif (a_0.Port != b_1.Port) then (some false) else (bif (a_0.Proto != b_1.Proto) then (some false) else ((F_laws_eqInt64S fu a_0.Names b_1.Names).bind fun y291 =>
    (bif (!y291) then (some false) else (some true))))))
def pcf_b35 (fu : Nat) (f : Nat) (xs : List (D RT den)) : Option (Out RT den) := match f with | 140 => S_b34 fu xs | _ => none
def pc_b35 (fu : Nat) : Pc RT den := ⟨pcf_b35 fu, fun _ => false, fun _ => false, pcd0, pcx0⟩
def msk_b35 (b : Nat) : List Nat := []
def lp_b35 (fu : Nat) : Lp RT den (Bool) := fun b s k => none
theorem ev_b35 (fu : Nat) (a_0 : S_impl_Vip) (b_1 : S_impl_Vip) : evFun E (pc_b35 fu) msk_b35 (lp_b35 fu) out_bo 128 [(.agg [(.int .i64 a_0.Address), (.int .i64 a_0.Port), (.int .i64 a_0.Proto), (.rs a_0.Names.z .i64 a_0.Names.n a_0.Names.f)]), (.agg [(.int .i64 b_1.Address), (.int .i64 b_1.Port), (.int .i64 b_1.Proto), (.rs b_1.Names.z .i64 b_1.Names.n b_1.Names.f)])] = F_laws_eqVip fu a_0 b_1 := by kernel_rfl
noncomputable def body_b35 : Code := Try.f128.body.getD .skip
theorem lpok_b35 (fu : Nat) : LpOk E (pc_b35 fu) msk_b35 (lp_b35 fu) (loops 0 body_b35) := by
  have h : loops 0 body_b35 = [] := by kernel_rfl
  rw [h]; intro p hp; cases hp
def S_b35 (fu : Nat) (xs : List (D RT den)) : Option (Out RT den) := match xs with | [.agg [.int .i64 a0_1, .int .i64 a0_2, .int .i64 a0_3, .rs za0_4 .i64 na0_4 fa0_4], .agg [.int .i64 a1_1, .int .i64 a1_2, .int .i64 a1_3, .rs za1_4 .i64 na1_4 fa1_4]] => some ⟨Bool, F_laws_eqVip fu (⟨a0_1, a0_2, a0_3, (⟨za0_4, na0_4, fa0_4⟩ : (Sl Int))⟩ : S_impl_Vip) (⟨a1_1, a1_2, a1_3, (⟨za1_4, na1_4, fa1_4⟩ : (Sl Int))⟩ : S_impl_Vip), enc_bo, fun _ => true⟩ | _ => none
theorem hpc_b35 (fu : Nat) : ∀ f xs o, pcf_b35 fu f xs = some o → ∀ y, o.x = some y → Good E Try.prog f xs (o.g y) := by
  intro f xs o h
  unfold pcf_b35 at h
  split at h
  · exact good_b34 fu xs o h
  · cases h
theorem goodv_b35 (fu : Nat) (a_0 : S_impl_Vip) (b_1 : S_impl_Vip) (y : Bool) (hy : F_laws_eqVip fu a_0 b_1 = some y) : Good E Try.prog 128 [(.agg [(.int .i64 a_0.Address), (.int .i64 a_0.Port), (.int .i64 a_0.Proto), (.rs a_0.Names.z .i64 a_0.Names.n a_0.Names.f)]), (.agg [(.int .i64 b_1.Address), (.int .i64 b_1.Port), (.int .i64 b_1.Proto), (.rs b_1.Names.z .i64 b_1.Names.n b_1.Names.f)])] (enc_bo y) :=
  fun_good E_ok (pc_good (pc := pc_b35 fu) (hpc_b35 fu) hpx0) (fn := Try.f128) (c := body_b35) (out := out_bo) (y := y) (by kernel_rfl) (by kernel_rfl) (by kernel_rfl) (lpok_b35 fu) (fun d hd => out_bo_enc d _ hd) ((ev_b35 fu a_0 b_1).trans hy)
theorem good_b35 (fu : Nat) : ∀ xs o, S_b35 fu xs = some o → ∀ y, o.x = some y → Good E Try.prog 128 xs (o.g y) := by
  intro xs o h y hy
  unfold S_b35 at h
  split at h
  · rename_i a0_1 a0_2 a0_3 za0_4 na0_4 fa0_4 a1_1 a1_2 a1_3 za1_4 na1_4 fa1_4
    cases h
    exact goodv_b35 fu (⟨a0_1, a0_2, a0_3, (⟨za0_4, na0_4, fa0_4⟩ : (Sl Int))⟩ : S_impl_Vip) (⟨a1_1, a1_2, a1_3, (⟨za1_4, na1_4, fa1_4⟩ : (Sl Int))⟩ : S_impl_Vip) y hy
  · cases h

/-! laws.eqVipS -/
def F_laws_eqVipS_B0 {ρ : Type} (fu : Nat) (a0_0 : (Sl S_impl_Vip)) (b1_1 : (Sl S_impl_Vip)) (k0 : Option ρ) (k1 : Option ρ) (i5_2 : Int) (go : Int → Option ρ) : Option ρ :=
  (bif (decide (i5_2 < ((a0_0.n : Nat) : Int))) then ((bif (decide (0 ≤ i5_2) && decide ((Int.toNat i5_2) < a0_0.n)) then some () else none : Option Unit).bind fun _ => ((bif (decide (0 ≤ i5_2) &&
    decide ((Int.toNat i5_2) < b1_1.n)) then some () else none : Option Unit).bind fun _ => ((F_laws_eqVip fu (a0_0.f (Int.toNat i5_2)) (b1_1.f (Int.toNat i5_2))).bind fun y290 =>
    (bif (!y290) then k0 else (go (IntKind.wrap .i64 (i5_2 + 1))))))) else k1)
def F_laws_eqVipS (fu : Nat) (a_0 : (Sl S_impl_Vip)) (b_1 : (Sl S_impl_Vip)) : Option (Bool) :=
  (bif (((a_0.n : Nat) : Int) != ((b_1.n : Nat) : Int)) then (some false) else (L (fun w0 go0 => F_laws_eqVipS_B0 fu a_0 b_1 (some false) (some true) w0 go0) fu (0 : Int)))
def pcf_b36 (fu : Nat) (f : Nat) (xs : List (D RT den)) : Option (Out RT den) := match f with | 128 => S_b35 fu xs | _ => none
def pc_b36 (fu : Nat) : Pc RT den := ⟨pcf_b36 fu, fun _ => false, fun _ => false, pcd0, pcx0⟩
def msk_b36 (b : Nat) : List Nat := match b with | 0 => [2, 3, 4, 6, 7, 8, 9, 10, 11, 12, 13, 14, 15, 16, 17, 18, 19, 20, 21, 22, 23, 24, 25, 26] | 100000 => [0, 1, 2, 3, 5, 6, 7, 8, 9, 10, 11, 12, 13, 14, 15, 16, 17, 18, 19, 20, 21, 22, 23, 24, 25, 26] | _ => []
def ps_b36_0 : List (Pat RT) := [.flat (.rs .impl_Vip), .flat (.rs .impl_Vip), .flat .q, .flat .q, .flat .q, .flat (.int .i64), .flat .q, .flat .q, .flat .q, .flat .q, .flat .q, .flat .q, .flat .q, .flat .q, .flat .q, .flat .q, .flat .q, .flat .q, .flat .q, .flat .q, .flat .q, .flat .q, .flat .q, .flat .q, .flat .q, .flat .q, .flat .q]
def os_b36_0 : List (OP RT) := []
def conv_b36_0 (r : Raw den ps_b36_0 os_b36_0) : ((Sl S_impl_Vip) × (Sl S_impl_Vip)) × (Int) := ((r.1.1, r.1.2.1), r.1.2.2.2.2.2.1)
def back_b36_0 (c : (Sl S_impl_Vip) × (Sl S_impl_Vip)) (w : Int) : St RT den := ⟨[(.rs c.1.z .impl_Vip c.1.n c.1.f), (.rs c.2.z .impl_Vip c.2.n c.2.f), .q, .q, .q, (.int .i64 w), .q, .q, .q, .q, .q, .q, .q, .q, .q, .q, .q, .q, .q, .q, .q, .q, .q, .q, .q, .q, .q], []⟩
def Bk_b36_0 {ρ : Type} (fu : Nat) (c : (Sl S_impl_Vip) × (Sl S_impl_Vip)) (k : Ex → St RT den → Option ρ) (w : Int) (go : (Int) → Option ρ) : Option ρ := F_laws_eqVipS_B0 fu c.1 c.2 (k .ret ⟨[.q, .q, .q, .q, (.bool false), .q, .q, .q, .q, .q, .q, .q, .q, .q, .q, .q, .q, .q, .q, .q, .q, .q, .q, .q, .q, .q, .q], []⟩) (k (.exit 0) ⟨[.q, .q, .q, .q, .q, .q, .q, .q, .q, .q, .q, .q, .q, .q, .q, .q, .q, .q, .q, .q, .q, .q, .q, .q, .q, .q, .q], []⟩) w go
def lp_b36 (fu : Nat) : Lp RT den (Bool) := fun b s k => match b with | 0 => handle ps_b36_0 os_b36_0 conv_b36_0 (Bk_b36_0 fu) fu s k | _ => none
theorem ev_b36 (fu : Nat) (a_0 : (Sl S_impl_Vip)) (b_1 : (Sl S_impl_Vip)) : evFun E (pc_b36 fu) msk_b36 (lp_b36 fu) out_bo 94 [(.rs a_0.z .impl_Vip a_0.n a_0.f), (.rs b_1.z .impl_Vip b_1.n b_1.f)] = F_laws_eqVipS fu a_0 b_1 := by kernel_rfl
noncomputable def body_b36 : Code := Try.f94.body.getD .skip
noncomputable def lc_b36_0 : Code := ((loops 0 body_b36).getD 0 (0, .skip)).2
theorem round_b36_0 (fu : Nat) (it : St RT den → Option (Bool)) (k : Ex → St RT den → Option (Bool)) c w : evCode E (pc_b36 fu) msk_b36 (lp_b36 fu) 0 lc_b36_0 (back_b36_0 c w) (after (msk_b36 0) (msk_b36 100000) 0 it k) = Bk_b36_0 fu c k w (fun w => it (back_b36_0 c w)) := by kernel_rfl
theorem lpok_b36_0 (fu : Nat) : ∀ s k r, lp_b36 fu 0 s k = some r → ∃ fuel, iter (msk_b36 0) (msk_b36 100000) s.objs.length (evCode E (pc_b36 fu) msk_b36 (lp_b36 fu) 0 lc_b36_0) fuel s k = some r :=
  handle_ok (ps := ps_b36_0) (os := os_b36_0) (conv := conv_b36_0) (B := Bk_b36_0 fu) (fu := fu) back_b36_0 (fun raw => by kernel_rfl) 0 (fun c w => by kernel_rfl) (round_b36_0 fu)
theorem lpok_b36 (fu : Nat) : LpOk E (pc_b36 fu) msk_b36 (lp_b36 fu) (loops 0 body_b36) := loop_all 1 (by kernel_rfl) fun i hi => match i, hi with
  | 0, _ => by
    have h : (loops 0 body_b36).getD 0 (0, .skip) = (0, lc_b36_0) := by kernel_rfl
    rw [h]; exact lpok_b36_0 fu
  | i + 1, hi => absurd hi (by omega)
def S_b36 (fu : Nat) (xs : List (D RT den)) : Option (Out RT den) := match xs with | [.rs za0_0 .impl_Vip na0_0 fa0_0, .rs za1_0 .impl_Vip na1_0 fa1_0] => some ⟨Bool, F_laws_eqVipS fu (⟨za0_0, na0_0, fa0_0⟩ : (Sl S_impl_Vip)) (⟨za1_0, na1_0, fa1_0⟩ : (Sl S_impl_Vip)), enc_bo, fun _ => true⟩ | _ => none
theorem hpc_b36 (fu : Nat) : ∀ f xs o, pcf_b36 fu f xs = some o → ∀ y, o.x = some y → Good E Try.prog f xs (o.g y) := by
  intro f xs o h
  unfold pcf_b36 at h
  split at h
  · exact good_b35 fu xs o h
  · cases h
theorem goodv_b36 (fu : Nat) (a_0 : (Sl S_impl_Vip)) (b_1 : (Sl S_impl_Vip)) (y : Bool) (hy : F_laws_eqVipS fu a_0 b_1 = some y) : Good E Try.prog 94 [(.rs a_0.z .impl_Vip a_0.n a_0.f), (.rs b_1.z .impl_Vip b_1.n b_1.f)] (enc_bo y) :=
  fun_good E_ok (pc_good (pc := pc_b36 fu) (hpc_b36 fu) hpx0) (fn := Try.f94) (c := body_b36) (out := out_bo) (y := y) (by kernel_rfl) (by kernel_rfl) (by kernel_rfl) (lpok_b36 fu) (fun d hd => out_bo_enc d _ hd) ((ev_b36 fu a_0 b_1).trans hy)
theorem good_b36 (fu : Nat) : ∀ xs o, S_b36 fu xs = some o → ∀ y, o.x = some y → Good E Try.prog 94 xs (o.g y) := by
  intro xs o h y hy
  unfold S_b36 at h
  split at h
  · rename_i za0_0 na0_0 fa0_0 za1_0 na1_0 fa1_0
    cases h
    exact goodv_b36 fu (⟨za0_0, na0_0, fa0_0⟩ : (Sl S_impl_Vip)) (⟨za1_0, na1_0, fa1_0⟩ : (Sl S_impl_Vip)) y hy
  · cases h

/-! laws.eqConfig -/
def F_laws_eqConfig (fu : Nat) (a_0 : S_impl_Config) (b_1 : S_impl_Config) : Option (Bool) :=
  (bif (a_0.Version != b_1.Version) then (some false) else ((F_laws_eqBackendS fu a_0.Backends b_1.Backends).bind fun y287 => (bif (!y287) then (some false) else ((F_laws_eqVipS fu a_0.Vips b_1.Vips).bind fun y288 =>
    (bif (!y288) then (some false) else (some true))))))
def pcf_b37 (fu : Nat) (f : Nat) (xs : List (D RT den)) : Option (Out RT den) := match f with | 93 => S_b33 fu xs | 94 => S_b36 fu xs | _ => none
def pc_b37 (fu : Nat) : Pc RT den := ⟨pcf_b37 fu, fun _ => false, fun _ => false, pcd0, pcx0⟩
def msk_b37 (b : Nat) : List Nat := []
def lp_b37 (fu : Nat) : Lp RT den (Bool) := fun b s k => none
theorem ev_b37 (fu : Nat) (a_0 : S_impl_Config) (b_1 : S_impl_Config) : evFun E (pc_b37 fu) msk_b37 (lp_b37 fu) out_bo 46 [(.agg [(.int .i64 a_0.Version), (.rs a_0.Backends.z .impl_Backend a_0.Backends.n a_0.Backends.f), (.rs a_0.Vips.z .impl_Vip a_0.Vips.n a_0.Vips.f)]), (.agg [(.int .i64 b_1.Version), (.rs b_1.Backends.z .impl_Backend b_1.Backends.n b_1.Backends.f), (.rs b_1.Vips.z .impl_Vip b_1.Vips.n b_1.Vips.f)])] = F_laws_eqConfig fu a_0 b_1 := by kernel_rfl
noncomputable def body_b37 : Code := Try.f46.body.getD .skip
theorem lpok_b37 (fu : Nat) : LpOk E (pc_b37 fu) msk_b37 (lp_b37 fu) (loops 0 body_b37) := by
  have h : loops 0 body_b37 = [] := by kernel_rfl
  rw [h]; intro p hp; cases hp
def S_b37 (fu : Nat) (xs : List (D RT den)) : Option (Out RT den) := match xs with | [.agg [.int .i64 a0_1, .rs za0_2 .impl_Backend na0_2 fa0_2, .rs za0_3 .impl_Vip na0_3 fa0_3], .agg [.int .i64 a1_1, .rs za1_2 .impl_Backend na1_2 fa1_2, .rs za1_3 .impl_Vip na1_3 fa1_3]] => some ⟨Bool, F_laws_eqConfig fu (⟨a0_1, (⟨za0_2, na0_2, fa0_2⟩ : (Sl S_impl_Backend)), (⟨za0_3, na0_3, fa0_3⟩ : (Sl S_impl_Vip))⟩ : S_impl_Config) (⟨a1_1, (⟨za1_2, na1_2, fa1_2⟩ : (Sl S_impl_Backend)), (⟨za1_3, na1_3, fa1_3⟩ : (Sl S_impl_Vip))⟩ : S_impl_Config), enc_bo, fun _ => true⟩ | _ => none
theorem hpc_b37 (fu : Nat) : ∀ f xs o, pcf_b37 fu f xs = some o → ∀ y, o.x = some y → Good E Try.prog f xs (o.g y) := by
  intro f xs o h
  unfold pcf_b37 at h
  split at h
  · exact good_b33 fu xs o h
  · exact good_b36 fu xs o h
  · cases h
theorem goodv_b37 (fu : Nat) (a_0 : S_impl_Config) (b_1 : S_impl_Config) (y : Bool) (hy : F_laws_eqConfig fu a_0 b_1 = some y) : Good E Try.prog 46 [(.agg [(.int .i64 a_0.Version), (.rs a_0.Backends.z .impl_Backend a_0.Backends.n a_0.Backends.f), (.rs a_0.Vips.z .impl_Vip a_0.Vips.n a_0.Vips.f)]), (.agg [(.int .i64 b_1.Version), (.rs b_1.Backends.z .impl_Backend b_1.Backends.n b_1.Backends.f), (.rs b_1.Vips.z .impl_Vip b_1.Vips.n b_1.Vips.f)])] (enc_bo y) :=
  fun_good E_ok (pc_good (pc := pc_b37 fu) (hpc_b37 fu) hpx0) (fn := Try.f46) (c := body_b37) (out := out_bo) (y := y) (by kernel_rfl) (by kernel_rfl) (by kernel_rfl) (lpok_b37 fu) (fun d hd => out_bo_enc d _ hd) ((ev_b37 fu a_0 b_1).trans hy)
theorem good_b37 (fu : Nat) : ∀ xs o, S_b37 fu xs = some o → ∀ y, o.x = some y → Good E Try.prog 46 xs (o.g y) := by
  intro xs o h y hy
  unfold S_b37 at h
  split at h
  · rename_i a0_1 za0_2 na0_2 fa0_2 za0_3 na0_3 fa0_3 a1_1 za1_2 na1_2 fa1_2 za1_3 na1_3 fa1_3
    cases h
    exact goodv_b37 fu (⟨a0_1, (⟨za0_2, na0_2, fa0_2⟩ : (Sl S_impl_Backend)), (⟨za0_3, na0_3, fa0_3⟩ : (Sl S_impl_Vip))⟩ : S_impl_Config) (⟨a1_1, (⟨za1_2, na1_2, fa1_2⟩ : (Sl S_impl_Backend)), (⟨za1_3, na1_3, fa1_3⟩ : (Sl S_impl_Vip))⟩ : S_impl_Config) y hy
  · cases h

/-! laws.eqCmd -/
def F_laws_eqCmd (fu : Nat) (a_0 : S_impl_Cmd) (b_1 : S_impl_Cmd) : Option (Bool) :=
  (bif (a_0.Kind != b_1.Kind) then (some false) else (bif (a_0.Expect != b_1.Expect) then (some false) else (bif (a_0.Name != b_1.Name) then (some false) else (bif (a_0.Addr != b_1.Addr) then
    (some false) else (bif (a_0.Number != b_1.Number) then (some false) else (bif (a_0.Proto != b_1.Proto) then (some false) else (some true)))))))
def pc_b38 (fu : Nat) : Pc RT den := ⟨pcf0, fun _ => false, fun _ => false, pcd0, pcx0⟩
def msk_b38 (b : Nat) : List Nat := []
def lp_b38 (fu : Nat) : Lp RT den (Bool) := fun b s k => none
theorem ev_b38 (fu : Nat) (a_0 : S_impl_Cmd) (b_1 : S_impl_Cmd) : evFun E (pc_b38 fu) msk_b38 (lp_b38 fu) out_bo 75 [(.agg [(.int .i64 a_0.Kind), (.int .i64 a_0.Expect), (.int .i64 a_0.Name), (.int .i64 a_0.Addr), (.int .i64 a_0.Number), (.int .i64 a_0.Proto)]), (.agg [(.int .i64 b_1.Kind), (.int .i64 b_1.Expect), (.int .i64 b_1.Name), (.int .i64 b_1.Addr), (.int .i64 b_1.Number), (.int .i64 b_1.Proto)])] = F_laws_eqCmd fu a_0 b_1 := by kernel_rfl
noncomputable def body_b38 : Code := Try.f75.body.getD .skip
theorem lpok_b38 (fu : Nat) : LpOk E (pc_b38 fu) msk_b38 (lp_b38 fu) (loops 0 body_b38) := by
  have h : loops 0 body_b38 = [] := by kernel_rfl
  rw [h]; intro p hp; cases hp
def S_b38 (fu : Nat) (xs : List (D RT den)) : Option (Out RT den) := match xs with | [.agg [.int .i64 a0_1, .int .i64 a0_2, .int .i64 a0_3, .int .i64 a0_4, .int .i64 a0_5, .int .i64 a0_6], .agg [.int .i64 a1_1, .int .i64 a1_2, .int .i64 a1_3, .int .i64 a1_4, .int .i64 a1_5, .int .i64 a1_6]] => some ⟨Bool, F_laws_eqCmd fu (⟨a0_1, a0_2, a0_3, a0_4, a0_5, a0_6⟩ : S_impl_Cmd) (⟨a1_1, a1_2, a1_3, a1_4, a1_5, a1_6⟩ : S_impl_Cmd), enc_bo, fun _ => true⟩ | _ => none
theorem goodv_b38 (fu : Nat) (a_0 : S_impl_Cmd) (b_1 : S_impl_Cmd) (y : Bool) (hy : F_laws_eqCmd fu a_0 b_1 = some y) : Good E Try.prog 75 [(.agg [(.int .i64 a_0.Kind), (.int .i64 a_0.Expect), (.int .i64 a_0.Name), (.int .i64 a_0.Addr), (.int .i64 a_0.Number), (.int .i64 a_0.Proto)]), (.agg [(.int .i64 b_1.Kind), (.int .i64 b_1.Expect), (.int .i64 b_1.Name), (.int .i64 b_1.Addr), (.int .i64 b_1.Number), (.int .i64 b_1.Proto)])] (enc_bo y) :=
  fun_good E_ok (pc_good (pc := pc_b38 fu) hpc0 hpx0) (fn := Try.f75) (c := body_b38) (out := out_bo) (y := y) (by kernel_rfl) (by kernel_rfl) (by kernel_rfl) (lpok_b38 fu) (fun d hd => out_bo_enc d _ hd) ((ev_b38 fu a_0 b_1).trans hy)
theorem good_b38 (fu : Nat) : ∀ xs o, S_b38 fu xs = some o → ∀ y, o.x = some y → Good E Try.prog 75 xs (o.g y) := by
  intro xs o h y hy
  unfold S_b38 at h
  split at h
  · rename_i a0_1 a0_2 a0_3 a0_4 a0_5 a0_6 a1_1 a1_2 a1_3 a1_4 a1_5 a1_6
    cases h
    exact goodv_b38 fu (⟨a0_1, a0_2, a0_3, a0_4, a0_5, a0_6⟩ : S_impl_Cmd) (⟨a1_1, a1_2, a1_3, a1_4, a1_5, a1_6⟩ : S_impl_Cmd) y hy
  · cases h

/-! laws.eqCmdS -/
def F_laws_eqCmdS_B0 {ρ : Type} (fu : Nat) (a0_0 : (Sl S_impl_Cmd)) (b1_1 : (Sl S_impl_Cmd)) (k0 : Option ρ) (k1 : Option ρ) (i5_2 : Int) (go : Int → Option ρ) : Option ρ :=
  (bif (decide (i5_2 < ((a0_0.n : Nat) : Int))) then ((bif (decide (0 ≤ i5_2) && decide ((Int.toNat i5_2) < a0_0.n)) then some () else none : Option Unit).bind fun _ => ((bif (decide (0 ≤ i5_2) &&
    decide ((Int.toNat i5_2) < b1_1.n)) then some () else none : Option Unit).bind fun _ => ((F_laws_eqCmd fu (a0_0.f (Int.toNat i5_2)) (b1_1.f (Int.toNat i5_2))).bind fun y292 =>
    (bif (!y292) then k0 else (go (IntKind.wrap .i64 (i5_2 + 1))))))) else k1)
def F_laws_eqCmdS (fu : Nat) (a_0 : (Sl S_impl_Cmd)) (b_1 : (Sl S_impl_Cmd)) : Option (Bool) :=
  (bif (((a_0.n : Nat) : Int) != ((b_1.n : Nat) : Int)) then (some false) else (L (fun w0 go0 => F_laws_eqCmdS_B0 fu a_0 b_1 (some false) (some true) w0 go0) fu (0 : Int)))
def pcf_b39 (fu : Nat) (f : Nat) (xs : List (D RT den)) : Option (Out RT den) := match f with | 75 => S_b38 fu xs | _ => none
def pc_b39 (fu : Nat) : Pc RT den := ⟨pcf_b39 fu, fun _ => false, fun _ => false, pcd0, pcx0⟩
def msk_b39 (b : Nat) : List Nat := match b with | 0 => [2, 3, 4, 6, 7, 8, 9, 10, 11, 12, 13, 14, 15, 16, 17, 18, 19, 20, 21, 22, 23, 24, 25, 26] | 100000 => [0, 1, 2, 3, 5, 6, 7, 8, 9, 10, 11, 12, 13, 14, 15, 16, 17, 18, 19, 20, 21, 22, 23, 24, 25, 26] | _ => []
def ps_b39_0 : List (Pat RT) := [.flat (.rs .impl_Cmd), .flat (.rs .impl_Cmd), .flat .q, .flat .q, .flat .q, .flat (.int .i64), .flat .q, .flat .q, .flat .q, .flat .q, .flat .q, .flat .q, .flat .q, .flat .q, .flat .q, .flat .q, .flat .q, .flat .q, .flat .q, .flat .q, .flat .q, .flat .q, .flat .q, .flat .q, .flat .q, .flat .q, .flat .q]
def os_b39_0 : List (OP RT) := []
def conv_b39_0 (r : Raw den ps_b39_0 os_b39_0) : ((Sl S_impl_Cmd) × (Sl S_impl_Cmd)) × (Int) := ((r.1.1, r.1.2.1), r.1.2.2.2.2.2.1)
def back_b39_0 (c : (Sl S_impl_Cmd) × (Sl S_impl_Cmd)) (w : Int) : St RT den := ⟨[(.rs c.1.z .impl_Cmd c.1.n c.1.f), (.rs c.2.z .impl_Cmd c.2.n c.2.f), .q, .q, .q, (.int .i64 w), .q, .q, .q, .q, .q, .q, .q, .q, .q, .q, .q, .q, .q, .q, .q, .q, .q, .q, .q, .q, .q], []⟩
def Bk_b39_0 {ρ : Type} (fu : Nat) (c : (Sl S_impl_Cmd) × (Sl S_impl_Cmd)) (k : Ex → St RT den → Option ρ) (w : Int) (go : (Int) → Option ρ) : Option ρ := F_laws_eqCmdS_B0 fu c.1 c.2 (k .ret ⟨[.q, .q, .q, .q, (.bool false), .q, .q, .q, .q, .q, .q, .q, .q, .q, .q, .q, .q, .q, .q, .q, .q, .q, .q, .q, .q, .q, .q], []⟩) (k (.exit 0) ⟨[.q, .q, .q, .q, .q, .q, .q, .q, .q, .q, .q, .q, .q, .q, .q, .q, .q, .q, .q, .q, .q, .q, .q, .q, .q, .q, .q], []⟩) w go
def lp_b39 (fu : Nat) : Lp RT den (Bool) := fun b s k => match b with | 0 => handle ps_b39_0 os_b39_0 conv_b39_0 (Bk_b39_0 fu) fu s k | _ => none
theorem ev_b39 (fu : Nat) (a_0 : (Sl S_impl_Cmd)) (b_1 : (Sl S_impl_Cmd)) : evFun E (pc_b39 fu) msk_b39 (lp_b39 fu) out_bo 34 [(.rs a_0.z .impl_Cmd a_0.n a_0.f), (.rs b_1.z .impl_Cmd b_1.n b_1.f)] = F_laws_eqCmdS fu a_0 b_1 := by kernel_rfl
noncomputable def body_b39 : Code := Try.f34.body.getD .skip
noncomputable def lc_b39_0 : Code := ((loops 0 body_b39).getD 0 (0, .skip)).2
theorem round_b39_0 (fu : Nat) (it : St RT den → Option (Bool)) (k : Ex → St RT den → Option (Bool)) c w : evCode E (pc_b39 fu) msk_b39 (lp_b39 fu) 0 lc_b39_0 (back_b39_0 c w) (after (msk_b39 0) (msk_b39 100000) 0 it k) = Bk_b39_0 fu c k w (fun w => it (back_b39_0 c w)) := by kernel_rfl
theorem lpok_b39_0 (fu : Nat) : ∀ s k r, lp_b39 fu 0 s k = some r → ∃ fuel, iter (msk_b39 0) (msk_b39 100000) s.objs.length (evCode E (pc_b39 fu) msk_b39 (lp_b39 fu) 0 lc_b39_0) fuel s k = some r :=
  handle_ok (ps := ps_b39_0) (os := os_b39_0) (conv := conv_b39_0) (B := Bk_b39_0 fu) (fu := fu) back_b39_0 (fun raw => by kernel_rfl) 0 (fun c w => by kernel_rfl) (round_b39_0 fu)
theorem lpok_b39 (fu : Nat) : LpOk E (pc_b39 fu) msk_b39 (lp_b39 fu) (loops 0 body_b39) := loop_all 1 (by kernel_rfl) fun i hi => match i, hi with
  | 0, _ => by
    have h : (loops 0 body_b39).getD 0 (0, .skip) = (0, lc_b39_0) := by kernel_rfl
    rw [h]; exact lpok_b39_0 fu
  | i + 1, hi => absurd hi (by omega)
def S_b39 (fu : Nat) (xs : List (D RT den)) : Option (Out RT den) := match xs with | [.rs za0_0 .impl_Cmd na0_0 fa0_0, .rs za1_0 .impl_Cmd na1_0 fa1_0] => some ⟨Bool, F_laws_eqCmdS fu (⟨za0_0, na0_0, fa0_0⟩ : (Sl S_impl_Cmd)) (⟨za1_0, na1_0, fa1_0⟩ : (Sl S_impl_Cmd)), enc_bo, fun _ => true⟩ | _ => none
theorem hpc_b39 (fu : Nat) : ∀ f xs o, pcf_b39 fu f xs = some o → ∀ y, o.x = some y → Good E Try.prog f xs (o.g y) := by
  intro f xs o h
  unfold pcf_b39 at h
  split at h
  · exact good_b38 fu xs o h
  · cases h
theorem goodv_b39 (fu : Nat) (a_0 : (Sl S_impl_Cmd)) (b_1 : (Sl S_impl_Cmd)) (y : Bool) (hy : F_laws_eqCmdS fu a_0 b_1 = some y) : Good E Try.prog 34 [(.rs a_0.z .impl_Cmd a_0.n a_0.f), (.rs b_1.z .impl_Cmd b_1.n b_1.f)] (enc_bo y) :=
  fun_good E_ok (pc_good (pc := pc_b39 fu) (hpc_b39 fu) hpx0) (fn := Try.f34) (c := body_b39) (out := out_bo) (y := y) (by kernel_rfl) (by kernel_rfl) (by kernel_rfl) (lpok_b39 fu) (fun d hd => out_bo_enc d _ hd) ((ev_b39 fu a_0 b_1).trans hy)
theorem good_b39 (fu : Nat) : ∀ xs o, S_b39 fu xs = some o → ∀ y, o.x = some y → Good E Try.prog 34 xs (o.g y) := by
  intro xs o h y hy
  unfold S_b39 at h
  split at h
  · rename_i za0_0 na0_0 fa0_0 za1_0 na1_0 fa1_0
    cases h
    exact goodv_b39 fu (⟨za0_0, na0_0, fa0_0⟩ : (Sl S_impl_Cmd)) (⟨za1_0, na1_0, fa1_0⟩ : (Sl S_impl_Cmd)) y hy
  · cases h

/-! laws.eqUpdate -/
def F_laws_eqUpdate (fu : Nat) (a_0 : S_impl_Update) (b_1 : S_impl_Update) : Option (Bool) :=
  (bif (a_0.From != b_1.From) then (some false) else (bif (a_0.To != b_1.To) then (some false) else (bif (!(a_0.Full == b_1.Full)) then (some false) else ((F_laws_eqConfig fu a_0.Config b_1.Config).bind fun y285 =>
    (bif (!y285) then (some false) else ((F_laws_eqCmdS fu a_0.Cmds b_1.Cmds).bind fun y286 => (bif (!y286) then (some false) else (some true))))))))
def pcf_c0 (fu : Nat) (f : Nat) (xs : List (D RT den)) : Option (Out RT den) := match f with | 34 => S_b39 fu xs | 46 => S_b37 fu xs | _ => none
def pc_c0 (fu : Nat) : Pc RT den := ⟨pcf_c0 fu, fun _ => false, fun _ => false, pcd0, pcx0⟩
def msk_c0 (b : Nat) : List Nat := []
def lp_c0 (fu : Nat) : Lp RT den (Bool) := fun b s k => none
theorem ev_c0 (fu : Nat) (a_0 : S_impl_Update) (b_1 : S_impl_Update) : evFun E (pc_c0 fu) msk_c0 (lp_c0 fu) out_bo 74 [(.agg [(.int .i64 a_0.From), (.int .i64 a_0.To), (.bool a_0.Full), (.int .i64 a_0.Config.Version), (.rs a_0.Config.Backends.z .impl_Backend a_0.Config.Backends.n a_0.Config.Backends.f), (.rs a_0.Config.Vips.z .impl_Vip a_0.Config.Vips.n a_0.Config.Vips.f), (.rs a_0.Cmds.z .impl_Cmd a_0.Cmds.n a_0.Cmds.f)]), (.agg [(.int .i64 b_1.From), (.int .i64 b_1.To), (.bool b_1.Full), (.int .i64 b_1.Config.Version), (.rs b_1.Config.Backends.z .impl_Backend b_1.Config.Backends.n b_1.Config.Backends.f), (.rs b_1.Config.Vips.z .impl_Vip b_1.Config.Vips.n b_1.Config.Vips.f), (.rs b_1.Cmds.z .impl_Cmd b_1.Cmds.n b_1.Cmds.f)])] = F_laws_eqUpdate fu a_0 b_1 := by kernel_rfl
noncomputable def body_c0 : Code := Try.f74.body.getD .skip
theorem lpok_c0 (fu : Nat) : LpOk E (pc_c0 fu) msk_c0 (lp_c0 fu) (loops 0 body_c0) := by
  have h : loops 0 body_c0 = [] := by kernel_rfl
  rw [h]; intro p hp; cases hp
def S_c0 (fu : Nat) (xs : List (D RT den)) : Option (Out RT den) := match xs with | [.agg [.int .i64 a0_1, .int .i64 a0_2, .bool a0_3, .int .i64 a0_5, .rs za0_6 .impl_Backend na0_6 fa0_6, .rs za0_7 .impl_Vip na0_7 fa0_7, .rs za0_8 .impl_Cmd na0_8 fa0_8], .agg [.int .i64 a1_1, .int .i64 a1_2, .bool a1_3, .int .i64 a1_5, .rs za1_6 .impl_Backend na1_6 fa1_6, .rs za1_7 .impl_Vip na1_7 fa1_7, .rs za1_8 .impl_Cmd na1_8 fa1_8]] => some ⟨Bool, F_laws_eqUpdate fu (⟨a0_1, a0_2, a0_3, (⟨a0_5, (⟨za0_6, na0_6, fa0_6⟩ : (Sl S_impl_Backend)), (⟨za0_7, na0_7, fa0_7⟩ : (Sl S_impl_Vip))⟩ : S_impl_Config), (⟨za0_8, na0_8, fa0_8⟩ : (Sl S_impl_Cmd))⟩ : S_impl_Update) (⟨a1_1, a1_2, a1_3, (⟨a1_5, (⟨za1_6, na1_6, fa1_6⟩ : (Sl S_impl_Backend)), (⟨za1_7, na1_7, fa1_7⟩ : (Sl S_impl_Vip))⟩ : S_impl_Config), (⟨za1_8, na1_8, fa1_8⟩ : (Sl S_impl_Cmd))⟩ : S_impl_Update), enc_bo, fun _ => true⟩ | _ => none
theorem hpc_c0 (fu : Nat) : ∀ f xs o, pcf_c0 fu f xs = some o → ∀ y, o.x = some y → Good E Try.prog f xs (o.g y) := by
  intro f xs o h
  unfold pcf_c0 at h
  split at h
  · exact good_b39 fu xs o h
  · exact good_b37 fu xs o h
  · cases h
theorem goodv_c0 (fu : Nat) (a_0 : S_impl_Update) (b_1 : S_impl_Update) (y : Bool) (hy : F_laws_eqUpdate fu a_0 b_1 = some y) : Good E Try.prog 74 [(.agg [(.int .i64 a_0.From), (.int .i64 a_0.To), (.bool a_0.Full), (.int .i64 a_0.Config.Version), (.rs a_0.Config.Backends.z .impl_Backend a_0.Config.Backends.n a_0.Config.Backends.f), (.rs a_0.Config.Vips.z .impl_Vip a_0.Config.Vips.n a_0.Config.Vips.f), (.rs a_0.Cmds.z .impl_Cmd a_0.Cmds.n a_0.Cmds.f)]), (.agg [(.int .i64 b_1.From), (.int .i64 b_1.To), (.bool b_1.Full), (.int .i64 b_1.Config.Version), (.rs b_1.Config.Backends.z .impl_Backend b_1.Config.Backends.n b_1.Config.Backends.f), (.rs b_1.Config.Vips.z .impl_Vip b_1.Config.Vips.n b_1.Config.Vips.f), (.rs b_1.Cmds.z .impl_Cmd b_1.Cmds.n b_1.Cmds.f)])] (enc_bo y) :=
  fun_good E_ok (pc_good (pc := pc_c0 fu) (hpc_c0 fu) hpx0) (fn := Try.f74) (c := body_c0) (out := out_bo) (y := y) (by kernel_rfl) (by kernel_rfl) (by kernel_rfl) (lpok_c0 fu) (fun d hd => out_bo_enc d _ hd) ((ev_c0 fu a_0 b_1).trans hy)
theorem good_c0 (fu : Nat) : ∀ xs o, S_c0 fu xs = some o → ∀ y, o.x = some y → Good E Try.prog 74 xs (o.g y) := by
  intro xs o h y hy
  unfold S_c0 at h
  split at h
  · rename_i a0_1 a0_2 a0_3 a0_5 za0_6 na0_6 fa0_6 za0_7 na0_7 fa0_7 za0_8 na0_8 fa0_8 a1_1 a1_2 a1_3 a1_5 za1_6 na1_6 fa1_6 za1_7 na1_7 fa1_7 za1_8 na1_8 fa1_8
    cases h
    exact goodv_c0 fu (⟨a0_1, a0_2, a0_3, (⟨a0_5, (⟨za0_6, na0_6, fa0_6⟩ : (Sl S_impl_Backend)), (⟨za0_7, na0_7, fa0_7⟩ : (Sl S_impl_Vip))⟩ : S_impl_Config), (⟨za0_8, na0_8, fa0_8⟩ : (Sl S_impl_Cmd))⟩ : S_impl_Update) (⟨a1_1, a1_2, a1_3, (⟨a1_5, (⟨za1_6, na1_6, fa1_6⟩ : (Sl S_impl_Backend)), (⟨za1_7, na1_7, fa1_7⟩ : (Sl S_impl_Vip))⟩ : S_impl_Config), (⟨za1_8, na1_8, fa1_8⟩ : (Sl S_impl_Cmd))⟩ : S_impl_Update) y hy
  · cases h

/-! laws.eqUpdateResult -/
def F_laws_eqUpdateResult (fu : Nat) (a_0 : S_impl_UpdateResult) (b_1 : S_impl_UpdateResult) : Option (Bool) :=
  (bif (a_0.Code != b_1.Code) then (some false) else ((F_laws_eqUpdate fu a_0.Update b_1.Update).bind fun y284 => (bif (!y284) then (some false) else (some true))))
def pcf_c1 (fu : Nat) (f : Nat) (xs : List (D RT den)) : Option (Out RT den) := match f with | 74 => S_c0 fu xs | _ => none
def pc_c1 (fu : Nat) : Pc RT den := ⟨pcf_c1 fu, fun _ => false, fun _ => false, pcd0, pcx0⟩
def msk_c1 (b : Nat) : List Nat := []
def lp_c1 (fu : Nat) : Lp RT den (Bool) := fun b s k => none
theorem ev_c1 (fu : Nat) (a_0 : S_impl_UpdateResult) (b_1 : S_impl_UpdateResult) : evFun E (pc_c1 fu) msk_c1 (lp_c1 fu) out_bo 32 [(.agg [(.int .i64 a_0.Code), (.int .i64 a_0.Update.From), (.int .i64 a_0.Update.To), (.bool a_0.Update.Full), (.int .i64 a_0.Update.Config.Version), (.rs a_0.Update.Config.Backends.z .impl_Backend a_0.Update.Config.Backends.n a_0.Update.Config.Backends.f), (.rs a_0.Update.Config.Vips.z .impl_Vip a_0.Update.Config.Vips.n a_0.Update.Config.Vips.f), (.rs a_0.Update.Cmds.z .impl_Cmd a_0.Update.Cmds.n a_0.Update.Cmds.f)]), (.agg [(.int .i64 b_1.Code), (.int .i64 b_1.Update.From), (.int .i64 b_1.Update.To), (.bool b_1.Update.Full), (.int .i64 b_1.Update.Config.Version), (.rs b_1.Update.Config.Backends.z .impl_Backend b_1.Update.Config.Backends.n b_1.Update.Config.Backends.f), (.rs b_1.Update.Config.Vips.z .impl_Vip b_1.Update.Config.Vips.n b_1.Update.Config.Vips.f), (.rs b_1.Update.Cmds.z .impl_Cmd b_1.Update.Cmds.n b_1.Update.Cmds.f)])] = F_laws_eqUpdateResult fu a_0 b_1 := by kernel_rfl
noncomputable def body_c1 : Code := Try.f32.body.getD .skip
theorem lpok_c1 (fu : Nat) : LpOk E (pc_c1 fu) msk_c1 (lp_c1 fu) (loops 0 body_c1) := by
  have h : loops 0 body_c1 = [] := by kernel_rfl
  rw [h]; intro p hp; cases hp
def S_c1 (fu : Nat) (xs : List (D RT den)) : Option (Out RT den) := match xs with | [.agg [.int .i64 a0_1, .int .i64 a0_3, .int .i64 a0_4, .bool a0_5, .int .i64 a0_7, .rs za0_8 .impl_Backend na0_8 fa0_8, .rs za0_9 .impl_Vip na0_9 fa0_9, .rs za0_10 .impl_Cmd na0_10 fa0_10], .agg [.int .i64 a1_1, .int .i64 a1_3, .int .i64 a1_4, .bool a1_5, .int .i64 a1_7, .rs za1_8 .impl_Backend na1_8 fa1_8, .rs za1_9 .impl_Vip na1_9 fa1_9, .rs za1_10 .impl_Cmd na1_10 fa1_10]] => some ⟨Bool, F_laws_eqUpdateResult fu (⟨a0_1, (⟨a0_3, a0_4, a0_5, (⟨a0_7, (⟨za0_8, na0_8, fa0_8⟩ : (Sl S_impl_Backend)), (⟨za0_9, na0_9, fa0_9⟩ : (Sl S_impl_Vip))⟩ : S_impl_Config), (⟨za0_10, na0_10, fa0_10⟩ : (Sl S_impl_Cmd))⟩ : S_impl_Update)⟩ : S_impl_UpdateResult) (⟨a1_1, (⟨a1_3, a1_4, a1_5, (⟨a1_7, (⟨za1_8, na1_8, fa1_8⟩ : (Sl S_impl_Backend)), (⟨za1_9, na1_9, fa1_9⟩ : (Sl S_impl_Vip))⟩ : S_impl_Config), (⟨za1_10, na1_10, fa1_10⟩ : (Sl S_impl_Cmd))⟩ : S_impl_Update)⟩ : S_impl_UpdateResult), enc_bo, fun _ => true⟩ | _ => none
theorem hpc_c1 (fu : Nat) : ∀ f xs o, pcf_c1 fu f xs = some o → ∀ y, o.x = some y → Good E Try.prog f xs (o.g y) := by
  intro f xs o h
  unfold pcf_c1 at h
  split at h
  · exact good_c0 fu xs o h
  · cases h
theorem goodv_c1 (fu : Nat) (a_0 : S_impl_UpdateResult) (b_1 : S_impl_UpdateResult) (y : Bool) (hy : F_laws_eqUpdateResult fu a_0 b_1 = some y) : Good E Try.prog 32 [(.agg [(.int .i64 a_0.Code), (.int .i64 a_0.Update.From), (.int .i64 a_0.Update.To), (.bool a_0.Update.Full), (.int .i64 a_0.Update.Config.Version), (.rs a_0.Update.Config.Backends.z .impl_Backend a_0.Update.Config.Backends.n a_0.Update.Config.Backends.f), (.rs a_0.Update.Config.Vips.z .impl_Vip a_0.Update.Config.Vips.n a_0.Update.Config.Vips.f), (.rs a_0.Update.Cmds.z .impl_Cmd a_0.Update.Cmds.n a_0.Update.Cmds.f)]), (.agg [(.int .i64 b_1.Code), (.int .i64 b_1.Update.From), (.int .i64 b_1.Update.To), (.bool b_1.Update.Full), (.int .i64 b_1.Update.Config.Version), (.rs b_1.Update.Config.Backends.z .impl_Backend b_1.Update.Config.Backends.n b_1.Update.Config.Backends.f), (.rs b_1.Update.Config.Vips.z .impl_Vip b_1.Update.Config.Vips.n b_1.Update.Config.Vips.f), (.rs b_1.Update.Cmds.z .impl_Cmd b_1.Update.Cmds.n b_1.Update.Cmds.f)])] (enc_bo y) :=
  fun_good E_ok (pc_good (pc := pc_c1 fu) (hpc_c1 fu) hpx0) (fn := Try.f32) (c := body_c1) (out := out_bo) (y := y) (by kernel_rfl) (by kernel_rfl) (by kernel_rfl) (lpok_c1 fu) (fun d hd => out_bo_enc d _ hd) ((ev_c1 fu a_0 b_1).trans hy)
theorem good_c1 (fu : Nat) : ∀ xs o, S_c1 fu xs = some o → ∀ y, o.x = some y → Good E Try.prog 32 xs (o.g y) := by
  intro xs o h y hy
  unfold S_c1 at h
  split at h
  · rename_i a0_1 a0_3 a0_4 a0_5 a0_7 za0_8 na0_8 fa0_8 za0_9 na0_9 fa0_9 za0_10 na0_10 fa0_10 a1_1 a1_3 a1_4 a1_5 a1_7 za1_8 na1_8 fa1_8 za1_9 na1_9 fa1_9 za1_10 na1_10 fa1_10
    cases h
    exact goodv_c1 fu (⟨a0_1, (⟨a0_3, a0_4, a0_5, (⟨a0_7, (⟨za0_8, na0_8, fa0_8⟩ : (Sl S_impl_Backend)), (⟨za0_9, na0_9, fa0_9⟩ : (Sl S_impl_Vip))⟩ : S_impl_Config), (⟨za0_10, na0_10, fa0_10⟩ : (Sl S_impl_Cmd))⟩ : S_impl_Update)⟩ : S_impl_UpdateResult) (⟨a1_1, (⟨a1_3, a1_4, a1_5, (⟨a1_7, (⟨za1_8, na1_8, fa1_8⟩ : (Sl S_impl_Backend)), (⟨za1_9, na1_9, fa1_9⟩ : (Sl S_impl_Vip))⟩ : S_impl_Config), (⟨za1_10, na1_10, fa1_10⟩ : (Sl S_impl_Cmd))⟩ : S_impl_Update)⟩ : S_impl_UpdateResult) y hy
  · cases h

/-! laws.eqConfigS -/
def F_laws_eqConfigS_B0 {ρ : Type} (fu : Nat) (a0_0 : (Sl S_impl_Config)) (b1_1 : (Sl S_impl_Config)) (k0 : Option ρ) (k1 : Option ρ) (i5_2 : Int) (go : Int → Option ρ) : Option ρ :=
  (bif (decide (i5_2 < ((a0_0.n : Nat) : Int))) then ((bif (decide (0 ≤ i5_2) && decide ((Int.toNat i5_2) < a0_0.n)) then some () else none : Option Unit).bind fun _ => ((bif (decide (0 ≤ i5_2) &&
    decide ((Int.toNat i5_2) < b1_1.n)) then some () else none : Option Unit).bind fun _ => ((F_laws_eqConfig fu (a0_0.f (Int.toNat i5_2)) (b1_1.f (Int.toNat i5_2))).bind fun y293 =>
    (bif (!y293) then k0 else (go (IntKind.wrap .i64 (i5_2 + 1))))))) else k1)
def F_laws_eqConfigS (fu : Nat) (a_0 : (Sl S_impl_Config)) (b_1 : (Sl S_impl_Config)) : Option (Bool) :=
  (bif (((a_0.n : Nat) : Int) != ((b_1.n : Nat) : Int)) then (some false) else (L (fun w0 go0 => F_laws_eqConfigS_B0 fu a_0 b_1 (some false) (some true) w0 go0) fu (0 : Int)))
def pcf_c2 (fu : Nat) (f : Nat) (xs : List (D RT den)) : Option (Out RT den) := match f with | 46 => S_b37 fu xs | _ => none
def pc_c2 (fu : Nat) : Pc RT den := ⟨pcf_c2 fu, fun _ => false, fun _ => false, pcd0, pcx0⟩
def msk_c2 (b : Nat) : List Nat := match b with | 0 => [2, 3, 4, 6, 7, 8, 9, 10, 11, 12, 13, 14, 15, 16, 17, 18, 19, 20, 21, 22, 23, 24, 25, 26] | 100000 => [0, 1, 2, 3, 5, 6, 7, 8, 9, 10, 11, 12, 13, 14, 15, 16, 17, 18, 19, 20, 21, 22, 23, 24, 25, 26] | _ => []
def ps_c2_0 : List (Pat RT) := [.flat (.rs .impl_Config), .flat (.rs .impl_Config), .flat .q, .flat .q, .flat .q, .flat (.int .i64), .flat .q, .flat .q, .flat .q, .flat .q, .flat .q, .flat .q, .flat .q, .flat .q, .flat .q, .flat .q, .flat .q, .flat .q, .flat .q, .flat .q, .flat .q, .flat .q, .flat .q, .flat .q, .flat .q, .flat .q, .flat .q]
def os_c2_0 : List (OP RT) := []
def conv_c2_0 (r : Raw den ps_c2_0 os_c2_0) : ((Sl S_impl_Config) × (Sl S_impl_Config)) × (Int) := ((r.1.1, r.1.2.1), r.1.2.2.2.2.2.1)
def back_c2_0 (c : (Sl S_impl_Config) × (Sl S_impl_Config)) (w : Int) : St RT den := ⟨[(.rs c.1.z .impl_Config c.1.n c.1.f), (.rs c.2.z .impl_Config c.2.n c.2.f), .q, .q, .q, (.int .i64 w), .q, .q, .q, .q, .q, .q, .q, .q, .q, .q, .q, .q, .q, .q, .q, .q, .q, .q, .q, .q, .q], []⟩
def Bk_c2_0 {ρ : Type} (fu : Nat) (c : (Sl S_impl_Config) × (Sl S_impl_Config)) (k : Ex → St RT den → Option ρ) (w : Int) (go : (Int) → Option ρ) : Option ρ := F_laws_eqConfigS_B0 fu c.1 c.2 (k .ret ⟨[.q, .q, .q, .q, (.bool false), .q, .q, .q, .q, .q, .q, .q, .q, .q, .q, .q, .q, .q, .q, .q, .q, .q, .q, .q, .q, .q, .q], []⟩) (k (.exit 0) ⟨[.q, .q, .q, .q, .q, .q, .q, .q, .q, .q, .q, .q, .q, .q, .q, .q, .q, .q, .q, .q, .q, .q, .q, .q, .q, .q, .q], []⟩) w go
def lp_c2 (fu : Nat) : Lp RT den (Bool) := fun b s k => match b with | 0 => handle ps_c2_0 os_c2_0 conv_c2_0 (Bk_c2_0 fu) fu s k | _ => none
theorem ev_c2 (fu : Nat) (a_0 : (Sl S_impl_Config)) (b_1 : (Sl S_impl_Config)) : evFun E (pc_c2 fu) msk_c2 (lp_c2 fu) out_bo 33 [(.rs a_0.z .impl_Config a_0.n a_0.f), (.rs b_1.z .impl_Config b_1.n b_1.f)] = F_laws_eqConfigS fu a_0 b_1 := by kernel_rfl
noncomputable def body_c2 : Code := Try.f33.body.getD .skip
noncomputable def lc_c2_0 : Code := ((loops 0 body_c2).getD 0 (0, .skip)).2
theorem round_c2_0 (fu : Nat) (it : St RT den → Option (Bool)) (k : Ex → St RT den → Option (Bool)) c w : evCode E (pc_c2 fu) msk_c2 (lp_c2 fu) 0 lc_c2_0 (back_c2_0 c w) (after (msk_c2 0) (msk_c2 100000) 0 it k) = Bk_c2_0 fu c k w (fun w => it (back_c2_0 c w)) := by kernel_rfl
theorem lpok_c2_0 (fu : Nat) : ∀ s k r, lp_c2 fu 0 s k = some r → ∃ fuel, iter (msk_c2 0) (msk_c2 100000) s.objs.length (evCode E (pc_c2 fu) msk_c2 (lp_c2 fu) 0 lc_c2_0) fuel s k = some r :=
  handle_ok (ps := ps_c2_0) (os := os_c2_0) (conv := conv_c2_0) (B := Bk_c2_0 fu) (fu := fu) back_c2_0 (fun raw => by kernel_rfl) 0 (fun c w => by kernel_rfl) (round_c2_0 fu)
theorem lpok_c2 (fu : Nat) : LpOk E (pc_c2 fu) msk_c2 (lp_c2 fu) (loops 0 body_c2) := loop_all 1 (by kernel_rfl) fun i hi => match i, hi with
  | 0, _ => by
    have h : (loops 0 body_c2).getD 0 (0, .skip) = (0, lc_c2_0) := by kernel_rfl
    rw [h]; exact lpok_c2_0 fu
  | i + 1, hi => absurd hi (by omega)
def S_c2 (fu : Nat) (xs : List (D RT den)) : Option (Out RT den) := match xs with | [.rs za0_0 .impl_Config na0_0 fa0_0, .rs za1_0 .impl_Config na1_0 fa1_0] => some ⟨Bool, F_laws_eqConfigS fu (⟨za0_0, na0_0, fa0_0⟩ : (Sl S_impl_Config)) (⟨za1_0, na1_0, fa1_0⟩ : (Sl S_impl_Config)), enc_bo, fun _ => true⟩ | _ => none
theorem hpc_c2 (fu : Nat) : ∀ f xs o, pcf_c2 fu f xs = some o → ∀ y, o.x = some y → Good E Try.prog f xs (o.g y) := by
  intro f xs o h
  unfold pcf_c2 at h
  split at h
  · exact good_b37 fu xs o h
  · cases h
theorem goodv_c2 (fu : Nat) (a_0 : (Sl S_impl_Config)) (b_1 : (Sl S_impl_Config)) (y : Bool) (hy : F_laws_eqConfigS fu a_0 b_1 = some y) : Good E Try.prog 33 [(.rs a_0.z .impl_Config a_0.n a_0.f), (.rs b_1.z .impl_Config b_1.n b_1.f)] (enc_bo y) :=
  fun_good E_ok (pc_good (pc := pc_c2 fu) (hpc_c2 fu) hpx0) (fn := Try.f33) (c := body_c2) (out := out_bo) (y := y) (by kernel_rfl) (by kernel_rfl) (by kernel_rfl) (lpok_c2 fu) (fun d hd => out_bo_enc d _ hd) ((ev_c2 fu a_0 b_1).trans hy)
theorem good_c2 (fu : Nat) : ∀ xs o, S_c2 fu xs = some o → ∀ y, o.x = some y → Good E Try.prog 33 xs (o.g y) := by
  intro xs o h y hy
  unfold S_c2 at h
  split at h
  · rename_i za0_0 na0_0 fa0_0 za1_0 na1_0 fa1_0
    cases h
    exact goodv_c2 fu (⟨za0_0, na0_0, fa0_0⟩ : (Sl S_impl_Config)) (⟨za1_0, na1_0, fa1_0⟩ : (Sl S_impl_Config)) y hy
  · cases h
end Go.Proofs.Ytknnfcbagbafaaa.Pc
