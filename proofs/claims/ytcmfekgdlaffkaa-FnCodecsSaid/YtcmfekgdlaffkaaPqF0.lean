/- The functions' evaluated forms, each a proved summary. Conditions: none. -/
import Derived.Test.YtcmfekgdlaffkaaPqT
namespace Go.Proofs.Ytcmfekgdlaffkaa.Pq
open Go Go.RowKit Go.Proofs Vm
set_option linter.unusedVariables false
set_option linter.unusedSimpArgs false
set_option maxRecDepth 100000
abbrev Ya0 : Type := Int × Int × Int × Int × Int × Int × (Sl Int) × Int
abbrev Ya1 : Type := Int × (Sl S_impl_Backend) × (Sl S_impl_Vip) × Int × Int × Int × Int × Int × Int
def F_spec_l1Source_M (fu : Nat) (code_0 : (Sl Int)) : Option ((Sl Int) × Int) :=
 (some (code_0, 0))
def pc_a0 (fu : Nat) : Pc RT den := ⟨pcf0, fun _ => false, fun _ => false, pcd0, pcd0, pcd0, pcx0⟩
def msk_a0 (b : Nat) : List Nat := []
def lp_a0 (fu : Nat) : Lp RT den ((Sl Int) × Int) := ⟨fun b s k => none, inl0⟩
def pso_a0 : List (Pat RT) := [.flat (.ref 0 0)]
def oso_a0 : List (OP RT) := [.box false [(.rs .u8), (.int .i64)]]
def conv_a0 (r : Raw den pso_a0 oso_a0) : (Sl Int) × Int := (r.2.1.1, r.2.1.2.1)
def enc_a0 (y : (Sl Int) × Int) : D RT den × List (Ob RT den) := ((.ref 0 0), [(.box false [(.rs y.1.z .u8 y.1.n y.1.f), (.int .i64 y.2)])])
def out_a0 (d : D RT den) (os : List (Ob RT den)) : Option ((Sl Int) × Int) := (unSt pso_a0 oso_a0 ⟨[d], os⟩).bind fun v => some (conv_a0 v.1)
theorem out_a0_enc (d : D RT den) (os : List (Ob RT den)) (y : (Sl Int) × Int) (h : out_a0 d os = some y) : d = (enc_a0 y).1 ∧ os = (enc_a0 y).2 :=
 outM (conv := conv_a0) (enc := enc_a0) (fun raw => by kernel_rfl) h
theorem ev_a0 (fu : Nat) (code_0 : (Sl Int)) : evFunM E false (pc_a0 fu) msk_a0 (lp_a0 fu) out_a0 40 [(.rs code_0.z .u8 code_0.n code_0.f)] [] = F_spec_l1Source_M fu code_0 := by kernel_rfl
noncomputable def body_a0 : Code := Try.f40.body.getD .skip
theorem lpok_a0 (fu : Nat) : LpOk E (pc_a0 fu) 0 msk_a0 (lp_a0 fu) (loops 0 body_a0) := lp_nil (loop_nil (by kernel_rfl)) (by kernel_rfl)
def S_a0 (fu : Nat) (xs : List (D RT den)) (ins : List (Ob RT den)) : Option (OutX RT den) := match xs, ins with | [.rs za0_0 .u8 na0_0 fa0_0], [] => some ⟨(Sl Int) × Int, F_spec_l1Source_M fu (⟨za0_0, na0_0, fa0_0⟩ : (Sl Int)), enc_a0⟩ | _, _ => none
theorem goodv_a0 (fu : Nat) (code_0 : (Sl Int)) (y : (Sl Int) × Int) (hy : F_spec_l1Source_M fu code_0 = some y) : GoodX E Try.prog 40 [(.rs code_0.z .u8 code_0.n code_0.f)] [] (enc_a0 y).1 (enc_a0 y).2 :=
 funM_good (ke := false) E_ok (pc_good (pc := pc_a0 fu) hpc0 hpx0) (fn := Try.f40) (by kernel_rfl) (by kernel_rfl) (by kernel_rfl) (lpok_a0 fu) (by kernel_rfl) (Nat.le_of_ble_eq_true (by kernel_rfl)) (fun d os hd => out_a0_enc d os _ hd) ((ev_a0 fu code_0).trans hy)
theorem good_a0 (fu : Nat) : GoodSX E Try.prog 40 (S_a0 fu) := by
 intro xs ins o h y hy
 unfold S_a0 at h
 split at h
 ·rename_i za0_0 na0_0 fa0_0
  cases h
  exact goodv_a0 fu (⟨za0_0, na0_0, fa0_0⟩ : (Sl Int)) y hy
 ·cases h
def F_spec_l1In (fu : Nat) (v_0 low_1 high_2 : Int) : Option (Bool) :=
 (((bif (decide (v_0 ≥ low_1)) then (some (decide (v_0 ≤ high_2))) else (some false)) : Option Bool).bind fun a => (some a))
def pc_a1 (fu : Nat) : Pc RT den := ⟨pcf0, fun _ => false, fun _ => false, pcd0, pcd0, pcd0, pcx0⟩
def msk_a1 (b : Nat) : List Nat := match b with | 200001 => [6] | _ => []
def lp_a1 (fu : Nat) : Lp RT den (Bool) := ⟨fun b s k => none, inl0⟩
theorem ev_a1 (fu : Nat) (v_0 low_1 high_2 : Int) : evFun E (pc_a1 fu) msk_a1 (lp_a1 fu) out_bo 96 [(ii v_0), (ii low_1), (ii high_2)] = F_spec_l1In fu v_0 low_1 high_2 := by kernel_rfl
noncomputable def body_a1 : Code := Try.f96.body.getD .skip
theorem lpok_a1 (fu : Nat) : LpOk E (pc_a1 fu) 0 msk_a1 (lp_a1 fu) (loops 0 body_a1) := lp_nil (loop_nil (by kernel_rfl)) (by kernel_rfl)
def S_a1 (fu : Nat) (xs : List (D RT den)) : Option (Out RT den) := match xs with | [.int .i64 a0_0, .int .i64 a1_0, .int .i64 a2_0] => some ⟨Bool, F_spec_l1In fu a0_0 a1_0 a2_0, enc_bo, fun _ => true⟩ | _ => none
theorem goodv_a1 (fu : Nat) (v_0 low_1 high_2 : Int) (y : Bool) (hy : F_spec_l1In fu v_0 low_1 high_2 = some y) : Good E Try.prog 96 [(ii v_0), (ii low_1), (ii high_2)] (enc_bo y) :=
 fun_good E_ok (pc_good (pc := pc_a1 fu) hpc0 hpx0) (fn := Try.f96) (by kernel_rfl) (by kernel_rfl) (by kernel_rfl) (lpok_a1 fu) (fun d hd => out_bo_enc d _ hd) ((ev_a1 fu v_0 low_1 high_2).trans hy)
theorem good_a1 (fu : Nat) : GoodS E Try.prog 96 (S_a1 fu) := by
 intro xs o h y hy
 unfold S_a1 at h
 split at h
 ·rename_i a0_0 a1_0 a2_0
  cases h
  exact goodv_a1 fu a0_0 a1_0 a2_0 y hy
 ·cases h
def F_spec_l5Needs (fu : Nat) (kind_0 : Int) : Option (Bool × Bool × Bool × Bool) :=
 ((F_spec_l1In fu kind_0 5 8).bind fun a => (bif (kind_0 != 5) then (bif (kind_0 == 1) then (some ((kind_0 != 6), true, (kind_0 != 4), a)) else (some ((kind_0 != 6), a,
  (kind_0 != 4), a))) else (bif (kind_0 == 1) then (some (false, true, (kind_0 != 4), a)) else (some (false, a, (kind_0 != 4), a)))))
def pcf_a2 (fu f : Nat) (xs : List (D RT den)) : Option (Out RT den) := match f with | 96 => S_a1 fu xs | _ => none
def pc_a2 (fu : Nat) : Pc RT den := ⟨pcf_a2 fu, fun _ => false, fun _ => false, pcd0, pcd0, pcd0, pcx0⟩
def msk_a2 (b : Nat) : List Nat := []
def lp_a2 (fu : Nat) : Lp RT den (Bool × Bool × Bool × Bool) := ⟨fun b s k => none, inl0⟩
theorem ev_a2 (fu : Nat) (kind_0 : Int) : evFun E (pc_a2 fu) msk_a2 (lp_a2 fu) out_bo_bo_bo_bo 91 [(ii kind_0)] = F_spec_l5Needs fu kind_0 := by kernel_rfl
noncomputable def body_a2 : Code := Try.f91.body.getD .skip
theorem lpok_a2 (fu : Nat) : LpOk E (pc_a2 fu) 0 msk_a2 (lp_a2 fu) (loops 0 body_a2) := lp_nil (loop_nil (by kernel_rfl)) (by kernel_rfl)
def S_a2 (fu : Nat) (xs : List (D RT den)) : Option (Out RT den) := match xs with | [.int .i64 a0_0] => some ⟨Bool × Bool × Bool × Bool, F_spec_l5Needs fu a0_0, enc_bo_bo_bo_bo, fun _ => true⟩ | _ => none
theorem hpc_a2 (fu : Nat) : HpcOk E Try.prog (pcf_a2 fu) := by
 intro f xs o h
 unfold pcf_a2 at h
 split at h
 ·exact good_a1 fu xs o h
 ·cases h
theorem goodv_a2 (fu : Nat) (kind_0 : Int) (y : Bool × Bool × Bool × Bool) (hy : F_spec_l5Needs fu kind_0 = some y) : Good E Try.prog 91 [(ii kind_0)] (enc_bo_bo_bo_bo y) :=
 fun_good E_ok (pc_good (pc := pc_a2 fu) (hpc_a2 fu) hpx0) (fn := Try.f91) (by kernel_rfl) (by kernel_rfl) (by kernel_rfl) (lpok_a2 fu) (fun d hd => out_bo_bo_bo_bo_enc d _ hd) ((ev_a2 fu kind_0).trans hy)
theorem good_a2 (fu : Nat) : GoodS E Try.prog 91 (S_a2 fu) := by
 intro xs o h y hy
 unfold S_a2 at h
 split at h
 ·rename_i a0_0
  cases h
  exact goodv_a2 fu a0_0 y hy
 ·cases h
def F_spec_l1Next_M (fu : Nat) (n_1 : Int) (b0_1 : (Sl Int)) (b0_2 : Int) : Option (Int × (Sl Int) × Int) :=
 (bif (decide (n_1 < 1)) then (some (0, b0_1, (IntKind.wrap .i64 (b0_2 + 1)))) else (bif (((b0_1.n : Nat) : Int) == 0) then ((bif (!decide (n_1 = 0)) then some () else none : Option Unit).bind fun _ =>
  (some ((Int.tmod (IntKind.wrap .i64 ((IntKind.wrap .i64 ((IntKind.wrap .i64 (b0_2 + 1)) - 1)) * 7)) n_1), b0_1, (IntKind.wrap .i64 (b0_2 + 1))))) else ((bif (!decide (((b0_1.n : Nat) : Int) = 0)) then
  some () else none : Option Unit).bind fun _ => ((bif (decide (0 ≤ (Int.tmod (IntKind.wrap .i64 ((IntKind.wrap .i64 (b0_2 + 1)) - 1)) ((b0_1.n : Nat) : Int))) && decide ((Int.toNat (Int.tmod (IntKind.wrap .i64 ((IntKind.wrap .i64 (b0_2 + 1)) - 1)) ((b0_1.n : Nat) : Int))) < b0_1.n)) then
  some () else none : Option Unit).bind fun _ => ((bif (!decide (((b0_1.n : Nat) : Int) = 0)) then some () else none : Option Unit).bind fun _ => (bif (decide (n_1 > 200)) then
  ((bif (!decide (((b0_1.n : Nat) : Int) = 0)) then some () else none : Option Unit).bind fun _ => ((bif (decide (0 ≤ (Int.tmod (IntKind.wrap .i64 ((IntKind.wrap .i64 ((IntKind.wrap .i64 (b0_2 + 1)) - 1)) + 1)) ((b0_1.n : Nat) : Int))) &&
  decide ((Int.toNat (Int.tmod (IntKind.wrap .i64 ((IntKind.wrap .i64 ((IntKind.wrap .i64 (b0_2 + 1)) - 1)) + 1)) ((b0_1.n : Nat) : Int))) < b0_1.n)) then some () else none : Option Unit).bind fun _ =>
  ((bif (!decide (n_1 = 0)) then some () else none : Option Unit).bind fun _ => (some ((Int.tmod (IntKind.wrap .i64 ((IntKind.wrap .i64 ((IntKind.wrap .i64 ((IntKind.wrap .i64 ((IntKind.wrap .i64 (b0_1.f (Int.toNat (Int.tmod (IntKind.wrap .i64 ((IntKind.wrap .i64 (b0_2 + 1)) - 1)) ((b0_1.n : Nat) : Int))))) + (IntKind.wrap .i64 ((IntKind.wrap .i64 (Int.tdiv (IntKind.wrap .i64 ((IntKind.wrap .i64 (b0_2 + 1)) - 1)) ((b0_1.n : Nat) : Int))) * 37)))) * 251)) + (IntKind.wrap .i64 ((IntKind.wrap .i64 (b0_1.f (Int.toNat (Int.tmod (IntKind.wrap .i64 ((IntKind.wrap .i64 ((IntKind.wrap .i64 (b0_2 + 1)) - 1)) + 1)) ((b0_1.n : Nat) : Int))))) * 13)))) + (IntKind.wrap .i64 ((IntKind.wrap .i64 (b0_2 + 1)) - 1)))) n_1),
  b0_1, (IntKind.wrap .i64 (b0_2 + 1))))))) else ((bif (!decide (n_1 = 0)) then some () else none : Option Unit).bind fun _ => (some ((Int.tmod (IntKind.wrap .i64 ((IntKind.wrap .i64 (b0_1.f (Int.toNat (Int.tmod (IntKind.wrap .i64 ((IntKind.wrap .i64 (b0_2 + 1)) - 1)) ((b0_1.n : Nat) : Int))))) + (IntKind.wrap .i64 ((IntKind.wrap .i64 (Int.tdiv (IntKind.wrap .i64 ((IntKind.wrap .i64 (b0_2 + 1)) - 1)) ((b0_1.n : Nat) : Int))) * 37)))) n_1),
  b0_1, (IntKind.wrap .i64 (b0_2 + 1)))))))))))
def pc_a3 (fu : Nat) : Pc RT den := ⟨pcf0, fun _ => false, fun _ => false, pcd0, pcd0, pcd0, pcx0⟩
def msk_a3 (b : Nat) : List Nat := []
def lp_a3 (fu : Nat) : Lp RT den (Int × (Sl Int) × Int) := ⟨fun b s k => none, inl0⟩
def pso_a3 : List (Pat RT) := [.flat (.int .i64)]
def oso_a3 : List (OP RT) := [.box true [(.rs .u8), (.int .i64)]]
def conv_a3 (r : Raw den pso_a3 oso_a3) : Int × (Sl Int) × Int := (r.1.1, r.2.1.1, r.2.1.2.1)
def enc_a3 (y : Int × (Sl Int) × Int) : D RT den × List (Ob RT den) := ((.int .i64 y.1), [(.box true [(.rs y.2.1.z .u8 y.2.1.n y.2.1.f), (.int .i64 y.2.2)])])
def out_a3 (d : D RT den) (os : List (Ob RT den)) : Option (Int × (Sl Int) × Int) := (unSt pso_a3 oso_a3 ⟨[d], os⟩).bind fun v => some (conv_a3 v.1)
theorem out_a3_enc (d : D RT den) (os : List (Ob RT den)) (y : Int × (Sl Int) × Int) (h : out_a3 d os = some y) : d = (enc_a3 y).1 ∧ os = (enc_a3 y).2 :=
 outM (conv := conv_a3) (enc := enc_a3) (fun raw => by kernel_rfl) h
theorem ev_a3 (fu : Nat) (n_1 : Int) (b0_1 : (Sl Int)) (b0_2 : Int) : evFunM E false (pc_a3 fu) msk_a3 (lp_a3 fu) out_a3 89 [(.ref 0 0), (ii n_1)] [(.box true [(.rs b0_1.z .u8 b0_1.n b0_1.f), (ii b0_2)])] = F_spec_l1Next_M fu n_1 b0_1 b0_2 := by kernel_rfl
noncomputable def body_a3 : Code := Try.f89.body.getD .skip
theorem lpok_a3 (fu : Nat) : LpOk E (pc_a3 fu) 0 msk_a3 (lp_a3 fu) (loops 0 body_a3) := lp_nil (loop_nil (by kernel_rfl)) (by kernel_rfl)
def S_a3 (fu : Nat) (xs : List (D RT den)) (ins : List (Ob RT den)) : Option (OutX RT den) := match xs, ins with | [.ref 0 0, .int .i64 a1_0], [.box true [.rs za1000_0 .u8 na1000_0 fa1000_0, .int .i64 a1001_0]] => some ⟨Int × (Sl Int) × Int, F_spec_l1Next_M fu a1_0 (⟨za1000_0, na1000_0, fa1000_0⟩ : (Sl Int)) a1001_0, enc_a3⟩ | _, _ => none
theorem goodv_a3 (fu : Nat) (n_1 : Int) (b0_1 : (Sl Int)) (b0_2 : Int) (y : Int × (Sl Int) × Int) (hy : F_spec_l1Next_M fu n_1 b0_1 b0_2 = some y) : GoodX E Try.prog 89 [(.ref 0 0), (ii n_1)] [(.box true [(.rs b0_1.z .u8 b0_1.n b0_1.f), (ii b0_2)])] (enc_a3 y).1 (enc_a3 y).2 :=
 funM_good (ke := false) E_ok (pc_good (pc := pc_a3 fu) hpc0 hpx0) (fn := Try.f89) (by kernel_rfl) (by kernel_rfl) (by kernel_rfl) (lpok_a3 fu) (by kernel_rfl) (Nat.le_of_ble_eq_true (by kernel_rfl)) (fun d os hd => out_a3_enc d os _ hd) ((ev_a3 fu n_1 b0_1 b0_2).trans hy)
theorem good_a3 (fu : Nat) : GoodSX E Try.prog 89 (S_a3 fu) := by
 intro xs ins o h y hy
 unfold S_a3 at h
 split at h
 ·rename_i a1_0 za1000_0 na1000_0 fa1000_0 a1001_0
  cases h
  exact goodv_a3 fu a1_0 (⟨za1000_0, na1000_0, fa1000_0⟩ : (Sl Int)) a1001_0 y hy
 ·cases h
def F_spec_l1Pick_M (fu : Nat) (list_1 b0_1 : (Sl Int)) (b0_2 : Int) : Option (Int × (Sl Int) × Int) :=
 ((F_spec_l1Next_M fu ((list_1.n : Nat) : Int) b0_1 b0_2).bind fun a => ((bif (decide (0 ≤ a.1) && decide ((Int.toNat a.1) < list_1.n)) then some () else none : Option Unit).bind fun _ =>
  (some ((list_1.f (Int.toNat a.1)), a.2.1, a.2.2))))
def pcx_a4 (fu f : Nat) (xs : List (D RT den)) (ins : List (Ob RT den)) : Option (OutX RT den) := match f with | 89 => S_a3 fu xs ins | _ => none
def pcd_a4 : Nat → Bool := fun _ => false
def pc_a4 (fu : Nat) : Pc RT den := ⟨pcf0, fun f => match f with | 89 => true | _ => false, fun f => match f with | 89 => true | _ => false, pcd_a4, fun f => match f with | 89 => true | _ => false, pcd0, pcx_a4 fu⟩
def msk_a4 (b : Nat) : List Nat := []
def lp_a4 (fu : Nat) : Lp RT den (Int × (Sl Int) × Int) := ⟨fun b s k => none, inl0⟩
def pso_a4 : List (Pat RT) := [.flat (.int .i64)]
def oso_a4 : List (OP RT) := [.box true [(.rs .u8), (.int .i64)]]
def conv_a4 (r : Raw den pso_a4 oso_a4) : Int × (Sl Int) × Int := (r.1.1, r.2.1.1, r.2.1.2.1)
def enc_a4 (y : Int × (Sl Int) × Int) : D RT den × List (Ob RT den) := ((.int .i64 y.1), [(.box true [(.rs y.2.1.z .u8 y.2.1.n y.2.1.f), (.int .i64 y.2.2)])])
def out_a4 (d : D RT den) (os : List (Ob RT den)) : Option (Int × (Sl Int) × Int) := (unSt pso_a4 oso_a4 ⟨[d], os⟩).bind fun v => some (conv_a4 v.1)
theorem out_a4_enc (d : D RT den) (os : List (Ob RT den)) (y : Int × (Sl Int) × Int) (h : out_a4 d os = some y) : d = (enc_a4 y).1 ∧ os = (enc_a4 y).2 :=
 outM (conv := conv_a4) (enc := enc_a4) (fun raw => by kernel_rfl) h
theorem ev_a4 (fu : Nat) (list_1 b0_1 : (Sl Int)) (b0_2 : Int) : evFunM E false (pc_a4 fu) msk_a4 (lp_a4 fu) out_a4 90 [(.ref 0 0), (.rs list_1.z .i64 list_1.n list_1.f)] [(.box true [(.rs b0_1.z .u8 b0_1.n b0_1.f), (ii b0_2)])] = F_spec_l1Pick_M fu list_1 b0_1 b0_2 := by kernel_rfl
noncomputable def body_a4 : Code := Try.f90.body.getD .skip
theorem lpok_a4 (fu : Nat) : LpOk E (pc_a4 fu) 0 msk_a4 (lp_a4 fu) (loops 0 body_a4) := lp_nil (loop_nil (by kernel_rfl)) (by kernel_rfl)
def S_a4 (fu : Nat) (xs : List (D RT den)) (ins : List (Ob RT den)) : Option (OutX RT den) := match xs, ins with | [.ref 0 0, .rs za1_0 .i64 na1_0 fa1_0], [.box true [.rs za1000_0 .u8 na1000_0 fa1000_0, .int .i64 a1001_0]] => some ⟨Int × (Sl Int) × Int, F_spec_l1Pick_M fu (⟨za1_0, na1_0, fa1_0⟩ : (Sl Int)) (⟨za1000_0, na1000_0, fa1000_0⟩ : (Sl Int)) a1001_0, enc_a4⟩ | _, _ => none
theorem hpx_a4 (fu : Nat) : HpxOk E Try.prog pcd_a4 pcd0 (pcx_a4 fu) := by
 intro f xs ins o h
 unfold pcx_a4 at h
 split at h
 ·exact good_a3 fu xs ins o h
 ·cases h
theorem goodv_a4 (fu : Nat) (list_1 b0_1 : (Sl Int)) (b0_2 : Int) (y : Int × (Sl Int) × Int) (hy : F_spec_l1Pick_M fu list_1 b0_1 b0_2 = some y) : GoodX E Try.prog 90 [(.ref 0 0), (.rs list_1.z .i64 list_1.n list_1.f)] [(.box true [(.rs b0_1.z .u8 b0_1.n b0_1.f), (ii b0_2)])] (enc_a4 y).1 (enc_a4 y).2 :=
 funM_good (ke := false) E_ok (pc_good (pc := pc_a4 fu) hpc0 (hpx_a4 fu)) (fn := Try.f90) (by kernel_rfl) (by kernel_rfl) (by kernel_rfl) (lpok_a4 fu) (by kernel_rfl) (Nat.le_of_ble_eq_true (by kernel_rfl)) (fun d os hd => out_a4_enc d os _ hd) ((ev_a4 fu list_1 b0_1 b0_2).trans hy)
theorem good_a4 (fu : Nat) : GoodSX E Try.prog 90 (S_a4 fu) := by
 intro xs ins o h y hy
 unfold S_a4 at h
 split at h
 ·rename_i za1_0 na1_0 fa1_0 za1000_0 na1000_0 fa1000_0 a1001_0
  cases h
  exact goodv_a4 fu (⟨za1_0, na1_0, fa1_0⟩ : (Sl Int)) (⟨za1000_0, na1000_0, fa1000_0⟩ : (Sl Int)) a1001_0 y hy
 ·cases h
def F_spec_l1Chance_M (fu : Nat) (n_1 : Int) (b0_1 : (Sl Int)) (b0_2 : Int) : Option (Bool × (Sl Int) × Int) :=
 ((F_spec_l1Next_M fu n_1 b0_1 b0_2).bind fun a => (some ((a.1 == 0), a.2.1, a.2.2)))
def pcx_a5 (fu f : Nat) (xs : List (D RT den)) (ins : List (Ob RT den)) : Option (OutX RT den) := match f with | 89 => S_a3 fu xs ins | _ => none
def pcd_a5 : Nat → Bool := fun _ => false
def pc_a5 (fu : Nat) : Pc RT den := ⟨pcf0, fun f => match f with | 89 => true | _ => false, fun f => match f with | 89 => true | _ => false, pcd_a5, fun f => match f with | 89 => true | _ => false, pcd0, pcx_a5 fu⟩
def msk_a5 (b : Nat) : List Nat := []
def lp_a5 (fu : Nat) : Lp RT den (Bool × (Sl Int) × Int) := ⟨fun b s k => none, inl0⟩
def pso_a5 : List (Pat RT) := [.flat .bool]
def oso_a5 : List (OP RT) := [.box true [(.rs .u8), (.int .i64)]]
def conv_a5 (r : Raw den pso_a5 oso_a5) : Bool × (Sl Int) × Int := (r.1.1, r.2.1.1, r.2.1.2.1)
def enc_a5 (y : Bool × (Sl Int) × Int) : D RT den × List (Ob RT den) := ((.bool y.1), [(.box true [(.rs y.2.1.z .u8 y.2.1.n y.2.1.f), (.int .i64 y.2.2)])])
def out_a5 (d : D RT den) (os : List (Ob RT den)) : Option (Bool × (Sl Int) × Int) := (unSt pso_a5 oso_a5 ⟨[d], os⟩).bind fun v => some (conv_a5 v.1)
theorem out_a5_enc (d : D RT den) (os : List (Ob RT den)) (y : Bool × (Sl Int) × Int) (h : out_a5 d os = some y) : d = (enc_a5 y).1 ∧ os = (enc_a5 y).2 :=
 outM (conv := conv_a5) (enc := enc_a5) (fun raw => by kernel_rfl) h
theorem ev_a5 (fu : Nat) (n_1 : Int) (b0_1 : (Sl Int)) (b0_2 : Int) : evFunM E false (pc_a5 fu) msk_a5 (lp_a5 fu) out_a5 88 [(.ref 0 0), (ii n_1)] [(.box true [(.rs b0_1.z .u8 b0_1.n b0_1.f), (ii b0_2)])] = F_spec_l1Chance_M fu n_1 b0_1 b0_2 := by kernel_rfl
noncomputable def body_a5 : Code := Try.f88.body.getD .skip
theorem lpok_a5 (fu : Nat) : LpOk E (pc_a5 fu) 0 msk_a5 (lp_a5 fu) (loops 0 body_a5) := lp_nil (loop_nil (by kernel_rfl)) (by kernel_rfl)
def S_a5 (fu : Nat) (xs : List (D RT den)) (ins : List (Ob RT den)) : Option (OutX RT den) := match xs, ins with | [.ref 0 0, .int .i64 a1_0], [.box true [.rs za1000_0 .u8 na1000_0 fa1000_0, .int .i64 a1001_0]] => some ⟨Bool × (Sl Int) × Int, F_spec_l1Chance_M fu a1_0 (⟨za1000_0, na1000_0, fa1000_0⟩ : (Sl Int)) a1001_0, enc_a5⟩ | _, _ => none
theorem hpx_a5 (fu : Nat) : HpxOk E Try.prog pcd_a5 pcd0 (pcx_a5 fu) := by
 intro f xs ins o h
 unfold pcx_a5 at h
 split at h
 ·exact good_a3 fu xs ins o h
 ·cases h
theorem goodv_a5 (fu : Nat) (n_1 : Int) (b0_1 : (Sl Int)) (b0_2 : Int) (y : Bool × (Sl Int) × Int) (hy : F_spec_l1Chance_M fu n_1 b0_1 b0_2 = some y) : GoodX E Try.prog 88 [(.ref 0 0), (ii n_1)] [(.box true [(.rs b0_1.z .u8 b0_1.n b0_1.f), (ii b0_2)])] (enc_a5 y).1 (enc_a5 y).2 :=
 funM_good (ke := false) E_ok (pc_good (pc := pc_a5 fu) hpc0 (hpx_a5 fu)) (fn := Try.f88) (by kernel_rfl) (by kernel_rfl) (by kernel_rfl) (lpok_a5 fu) (by kernel_rfl) (Nat.le_of_ble_eq_true (by kernel_rfl)) (fun d os hd => out_a5_enc d os _ hd) ((ev_a5 fu n_1 b0_1 b0_2).trans hy)
theorem good_a5 (fu : Nat) : GoodSX E Try.prog 88 (S_a5 fu) := by
 intro xs ins o h y hy
 unfold S_a5 at h
 split at h
 ·rename_i a1_0 za1000_0 na1000_0 fa1000_0 a1001_0
  cases h
  exact goodv_a5 fu a1_0 (⟨za1000_0, na1000_0, fa1000_0⟩ : (Sl Int)) a1001_0 y hy
 ·cases h
def F_spec_l5Cmd_M_t5 (a : Bool × Bool × Bool × Bool) (fu : Nat) (b : Int × (Sl Int) × Int) (d : Int × (Sl Int) × Int) (g : Int × (Sl Int) × Int) : Option (Ya0) :=
 (bif (!a.2.2.2) then ((F_spec_l1Chance_M fu 12 b.2.1 b.2.2).bind fun h =>
  (bif h.1 then ((F_spec_l1Next_M fu 9 h.2.1 h.2.2).bind fun j => (some (d.1, j.1, (IntKind.wrap .i64 (1 + g.1)), 0, 0, 0, j.2.1, j.2.2))) else (some (d.1,
  (-1), (IntKind.wrap .i64 (1 + g.1)), 0, 0, 0, h.2.1, h.2.2)))) else ((F_spec_l1Chance_M fu 12 b.2.1 b.2.2).bind fun l => (bif l.1 then ((F_spec_l1Next_M fu 9 l.2.1 l.2.2).bind fun n =>
  (some (d.1, n.1, (IntKind.wrap .i64 (1 + g.1)), 0, 0, 6, n.2.1, n.2.2))) else (some (d.1, (-1), (IntKind.wrap .i64 (1 + g.1)), 0, 0, 6, l.2.1,
  l.2.2)))))
def F_spec_l5Cmd_M_t1 (a : Bool × Bool × Bool × Bool) (fu : Nat) (b : Int × (Sl Int) × Int) (d : Int × (Sl Int) × Int) (g : Int × (Sl Int) × Int) : Option (Ya0) :=
 (bif (!a.2.2.1) then (F_spec_l5Cmd_M_t5 a fu b d g) else (bif (!a.2.2.2) then
  ((F_spec_l1Chance_M fu 12 b.2.1 b.2.2).bind fun h => (bif h.1 then ((F_spec_l1Next_M fu 9 h.2.1 h.2.2).bind fun j => (some (d.1, j.1, (IntKind.wrap .i64 (1 + g.1)),
  0, b.1, 0, j.2.1, j.2.2))) else (some (d.1, (-1), (IntKind.wrap .i64 (1 + g.1)), 0, b.1, 0, h.2.1, h.2.2)))) else ((F_spec_l1Chance_M fu 12 b.2.1 b.2.2).bind fun l =>
  (bif l.1 then ((F_spec_l1Next_M fu 9 l.2.1 l.2.2).bind fun n => (some (d.1, n.1, (IntKind.wrap .i64 (1 + g.1)), 0, b.1, 6, n.2.1, n.2.2))) else
  (some (d.1, (-1), (IntKind.wrap .i64 (1 + g.1)), 0, b.1, 6, l.2.1, l.2.2))))))
def F_spec_l5Cmd_M_t6 (a : Bool × Bool × Bool × Bool) (fu : Nat) (b : Int × (Sl Int) × Int) (d : Int × (Sl Int) × Int) : Option (Ya0) :=
 (bif (!a.2.2.2) then ((F_spec_l1Chance_M fu 12 b.2.1 b.2.2).bind fun g => (bif g.1 then ((F_spec_l1Next_M fu 9 g.2.1 g.2.2).bind fun h =>
  (some (d.1, h.1, 0, 0, 0, 0, h.2.1, h.2.2))) else (some (d.1, (-1), 0, 0, 0, 0, g.2.1, g.2.2)))) else ((F_spec_l1Chance_M fu 12 b.2.1 b.2.2).bind fun j =>
  (bif j.1 then ((F_spec_l1Next_M fu 9 j.2.1 j.2.2).bind fun l => (some (d.1, l.1, 0, 0, 0, 6, l.2.1, l.2.2))) else (some (d.1, (-1), 0, 0, 0, 6,
  j.2.1, j.2.2)))))
def F_spec_l5Cmd_M_t2 (a : Bool × Bool × Bool × Bool) (fu : Nat) (b : Int × (Sl Int) × Int) (d : Int × (Sl Int) × Int) : Option (Ya0) :=
 (bif (!a.2.2.1) then (F_spec_l5Cmd_M_t6 a fu b d) else (bif (!a.2.2.2) then ((F_spec_l1Chance_M fu 12 b.2.1 b.2.2).bind fun g =>
  (bif g.1 then ((F_spec_l1Next_M fu 9 g.2.1 g.2.2).bind fun h => (some (d.1, h.1, 0, 0, b.1, 0, h.2.1, h.2.2))) else (some (d.1, (-1), 0, 0, b.1,
  0, g.2.1, g.2.2)))) else ((F_spec_l1Chance_M fu 12 b.2.1 b.2.2).bind fun j => (bif j.1 then ((F_spec_l1Next_M fu 9 j.2.1 j.2.2).bind fun l => (some (d.1,
  l.1, 0, 0, b.1, 6, l.2.1, l.2.2))) else (some (d.1, (-1), 0, 0, b.1, 6, j.2.1, j.2.2))))))
def F_spec_l5Cmd_M_t3 (a : Bool × Bool × Bool × Bool) (fu : Nat) (b : Int × (Sl Int) × Int) (d : Int × (Sl Int) × Int) (g : Int × (Sl Int) × Int) (h : Int × (Sl Int) × Int) : Option (Ya0) :=
 (bif (!a.2.2.2) then ((F_spec_l1Chance_M fu 12 b.2.1 b.2.2).bind fun j =>
  (bif j.1 then ((F_spec_l1Next_M fu 9 j.2.1 j.2.2).bind fun l => (some (d.1, l.1, (IntKind.wrap .i64 (1 + g.1)), (IntKind.wrap .i64 (167772160 + h.1)), 0,
  0, l.2.1, l.2.2))) else (some (d.1, (-1), (IntKind.wrap .i64 (1 + g.1)), (IntKind.wrap .i64 (167772160 + h.1)), 0, 0, j.2.1, j.2.2)))) else
  ((F_spec_l1Chance_M fu 12 b.2.1 b.2.2).bind fun n => (bif n.1 then ((F_spec_l1Next_M fu 9 n.2.1 n.2.2).bind fun o => (some (d.1, o.1, (IntKind.wrap .i64 (1 + g.1)),
  (IntKind.wrap .i64 (167772160 + h.1)), 0, 6, o.2.1, o.2.2))) else (some (d.1, (-1), (IntKind.wrap .i64 (1 + g.1)), (IntKind.wrap .i64 (167772160 + h.1)), 0, 6,
  n.2.1, n.2.2)))))
def F_spec_l5Cmd_M_t4 (a : Bool × Bool × Bool × Bool) (fu : Nat) (b : Int × (Sl Int) × Int) (d : Int × (Sl Int) × Int) (g : Int × (Sl Int) × Int) : Option (Ya0) :=
 (bif (!a.2.2.2) then ((F_spec_l1Chance_M fu 12 b.2.1 b.2.2).bind fun h => (bif h.1 then ((F_spec_l1Next_M fu 9 h.2.1 h.2.2).bind fun j => (some (d.1,
  j.1, 0, (IntKind.wrap .i64 (167772160 + g.1)), 0, 0, j.2.1, j.2.2))) else (some (d.1, (-1), 0, (IntKind.wrap .i64 (167772160 + g.1)), 0, 0, h.2.1,
  h.2.2)))) else ((F_spec_l1Chance_M fu 12 b.2.1 b.2.2).bind fun l => (bif l.1 then ((F_spec_l1Next_M fu 9 l.2.1 l.2.2).bind fun n => (some (d.1,
  n.1, 0, (IntKind.wrap .i64 (167772160 + g.1)), 0, 6, n.2.1, n.2.2))) else (some (d.1, (-1), 0, (IntKind.wrap .i64 (167772160 + g.1)), 0, 6, l.2.1,
  l.2.2)))))
def F_spec_l5Cmd_M_t0 (fu : Nat) (a : Int × (Sl Int) × Int) (b : Int × (Sl Int) × Int) (d : Int × (Sl Int) × Int) (g : Int × (Sl Int) × Int) : Option (Ya0) :=
 ((F_spec_l5Needs fu a.1).bind fun h => (bif (!h.1) then (bif (!h.2.1) then (F_spec_l5Cmd_M_t2 h fu b a) else (bif (!h.2.2.1) then (F_spec_l5Cmd_M_t4 h fu b a d) else (bif (!h.2.2.2) then ((F_spec_l1Chance_M fu 12 b.2.1 b.2.2).bind fun j =>
  (bif j.1 then ((F_spec_l1Next_M fu 9 j.2.1 j.2.2).bind fun l => (some (a.1, l.1, 0, (IntKind.wrap .i64 (167772160 + d.1)), b.1, 0, l.2.1, l.2.2))) else
  (some (a.1, (-1), 0, (IntKind.wrap .i64 (167772160 + d.1)), b.1, 0, j.2.1, j.2.2)))) else ((F_spec_l1Chance_M fu 12 b.2.1 b.2.2).bind fun n => (bif n.1 then
  ((F_spec_l1Next_M fu 9 n.2.1 n.2.2).bind fun o => (some (a.1, o.1, 0, (IntKind.wrap .i64 (167772160 + d.1)), b.1, 6, o.2.1, o.2.2))) else (some (a.1,
  (-1), 0, (IntKind.wrap .i64 (167772160 + d.1)), b.1, 6, n.2.1, n.2.2))))))) else (bif (!h.2.1) then (F_spec_l5Cmd_M_t1 h fu b a g) else (bif (!h.2.2.1) then (F_spec_l5Cmd_M_t3 h fu b a g d) else (bif (!h.2.2.2) then ((F_spec_l1Chance_M fu 12 b.2.1 b.2.2).bind fun p => (bif p.1 then
  ((F_spec_l1Next_M fu 9 p.2.1 p.2.2).bind fun q => (some (a.1, q.1, (IntKind.wrap .i64 (1 + g.1)), (IntKind.wrap .i64 (167772160 + d.1)), b.1, 0,
  q.2.1, q.2.2))) else (some (a.1, (-1), (IntKind.wrap .i64 (1 + g.1)), (IntKind.wrap .i64 (167772160 + d.1)), b.1, 0, p.2.1, p.2.2)))) else
  ((F_spec_l1Chance_M fu 12 b.2.1 b.2.2).bind fun r => (bif r.1 then ((F_spec_l1Next_M fu 9 r.2.1 r.2.2).bind fun t => (some (a.1, t.1, (IntKind.wrap .i64 (1 + g.1)),
  (IntKind.wrap .i64 (167772160 + d.1)), b.1, 6, t.2.1, t.2.2))) else (some (a.1, (-1), (IntKind.wrap .i64 (1 + g.1)), (IntKind.wrap .i64 (167772160 + d.1)),
  b.1, 6, r.2.1, r.2.2)))))))))
def F_spec_l5Cmd_M (fu : Nat) (b0_0 : (Sl Int)) (b0_1 : Int) : Option (Ya0) :=
 ((F_spec_l1Pick_M fu (⟨(some false), 12, (fun i => ([1, 1, 2, 3, 4, 5, 6, 7, 7, 7, 8, 9] : List (Int)).getD i (dflt .i64))⟩ : (Sl Int)) b0_0 b0_1).bind fun a =>
  ((F_spec_l1Next_M fu 5 a.2.1 a.2.2).bind fun b => ((F_spec_l1Next_M fu 3 b.2.1 b.2.2).bind fun d => ((F_spec_l1Pick_M fu (⟨(some false), 3, (fun i => ([80, 80,
  443] : List (Int)).getD i (dflt .i64))⟩ : (Sl Int)) d.2.1 d.2.2).bind fun g => (bif (a.1 == 1) then ((F_spec_l1Next_M fu 4 g.2.1 g.2.2).bind fun h =>
  ((F_spec_l5Needs fu a.1).bind fun j => (bif (!j.1) then (bif (!j.2.1) then (F_spec_l5Cmd_M_t2 j fu h a) else (bif (!j.2.2.1) then (bif (!j.2.2.2) then
  ((F_spec_l1Chance_M fu 12 h.2.1 h.2.2).bind fun l => (bif l.1 then ((F_spec_l1Next_M fu 9 l.2.1 l.2.2).bind fun n => (some (a.1, n.1, 0, (IntKind.wrap .i64 (500 + (IntKind.wrap .i64 (1 + b.1)))),
  0, 0, n.2.1, n.2.2))) else (some (a.1, (-1), 0, (IntKind.wrap .i64 (500 + (IntKind.wrap .i64 (1 + b.1)))), 0, 0, l.2.1, l.2.2)))) else ((F_spec_l1Chance_M fu 12 h.2.1 h.2.2).bind fun o =>
  (bif o.1 then ((F_spec_l1Next_M fu 9 o.2.1 o.2.2).bind fun p => (some (a.1, p.1, 0, (IntKind.wrap .i64 (500 + (IntKind.wrap .i64 (1 + b.1)))), 0, 6,
  p.2.1, p.2.2))) else (some (a.1, (-1), 0, (IntKind.wrap .i64 (500 + (IntKind.wrap .i64 (1 + b.1)))), 0, 6, o.2.1, o.2.2))))) else (bif (!j.2.2.2) then
  ((F_spec_l1Chance_M fu 12 h.2.1 h.2.2).bind fun q => (bif q.1 then ((F_spec_l1Next_M fu 9 q.2.1 q.2.2).bind fun r => (some (a.1, r.1, 0, (IntKind.wrap .i64 (500 + (IntKind.wrap .i64 (1 + b.1)))),
  h.1, 0, r.2.1, r.2.2))) else (some (a.1, (-1), 0, (IntKind.wrap .i64 (500 + (IntKind.wrap .i64 (1 + b.1)))), h.1, 0, q.2.1, q.2.2)))) else
  ((F_spec_l1Chance_M fu 12 h.2.1 h.2.2).bind fun t => (bif t.1 then ((F_spec_l1Next_M fu 9 t.2.1 t.2.2).bind fun u => (some (a.1, u.1, 0, (IntKind.wrap .i64 (500 + (IntKind.wrap .i64 (1 + b.1)))),
  h.1, 6, u.2.1, u.2.2))) else (some (a.1, (-1), 0, (IntKind.wrap .i64 (500 + (IntKind.wrap .i64 (1 + b.1)))), h.1, 6, t.2.1, t.2.2))))))) else (bif (!j.2.1) then
  (F_spec_l5Cmd_M_t1 j fu h a b) else (bif (!j.2.2.1) then (bif (!j.2.2.2) then ((F_spec_l1Chance_M fu 12 h.2.1 h.2.2).bind fun v =>
  (bif v.1 then ((F_spec_l1Next_M fu 9 v.2.1 v.2.2).bind fun w => (some (a.1, w.1, (IntKind.wrap .i64 (1 + b.1)), (IntKind.wrap .i64 (500 + (IntKind.wrap .i64 (1 + b.1)))),
  0, 0, w.2.1, w.2.2))) else (some (a.1, (-1), (IntKind.wrap .i64 (1 + b.1)), (IntKind.wrap .i64 (500 + (IntKind.wrap .i64 (1 + b.1)))), 0, 0, v.2.1,
  v.2.2)))) else ((F_spec_l1Chance_M fu 12 h.2.1 h.2.2).bind fun y0 => (bif y0.1 then ((F_spec_l1Next_M fu 9 y0.2.1 y0.2.2).bind fun y1 => (some (a.1,
  y1.1, (IntKind.wrap .i64 (1 + b.1)), (IntKind.wrap .i64 (500 + (IntKind.wrap .i64 (1 + b.1)))), 0, 6, y1.2.1, y1.2.2))) else (some (a.1, (-1), (IntKind.wrap .i64 (1 + b.1)),
  (IntKind.wrap .i64 (500 + (IntKind.wrap .i64 (1 + b.1)))), 0, 6, y0.2.1, y0.2.2))))) else (bif (!j.2.2.2) then ((F_spec_l1Chance_M fu 12 h.2.1 h.2.2).bind fun y2 =>
  (bif y2.1 then ((F_spec_l1Next_M fu 9 y2.2.1 y2.2.2).bind fun y3 => (some (a.1, y3.1, (IntKind.wrap .i64 (1 + b.1)), (IntKind.wrap .i64 (500 + (IntKind.wrap .i64 (1 + b.1)))),
  h.1, 0, y3.2.1, y3.2.2))) else (some (a.1, (-1), (IntKind.wrap .i64 (1 + b.1)), (IntKind.wrap .i64 (500 + (IntKind.wrap .i64 (1 + b.1)))), h.1, 0, y2.2.1,
  y2.2.2)))) else ((F_spec_l1Chance_M fu 12 h.2.1 h.2.2).bind fun y4 => (bif y4.1 then ((F_spec_l1Next_M fu 9 y4.2.1 y4.2.2).bind fun y5 => (some (a.1,
  y5.1, (IntKind.wrap .i64 (1 + b.1)), (IntKind.wrap .i64 (500 + (IntKind.wrap .i64 (1 + b.1)))), h.1, 6, y5.2.1, y5.2.2))) else (some (a.1, (-1), (IntKind.wrap .i64 (1 + b.1)),
  (IntKind.wrap .i64 (500 + (IntKind.wrap .i64 (1 + b.1)))), h.1, 6, y4.2.1, y4.2.2)))))))))) else (bif (a.1 == 2) then ((F_spec_l1Next_M fu 10 g.2.1 g.2.2).bind fun y6 =>
  (F_spec_l5Cmd_M_t0 fu a y6 d b)) else (bif (a.1 == 3) then ((F_spec_l1Next_M fu 3 g.2.1 g.2.2).bind fun y7 => ((F_spec_l5Needs fu a.1).bind fun y8 => (bif (!y8.1) then
  (bif (!y8.2.1) then (bif (!y8.2.2.1) then (F_spec_l5Cmd_M_t6 y8 fu y7 a) else (bif (!y8.2.2.2) then ((F_spec_l1Chance_M fu 12 y7.2.1 y7.2.2).bind fun y9 => (bif y9.1 then ((F_spec_l1Next_M fu 9 y9.2.1 y9.2.2).bind fun y10 =>
  (some (a.1, y10.1, 0, 0, (IntKind.wrap .i64 (1 + y7.1)), 0, y10.2.1, y10.2.2))) else (some (a.1, (-1), 0, 0, (IntKind.wrap .i64 (1 + y7.1)), 0, y9.2.1,
  y9.2.2)))) else ((F_spec_l1Chance_M fu 12 y7.2.1 y7.2.2).bind fun y11 => (bif y11.1 then ((F_spec_l1Next_M fu 9 y11.2.1 y11.2.2).bind fun y12 => (some (a.1,
  y12.1, 0, 0, (IntKind.wrap .i64 (1 + y7.1)), 6, y12.2.1, y12.2.2))) else (some (a.1, (-1), 0, 0, (IntKind.wrap .i64 (1 + y7.1)), 6, y11.2.1, y11.2.2)))))) else (bif (!y8.2.2.1) then
  (F_spec_l5Cmd_M_t4 y8 fu y7 a d) else (bif (!y8.2.2.2) then ((F_spec_l1Chance_M fu 12 y7.2.1 y7.2.2).bind fun y13 => (bif y13.1 then ((F_spec_l1Next_M fu 9 y13.2.1 y13.2.2).bind fun y14 =>
  (some (a.1, y14.1, 0, (IntKind.wrap .i64 (167772160 + d.1)), (IntKind.wrap .i64 (1 + y7.1)), 0, y14.2.1, y14.2.2))) else (some (a.1, (-1), 0, (IntKind.wrap .i64 (167772160 + d.1)),
  (IntKind.wrap .i64 (1 + y7.1)), 0, y13.2.1, y13.2.2)))) else ((F_spec_l1Chance_M fu 12 y7.2.1 y7.2.2).bind fun y15 => (bif y15.1 then ((F_spec_l1Next_M fu 9 y15.2.1 y15.2.2).bind fun y16 =>
  (some (a.1, y16.1, 0, (IntKind.wrap .i64 (167772160 + d.1)), (IntKind.wrap .i64 (1 + y7.1)), 6, y16.2.1, y16.2.2))) else (some (a.1, (-1), 0, (IntKind.wrap .i64 (167772160 + d.1)),
  (IntKind.wrap .i64 (1 + y7.1)), 6, y15.2.1, y15.2.2))))))) else (bif (!y8.2.1) then (bif (!y8.2.2.1) then (F_spec_l5Cmd_M_t5 y8 fu y7 a b) else (bif (!y8.2.2.2) then ((F_spec_l1Chance_M fu 12 y7.2.1 y7.2.2).bind fun y17 => (bif y17.1 then ((F_spec_l1Next_M fu 9 y17.2.1 y17.2.2).bind fun y18 =>
  (some (a.1, y18.1, (IntKind.wrap .i64 (1 + b.1)), 0, (IntKind.wrap .i64 (1 + y7.1)), 0, y18.2.1, y18.2.2))) else (some (a.1, (-1), (IntKind.wrap .i64 (1 + b.1)),
  0, (IntKind.wrap .i64 (1 + y7.1)), 0, y17.2.1, y17.2.2)))) else ((F_spec_l1Chance_M fu 12 y7.2.1 y7.2.2).bind fun y19 => (bif y19.1 then ((F_spec_l1Next_M fu 9 y19.2.1 y19.2.2).bind fun y20 =>
  (some (a.1, y20.1, (IntKind.wrap .i64 (1 + b.1)), 0, (IntKind.wrap .i64 (1 + y7.1)), 6, y20.2.1, y20.2.2))) else (some (a.1, (-1), (IntKind.wrap .i64 (1 + b.1)),
  0, (IntKind.wrap .i64 (1 + y7.1)), 6, y19.2.1, y19.2.2)))))) else (bif (!y8.2.2.1) then (F_spec_l5Cmd_M_t3 y8 fu y7 a b d) else (bif (!y8.2.2.2) then ((F_spec_l1Chance_M fu 12 y7.2.1 y7.2.2).bind fun y21 => (bif y21.1 then ((F_spec_l1Next_M fu 9 y21.2.1 y21.2.2).bind fun y22 =>
  (some (a.1, y22.1, (IntKind.wrap .i64 (1 + b.1)), (IntKind.wrap .i64 (167772160 + d.1)), (IntKind.wrap .i64 (1 + y7.1)), 0, y22.2.1, y22.2.2))) else (some (a.1,
  (-1), (IntKind.wrap .i64 (1 + b.1)), (IntKind.wrap .i64 (167772160 + d.1)), (IntKind.wrap .i64 (1 + y7.1)), 0, y21.2.1, y21.2.2)))) else ((F_spec_l1Chance_M fu 12 y7.2.1 y7.2.2).bind fun y23 =>
  (bif y23.1 then ((F_spec_l1Next_M fu 9 y23.2.1 y23.2.2).bind fun y24 => (some (a.1, y24.1, (IntKind.wrap .i64 (1 + b.1)), (IntKind.wrap .i64 (167772160 + d.1)),
  (IntKind.wrap .i64 (1 + y7.1)), 6, y24.2.1, y24.2.2))) else (some (a.1, (-1), (IntKind.wrap .i64 (1 + b.1)), (IntKind.wrap .i64 (167772160 + d.1)), (IntKind.wrap .i64 (1 + y7.1)),
  6, y23.2.1, y23.2.2)))))))))) else (bif (a.1 == 9) then ((F_spec_l1Next_M fu 2 g.2.1 g.2.2).bind fun y25 => (F_spec_l5Cmd_M_t0 fu a y25 d b)) else (F_spec_l5Cmd_M_t0 fu a g d b)))))))))
def pcf_a6 (fu f : Nat) (xs : List (D RT den)) : Option (Out RT den) := match f with | 91 => S_a2 fu xs | _ => none
def pcx_a6 (fu f : Nat) (xs : List (D RT den)) (ins : List (Ob RT den)) : Option (OutX RT den) := match f with | 88 => S_a5 fu xs ins | 89 => S_a3 fu xs ins | 90 => S_a4 fu xs ins | _ => none
def pcd_a6 : Nat → Bool := fun _ => false
def pc_a6 (fu : Nat) : Pc RT den := ⟨pcf_a6 fu, fun f => match f with | 88 => true | 89 => true | 90 => true | _ => false, fun f => match f with | 88 => true | 89 => true | 90 => true | _ => false, pcd_a6, fun f => match f with | 88 => true | 89 => true | 90 => true | _ => false, pcd0, pcx_a6 fu⟩
def msk_a6 (b : Nat) : List Nat := []
def lp_a6 (fu : Nat) : Lp RT den (Ya0) := ⟨fun b s k => none, inl0⟩
def pso_a6 : List (Pat RT) := [.agg [(.int .i64), (.int .i64), (.int .i64), (.int .i64), (.int .i64), (.int .i64)]]
def oso_a6 : List (OP RT) := [.box true [(.rs .u8), (.int .i64)]]
def conv_a6 (r : Raw den pso_a6 oso_a6) : Ya0 := (r.1.1.1, r.1.1.2.1, r.1.1.2.2.1, r.1.1.2.2.2.1, r.1.1.2.2.2.2.1, (e5 r.1.1).1, r.2.1.1, r.2.1.2.1)
def enc_a6 (y : Ya0) : D RT den × List (Ob RT den) := ((.agg [(.int .i64 y.1), (.int .i64 y.2.1), (.int .i64 y.2.2.1), (.int .i64 y.2.2.2.1), (.int .i64 y.2.2.2.2.1), (.int .i64 y.2.2.2.2.2.1)]), [(.box true [(.rs y.2.2.2.2.2.2.1.z .u8 y.2.2.2.2.2.2.1.n y.2.2.2.2.2.2.1.f), (.int .i64 y.2.2.2.2.2.2.2)])])
def out_a6 (d : D RT den) (os : List (Ob RT den)) : Option (Ya0) := (unSt pso_a6 oso_a6 ⟨[d], os⟩).bind fun v => some (conv_a6 v.1)
theorem out_a6_enc (d : D RT den) (os : List (Ob RT den)) (y : Ya0) (h : out_a6 d os = some y) : d = (enc_a6 y).1 ∧ os = (enc_a6 y).2 :=
 outM (conv := conv_a6) (enc := enc_a6) (fun raw => by kernel_rfl) h
theorem ev_a6 (fu : Nat) (b0_0 : (Sl Int)) (b0_1 : Int) : evFunM E false (pc_a6 fu) msk_a6 (lp_a6 fu) out_a6 43 [(.ref 0 0)] [(.box true [(.rs b0_0.z .u8 b0_0.n b0_0.f), (ii b0_1)])] = F_spec_l5Cmd_M fu b0_0 b0_1 := by kernel_rfl
noncomputable def body_a6 : Code := Try.f43.body.getD .skip
theorem lpok_a6 (fu : Nat) : LpOk E (pc_a6 fu) 0 msk_a6 (lp_a6 fu) (loops 0 body_a6) := lp_nil (loop_nil (by kernel_rfl)) (by kernel_rfl)
def S_a6 (fu : Nat) (xs : List (D RT den)) (ins : List (Ob RT den)) : Option (OutX RT den) := match xs, ins with | [.ref 0 0], [.box true [.rs za1000_0 .u8 na1000_0 fa1000_0, .int .i64 a1001_0]] => some ⟨Ya0, F_spec_l5Cmd_M fu (⟨za1000_0, na1000_0, fa1000_0⟩ : (Sl Int)) a1001_0, enc_a6⟩ | _, _ => none
theorem hpc_a6 (fu : Nat) : HpcOk E Try.prog (pcf_a6 fu) := by
 intro f xs o h
 unfold pcf_a6 at h
 split at h
 ·exact good_a2 fu xs o h
 ·cases h
theorem hpx_a6 (fu : Nat) : HpxOk E Try.prog pcd_a6 pcd0 (pcx_a6 fu) := by
 intro f xs ins o h
 unfold pcx_a6 at h
 split at h
 ·exact good_a5 fu xs ins o h
 ·exact good_a3 fu xs ins o h
 ·exact good_a4 fu xs ins o h
 ·cases h
theorem goodv_a6 (fu : Nat) (b0_0 : (Sl Int)) (b0_1 : Int) (y : Ya0) (hy : F_spec_l5Cmd_M fu b0_0 b0_1 = some y) : GoodX E Try.prog 43 [(.ref 0 0)] [(.box true [(.rs b0_0.z .u8 b0_0.n b0_0.f), (ii b0_1)])] (enc_a6 y).1 (enc_a6 y).2 :=
 funM_good (ke := false) E_ok (pc_good (pc := pc_a6 fu) (hpc_a6 fu) (hpx_a6 fu)) (fn := Try.f43) (by kernel_rfl) (by kernel_rfl) (by kernel_rfl) (lpok_a6 fu) (by kernel_rfl) (Nat.le_of_ble_eq_true (by kernel_rfl)) (fun d os hd => out_a6_enc d os _ hd) ((ev_a6 fu b0_0 b0_1).trans hy)
theorem good_a6 (fu : Nat) : GoodSX E Try.prog 43 (S_a6 fu) := by
 intro xs ins o h y hy
 unfold S_a6 at h
 split at h
 ·rename_i za1000_0 na1000_0 fa1000_0 a1001_0
  cases h
  exact goodv_a6 fu (⟨za1000_0, na1000_0, fa1000_0⟩ : (Sl Int)) a1001_0 y hy
 ·cases h
def F_spec_l1Bytes_H_B0 {ρ : Type} (fu : Nat) (n0_0 : Int) (k0 : Nat → Nat → (Nat → Int) → Option ρ) (out5_1 : Nat) (k6_2 : Int) (on0_3 : Nat) (of0_4 : (Nat → Int)) (go : Nat → Int → Nat → (Nat → Int) → Option ρ) : Option ρ :=
 (bif (decide (k6_2 ≥ 0)) then ((bif (decide (0 ≤ (IntKind.wrap .u64 (IntKind.wrap .i64 (8 * k6_2))))) then some () else none : Option Unit).bind fun _ => (bif (decide ((out5_1 + 1) ≤ 9223372036854775807) &&
  decide ((out5_1 + 1) * 1 ≤ 140737488355328)) then (go (out5_1 + 1) (IntKind.wrap .i64 (k6_2 - 1)) (out5_1 + 1) (fun i => if i < out5_1 then (of0_4 i) else ((fun i =>
  ([(IntKind.wrap .u8 (shrInt .i64 n0_0 (IntKind.wrap .u64 (IntKind.wrap .i64 (8 * k6_2)))))] : List (Int)).getD i (dflt .u8)) (i - out5_1)))) else none)) else (k0 out5_1 on0_3 of0_4))
def F_spec_l1Bytes_H (fu : Nat) (n_0 size_1 : Int) : Option ((Sl Int)) :=
 (L (fun w0 go0 => F_spec_l1Bytes_H_B0 fu n_0 (fun a b d => (some (⟨none, a, d⟩ : (Sl Int)))) w0.1 w0.2.1 w0.2.2.1 w0.2.2.2 (fun q0 q1 q2 q3 => go0 (q0, q1, q2,
  q3))) fu ((0, (IntKind.wrap .i64 (size_1 - 1)), 0, (fun _ => dflt .u8)) : Nat × Int × Nat × (Nat → Int)))
def pc_a7 (fu : Nat) : Pc RT den := ⟨pcf0, fun _ => false, fun _ => false, pcd0, pcd0, pcd0, pcx0⟩
def msk_a7 (b : Nat) : List Nat := match b with | 0 => (1 :: 2 :: 3 :: 4 :: (rg 7 17 [])) | 100000 => (0 :: 1 :: 2 :: 3 :: (rg 6 18 [])) | 300000 => [5] | _ => []
def ps_a7_0 : List (Pat RT) := (.flat (.int .i64) :: (fq 4 (.flat (.os 0) :: .flat (.int .i64) :: (fq 17 []))))
def os_a7_0 : List (OP RT) := [.row false .u8]
def conv_a7_0 (r : Raw den ps_a7_0 os_a7_0) : (Int) × (Nat × Int × Nat × (Nat → Int)) := (r.1.1, ((e5 r.1).1, (e5 r.1).2.1, r.2.1.1, r.2.1.2))
def back_a7_0 (c : Int) (w : Nat × Int × Nat × (Nat → Int)) : St RT den := ⟨((ii c) :: (qs 4 ((.os 0 w.1) :: (ii w.2.1) :: (qs 17 [])))), [(.row false .u8 w.2.2.1 w.2.2.2)]⟩
def Bk_a7_0 {ρ : Type} (fu : Nat) (c : Int) (k : Ex → St RT den → Option ρ) (w : Nat × Int × Nat × (Nat → Int)) (go : (Nat × Int × Nat × (Nat → Int)) → Option ρ) : Option ρ := F_spec_l1Bytes_H_B0 fu c (fun a0 a1 a2 => k (.exit 0) ⟨(qs 5 ((.os 0 a0) :: (qs 18 []))), [(.row false .u8 a1 a2)]⟩) w.1 w.2.1 w.2.2.1 w.2.2.2 (fun q0 q1 q2 q3 => go (q0, q1, q2, q3))
def lp_a7 (fu : Nat) : Lp RT den ((Sl Int)) := ⟨fun b s k => match b with | 0 => handle ps_a7_0 os_a7_0 conv_a7_0 (Bk_a7_0 fu) fu s k | _ => none, inl0⟩
theorem ev_a7 (fu : Nat) (n_0 size_1 : Int) : evFunX E false (pc_a7 fu) msk_a7 (lp_a7 fu) out_sl_u8_H 76 [(ii n_0), (ii size_1)] [] = F_spec_l1Bytes_H fu n_0 size_1 := by kernel_rfl
noncomputable def body_a7 : Code := Try.f76.body.getD .skip
noncomputable def lc_a7_0 : Code := ((loops 0 body_a7).getD 0 (0, .skip)).2
theorem round_a7_0 (fu : Nat) : RoundOk E (pc_a7 fu) msk_a7 (lp_a7 fu) 0 lc_a7_0 back_a7_0 0 100000 1 (Bk_a7_0 fu) := fun it k c w => by kernel_rfl
theorem lpok_a7_0 (fu : Nat) : LpAt E (pc_a7 fu) msk_a7 (lp_a7 fu) 0 0 100000 0 lc_a7_0 :=
 handle_ok (ps := ps_a7_0) (os := os_a7_0) (conv := conv_a7_0) (B := Bk_a7_0 fu) (fu := fu) back_a7_0 (fun raw => by kernel_rfl) 1 (fun c w => by kernel_rfl) (round_a7_0 fu)
theorem lpok_a7 (fu : Nat) : LpOk E (pc_a7 fu) 0 msk_a7 (lp_a7 fu) (loops 0 body_a7) := lp_nil (loop_all 1 (by kernel_rfl) fun i hi => match i, hi with
 | 0, _ => by
  have h : (loops 0 body_a7).getD 0 (0, .skip) = (0, lc_a7_0) := by kernel_rfl
  rw [h]; exact lpok_a7_0 fu
 | i + 1, hi => absurd hi (by omega)) (by kernel_rfl)
def S_a7 (fu : Nat) (xs : List (D RT den)) (ins : List (Ob RT den)) : Option (OutX RT den) := match xs, ins with | [.int .i64 a0_0, .int .i64 a1_0], [] => some ⟨(Sl Int), F_spec_l1Bytes_H fu a0_0 a1_0, enc_sl_u8_H⟩ | _, _ => none
theorem goodv_a7 (fu : Nat) (n_0 size_1 : Int) (y : (Sl Int)) (hy : F_spec_l1Bytes_H fu n_0 size_1 = some y) : GoodX E Try.prog 76 [(ii n_0), (ii size_1)] [] (enc_sl_u8_H y).1 (enc_sl_u8_H y).2 :=
 funX_good (ke := false) E_ok (pc_good (pc := pc_a7 fu) hpc0 hpx0) (fn := Try.f76) (by kernel_rfl) (by kernel_rfl) (by kernel_rfl) (lpok_a7 fu) (by kernel_rfl) (Nat.zero_le _) (fun d os hd => out_sl_u8_H_enc d os _ hd) ((ev_a7 fu n_0 size_1).trans hy)
theorem good_a7 (fu : Nat) : GoodSX E Try.prog 76 (S_a7 fu) := by
 intro xs ins o h y hy
 unfold S_a7 at h
 split at h
 ·rename_i a0_0 a1_0
  cases h
  exact goodv_a7 fu a0_0 a1_0 y hy
 ·cases h
def F_spec_l6Cmd_H (fu : Nat) (x_0 : S_impl_Cmd) : Option ((Sl Int)) :=
 ((F_spec_l1Bytes_H fu (IntKind.wrap .i64 (x_0.Expect + 1)) 4).bind fun a => (bif (decide ((1 + a.n) ≤ 9223372036854775807) && decide ((1 + a.n) * 1 ≤ 140737488355328)) then
  ((F_spec_l1Bytes_H fu x_0.Name 2).bind fun b => (bif (decide (((1 + a.n) + b.n) ≤ 9223372036854775807) && decide (((1 + a.n) + b.n) * 1 ≤ 140737488355328)) then
  ((F_spec_l1Bytes_H fu x_0.Addr 4).bind fun d => (bif (decide ((((1 + a.n) + b.n) + d.n) ≤ 9223372036854775807) && decide ((((1 + a.n) + b.n) + d.n) * 1 ≤ 140737488355328)) then
  ((F_spec_l1Bytes_H fu x_0.Number 2).bind fun g => (bif (decide (((((1 + a.n) + b.n) + d.n) + g.n) ≤ 9223372036854775807) && decide (((((1 + a.n) + b.n) + d.n) + g.n) * 1 ≤ 140737488355328)) then
  (bif (decide ((((((1 + a.n) + b.n) + d.n) + g.n) + 1) ≤ 9223372036854775807) && decide ((((((1 + a.n) + b.n) + d.n) + g.n) + 1) * 1 ≤ 140737488355328)) then
  (some (⟨none, (((((1 + a.n) + b.n) + d.n) + g.n) + 1), (fun i => if i < ((((1 + a.n) + b.n) + d.n) + g.n) then ((fun i => if i < (((1 + a.n) + b.n) + d.n) then
  ((fun i => if i < ((1 + a.n) + b.n) then ((fun i => if i < (1 + a.n) then ((fun i => if i < 1 then ((fun i => ([(IntKind.wrap .u8 x_0.Kind)] : List (Int)).getD i (dflt .u8)) i) else
  (a.f (i - 1))) i) else (b.f (i - (1 + a.n)))) i) else (d.f (i - ((1 + a.n) + b.n)))) i) else (g.f (i - (((1 + a.n) + b.n) + d.n)))) i) else ((fun i =>
  ([(IntKind.wrap .u8 x_0.Proto)] : List (Int)).getD i (dflt .u8)) (i - ((((1 + a.n) + b.n) + d.n) + g.n))))⟩ : (Sl Int))) else none) else none)) else none)) else
  none)) else none))
def pcx_a8 (fu f : Nat) (xs : List (D RT den)) (ins : List (Ob RT den)) : Option (OutX RT den) := match f with | 76 => S_a7 fu xs ins | _ => none
def pcd_a8 : Nat → Bool := fun _ => false
def pc_a8 (fu : Nat) : Pc RT den := ⟨pcf0, fun f => match f with | 76 => true | _ => false, fun _ => false, pcd_a8, fun f => match f with | 76 => true | _ => false, pcd0, pcx_a8 fu⟩
def msk_a8 (b : Nat) : List Nat := match b with | 500001 => [0] | 600001 => [3990] | 800001 => (0 :: (rg 2 30 [])) | _ => []
def lp_a8 (fu : Nat) : Lp RT den ((Sl Int)) := ⟨fun b s k => none, inl0⟩
theorem ev_a8 (fu : Nat) (x_0 : S_impl_Cmd) : evFunX E false (pc_a8 fu) msk_a8 (lp_a8 fu) out_sl_u8_H 42 [(.agg [(ii x_0.Kind), (ii x_0.Expect), (ii x_0.Name), (ii x_0.Addr), (ii x_0.Number), (ii x_0.Proto)])] [] = F_spec_l6Cmd_H fu x_0 := by kernel_rfl
noncomputable def body_a8 : Code := Try.f42.body.getD .skip
theorem lpok_a8 (fu : Nat) : LpOk E (pc_a8 fu) 0 msk_a8 (lp_a8 fu) (loops 0 body_a8) := lp_nil (loop_nil (by kernel_rfl)) (by kernel_rfl)
def S_a8 (fu : Nat) (xs : List (D RT den)) (ins : List (Ob RT den)) : Option (OutX RT den) := match xs, ins with | [.agg [.int .i64 a0_1, .int .i64 a0_2, .int .i64 a0_3, .int .i64 a0_4, .int .i64 a0_5, .int .i64 a0_6]], [] => some ⟨(Sl Int), F_spec_l6Cmd_H fu (⟨a0_1, a0_2, a0_3, a0_4, a0_5, a0_6⟩ : S_impl_Cmd), enc_sl_u8_H⟩ | _, _ => none
theorem hpx_a8 (fu : Nat) : HpxOk E Try.prog pcd_a8 pcd0 (pcx_a8 fu) := by
 intro f xs ins o h
 unfold pcx_a8 at h
 split at h
 ·exact good_a7 fu xs ins o h
 ·cases h
theorem goodv_a8 (fu : Nat) (x_0 : S_impl_Cmd) (y : (Sl Int)) (hy : F_spec_l6Cmd_H fu x_0 = some y) : GoodX E Try.prog 42 [(.agg [(ii x_0.Kind), (ii x_0.Expect), (ii x_0.Name), (ii x_0.Addr), (ii x_0.Number), (ii x_0.Proto)])] [] (enc_sl_u8_H y).1 (enc_sl_u8_H y).2 :=
 funX_good (ke := false) E_ok (pc_good (pc := pc_a8 fu) hpc0 (hpx_a8 fu)) (fn := Try.f42) (by kernel_rfl) (by kernel_rfl) (by kernel_rfl) (lpok_a8 fu) (by kernel_rfl) (Nat.zero_le _) (fun d os hd => out_sl_u8_H_enc d os _ hd) ((ev_a8 fu x_0).trans hy)
theorem good_a8 (fu : Nat) : GoodSX E Try.prog 42 (S_a8 fu) := by
 intro xs ins o h y hy
 unfold S_a8 at h
 split at h
 ·rename_i a0_1 a0_2 a0_3 a0_4 a0_5 a0_6
  cases h
  exact goodv_a8 fu (⟨a0_1, a0_2, a0_3, a0_4, a0_5, a0_6⟩ : S_impl_Cmd) y hy
 ·cases h
def F_spec_DrawUnpackCmd (fu : Nat) (code_0 : (Sl Int)) : Option ((Sl Int)) :=
 ((F_spec_l1Source_M fu code_0).bind fun a => ((F_spec_l5Cmd_M fu a.1 a.2).bind fun b => ((F_spec_l6Cmd_H fu (⟨b.1, b.2.1, b.2.2.1, b.2.2.2.1,
  b.2.2.2.2.1, b.2.2.2.2.2.1⟩ : S_impl_Cmd)).bind fun d => (bif (((d.n : Nat) : Int) == 0) then (some (⟨none, d.n, d.f⟩ : (Sl Int))) else ((F_spec_l1Chance_M fu 3 b.2.2.2.2.2.2.1 b.2.2.2.2.2.2.2).bind fun g =>
  (bif (!g.1) then (some (⟨none, d.n, d.f⟩ : (Sl Int))) else ((F_spec_l1Next_M fu ((d.n : Nat) : Int) g.2.1 g.2.2).bind fun h => ((F_spec_l1Next_M fu 3 h.2.1 h.2.2).bind fun l =>
  (bif (l.1 == 0) then ((F_spec_l1Next_M fu 256 l.2.1 l.2.2).bind fun o => ((bif (decide (0 ≤ h.1) && decide ((Int.toNat h.1) < d.n)) then some () else none : Option Unit).bind fun _ =>
  (some (⟨none, d.n, (fun j => if j = (Int.toNat h.1) then (IntKind.wrap .u8 o.1) else d.f j)⟩ : (Sl Int))))) else (bif (l.1 == 1) then ((bif (decide (0 ≤ h.1) &&
  decide ((Int.toNat h.1) ≤ d.n)) then some () else none : Option Unit).bind fun _ => (some (⟨none, (Int.toNat h.1), d.f⟩ : (Sl Int)))) else (bif (l.1 == 2) then
  (bif (decide ((d.n + 1) ≤ 9223372036854775807) && decide ((d.n + 1) * 1 ≤ 140737488355328)) then (some (⟨none, (d.n + 1), (fun i => if i < d.n then (d.f i) else
  ((fun i => ([0] : List (Int)).getD i (dflt .u8)) (i - d.n)))⟩ : (Sl Int))) else none) else (some (⟨none, d.n, d.f⟩ : (Sl Int))))))))))))))
def pcx_a9 (fu f : Nat) (xs : List (D RT den)) (ins : List (Ob RT den)) : Option (OutX RT den) := match f with | 40 => S_a0 fu xs ins | 42 => S_a8 fu xs ins | 43 => S_a6 fu xs ins | 88 => S_a5 fu xs ins | 89 => S_a3 fu xs ins | _ => none
def pcd_a9 : Nat → Bool := fun _ => false
def pc_a9 (fu : Nat) : Pc RT den := ⟨pcf0, fun f => match f with | 40 => true | 42 => true | 43 => true | 88 => true | 89 => true | _ => false, fun f => match f with | 40 => true | 43 => true | 88 => true | 89 => true | _ => false, pcd_a9, fun f => match f with | 43 => true | 88 => true | 89 => true | _ => false, pcd0, pcx_a9 fu⟩
def msk_a9i0 (b : Nat) : List Nat := []
noncomputable def body_a9i0 : Code := Try.f41.body.getD .skip
def msk_a9 (b : Nat) : List Nat := match b with | 600002 => [4000] | 800002 => (0 :: 1 :: 2 :: (rg 4 7 [])) | _ => []
def lp_a9i0 (fu : Nat) : Lp RT den ((Sl Int)) := ⟨fun b s k => none, inl0⟩
noncomputable def lp_a9 (fu : Nat) : Lp RT den ((Sl Int)) := ⟨fun b s k => none, inlL [(41, evCode E (pc_a9 fu) msk_a9i0 (lp_a9i0 fu) 0 body_a9i0)]⟩
theorem ev_a9 (fu : Nat) (code_0 : (Sl Int)) : evFun E (pc_a9 fu) msk_a9 (lp_a9 fu) out_sl_u8 15 [(.rs code_0.z .u8 code_0.n code_0.f)] = F_spec_DrawUnpackCmd fu code_0 := by kernel_rfl
noncomputable def body_a9 : Code := Try.f15.body.getD .skip
theorem lpok_a9i0 (fu : Nat) : LpOk E (pc_a9 fu) 0 msk_a9i0 (lp_a9i0 fu) (loops 0 body_a9i0) := lp_nil (loop_nil (by kernel_rfl)) (by kernel_rfl)
theorem lpok_a9 (fu : Nat) : LpOk E (pc_a9 fu) 1 msk_a9 (lp_a9 fu) (loops 0 body_a9) := lp_all (loop_nil (by kernel_rfl)) (site_cons 41 Try.f41 (by kernel_rfl) (by kernel_rfl) (by kernel_rfl) (by kernel_rfl) ((lpok_a9i0 fu).mono (Nat.le_of_ble_eq_true (by kernel_rfl))) site_nil) (by kernel_rfl)
def S_a9 (fu : Nat) (xs : List (D RT den)) : Option (Out RT den) := match xs with | [.rs za0_0 .u8 na0_0 fa0_0] => some ⟨(Sl Int), F_spec_DrawUnpackCmd fu (⟨za0_0, na0_0, fa0_0⟩ : (Sl Int)), enc_sl_u8, fun _ => true⟩ | _ => none
theorem hpx_a9 (fu : Nat) : HpxOk E Try.prog pcd_a9 pcd0 (pcx_a9 fu) := by
 intro f xs ins o h
 unfold pcx_a9 at h
 split at h
 ·exact good_a0 fu xs ins o h
 ·exact good_a8 fu xs ins o h
 ·exact good_a6 fu xs ins o h
 ·exact good_a5 fu xs ins o h
 ·exact good_a3 fu xs ins o h
 ·cases h
theorem goodv_a9 (fu : Nat) (code_0 y : (Sl Int)) (hy : F_spec_DrawUnpackCmd fu code_0 = some y) : Good E Try.prog 15 [(.rs code_0.z .u8 code_0.n code_0.f)] (enc_sl_u8 y) :=
 fun_good E_ok (pc_good (pc := pc_a9 fu) hpc0 (hpx_a9 fu)) (fn := Try.f15) (by kernel_rfl) (by kernel_rfl) (by kernel_rfl) (lpok_a9 fu) (fun d hd => out_sl_u8_enc d _ hd) ((ev_a9 fu code_0).trans hy)
theorem good_a9 (fu : Nat) : GoodS E Try.prog 15 (S_a9 fu) := by
 intro xs o h y hy
 unfold S_a9 at h
 split at h
 ·rename_i za0_0 na0_0 fa0_0
  cases h
  exact goodv_a9 fu (⟨za0_0, na0_0, fa0_0⟩ : (Sl Int)) y hy
 ·cases h
def F_spec_l5Find_B0 {ρ : Type} (fu : Nat) (c0_0 : Int) (c0_1 : (Sl S_impl_Backend)) (c0_2 : (Sl S_impl_Vip)) (o0_4 o0_5 o0_6 o0_7 o0_8 o0_9 : Int) (k0 : Int → Int → Int → Int → (Sl Int) → Option ρ) (k1 : Option ρ) (i5_3 : Int) (go : Int → Option ρ) : Option ρ :=
 (bif (decide (i5_3 < ((c0_2.n : Nat) : Int))) then ((bif (decide (0 ≤ i5_3) && decide ((Int.toNat i5_3) < c0_2.n)) then some () else none : Option Unit).bind fun _ => (((bif ((c0_2.f (Int.toNat i5_3)).Address == o0_7) then
  (bif ((c0_2.f (Int.toNat i5_3)).Port == o0_8) then (some ((c0_2.f (Int.toNat i5_3)).Proto == o0_9)) else (some false)) else (some false)) : Option Bool).bind fun a => (bif a then
  (k0 i5_3 (c0_2.f (Int.toNat i5_3)).Address (c0_2.f (Int.toNat i5_3)).Port (c0_2.f (Int.toNat i5_3)).Proto (c0_2.f (Int.toNat i5_3)).Names) else (go (IntKind.wrap .i64 (i5_3 + 1)))))) else
  k1)
def F_spec_l5Find (fu : Nat) (c_0 : S_impl_Config) (x_1 : S_impl_Cmd) : Option (Int) :=
 (L (fun w0 go0 => F_spec_l5Find_B0 fu c_0.Version c_0.Backends c_0.Vips x_1.Kind x_1.Expect x_1.Name x_1.Addr x_1.Number x_1.Proto (fun a b d g h => (some a)) (some (-1)) w0 go0) fu (0 : Int))
def pc_a10 (fu : Nat) : Pc RT den := ⟨pcf0, fun _ => false, fun _ => false, pcd0, pcd0, pcd0, pcx0⟩
def msk_a10 (b : Nat) : List Nat := match b with | 0 => (1 :: 2 :: 4 :: (rg 6 37 [])) | 100000 => (0 :: 1 :: 2 :: 3 :: (rg 5 38 [])) | 200005 => [41] | _ => []
def ps_a10_0 : List (Pat RT) := (.rptr [(.int .i64), (.rs .impl_Backend), (.rs .impl_Vip)] :: .flat .q :: .flat .q :: .flat (.ref 0 0) :: .flat .q :: .flat (.int .i64) :: (fq 37 []))
def os_a10_0 : List (OP RT) := [.box false [(.int .i64), (.int .i64), (.int .i64), (.int .i64), (.int .i64), (.int .i64)]]
def conv_a10_0 (r : Raw den ps_a10_0 os_a10_0) : (Ya1) × (Int) := ((r.1.1.1, r.1.1.2.1, r.1.1.2.2.1, r.2.1.1, r.2.1.2.1, r.2.1.2.2.1, r.2.1.2.2.2.1, r.2.1.2.2.2.2.1, (e5 r.2.1).1), (e5 r.1).1)
def back_a10_0 (c : Ya1) (w : Int) : St RT den := ⟨((.rptr [(ii c.1), (.rs c.2.1.z .impl_Backend c.2.1.n c.2.1.f), (.rs c.2.2.1.z .impl_Vip c.2.2.1.n c.2.2.1.f)]) :: .q :: .q :: (.ref 0 0) :: .q :: (ii w) :: (qs 37 [])), [(.box false [(ii c.2.2.2.1), (ii c.2.2.2.2.1), (ii (e5 c).1), (ii (e5 c).2.1), (ii (e5 c).2.2.1), (ii (e5 c).2.2.2)])]⟩
def Bk_a10_0 {ρ : Type} (fu : Nat) (c : Ya1) (k : Ex → St RT den → Option ρ) (w : Int) (go : (Int) → Option ρ) : Option ρ := F_spec_l5Find_B0 fu c.1 c.2.1 c.2.2.1 c.2.2.2.1 c.2.2.2.2.1 (e5 c).1 (e5 c).2.1 (e5 c).2.2.1 (e5 c).2.2.2 (fun a0 a1 a2 a3 a4 => k .ret ⟨(qs 4 ((ii a0) :: (qs 38 []))), [(.box false [(ii c.2.2.2.1), (ii c.2.2.2.2.1), (ii (e5 c).1), (ii (e5 c).2.1), (ii (e5 c).2.2.1), (ii (e5 c).2.2.2)]), (.box false [(ii a1), (ii a2), (ii a3), (.rs a4.z .i64 a4.n a4.f)])]⟩) (k (.exit 0) ⟨(qs 43 []), [(.box false [(ii c.2.2.2.1), (ii c.2.2.2.2.1), (ii (e5 c).1), (ii (e5 c).2.1), (ii (e5 c).2.2.1), (ii (e5 c).2.2.2)])]⟩) w go
def lp_a10 (fu : Nat) : Lp RT den (Int) := ⟨fun b s k => match b with | 0 => handle ps_a10_0 os_a10_0 conv_a10_0 (Bk_a10_0 fu) fu s k | _ => none, inl0⟩
theorem ev_a10 (fu : Nat) (c_0 : S_impl_Config) (x_1 : S_impl_Cmd) : evFun E (pc_a10 fu) msk_a10 (lp_a10 fu) out_i64 140 [(.rptr [(ii c_0.Version), (.rs c_0.Backends.z .impl_Backend c_0.Backends.n c_0.Backends.f), (.rs c_0.Vips.z .impl_Vip c_0.Vips.n c_0.Vips.f)]), (.agg [(ii x_1.Kind), (ii x_1.Expect), (ii x_1.Name), (ii x_1.Addr), (ii x_1.Number), (ii x_1.Proto)])] = F_spec_l5Find fu c_0 x_1 := by kernel_rfl
noncomputable def body_a10 : Code := Try.f140.body.getD .skip
noncomputable def lc_a10_0 : Code := ((loops 0 body_a10).getD 0 (0, .skip)).2
theorem round_a10_0 (fu : Nat) : RoundOk E (pc_a10 fu) msk_a10 (lp_a10 fu) 0 lc_a10_0 back_a10_0 0 100000 1 (Bk_a10_0 fu) := fun it k c w => by kernel_rfl
theorem lpok_a10_0 (fu : Nat) : LpAt E (pc_a10 fu) msk_a10 (lp_a10 fu) 0 0 100000 0 lc_a10_0 :=
 handle_ok (ps := ps_a10_0) (os := os_a10_0) (conv := conv_a10_0) (B := Bk_a10_0 fu) (fu := fu) back_a10_0 (fun raw => by kernel_rfl) 1 (fun c w => by kernel_rfl) (round_a10_0 fu)
theorem lpok_a10 (fu : Nat) : LpOk E (pc_a10 fu) 0 msk_a10 (lp_a10 fu) (loops 0 body_a10) := lp_nil (loop_all 1 (by kernel_rfl) fun i hi => match i, hi with
 | 0, _ => by
  have h : (loops 0 body_a10).getD 0 (0, .skip) = (0, lc_a10_0) := by kernel_rfl
  rw [h]; exact lpok_a10_0 fu
 | i + 1, hi => absurd hi (by omega)) (by kernel_rfl)
def S_a10 (fu : Nat) (xs : List (D RT den)) : Option (Out RT den) := match xs with | [.rptr (.int .i64 a0_1 :: .rs za0_2 .impl_Backend na0_2 fa0_2 :: .rs za0_3 .impl_Vip na0_3 fa0_3 :: ra0), .agg [.int .i64 a1_1, .int .i64 a1_2, .int .i64 a1_3, .int .i64 a1_4, .int .i64 a1_5, .int .i64 a1_6]] => some ⟨Int, F_spec_l5Find fu (⟨a0_1, (⟨za0_2, na0_2, fa0_2⟩ : (Sl S_impl_Backend)), (⟨za0_3, na0_3, fa0_3⟩ : (Sl S_impl_Vip))⟩ : S_impl_Config) (⟨a1_1, a1_2, a1_3, a1_4, a1_5, a1_6⟩ : S_impl_Cmd), enc_i64, fun _ => true⟩ | _ => none
theorem goodv_a10 (fu : Nat) (c_0 : S_impl_Config) (x_1 : S_impl_Cmd) (y : Int) (hy : F_spec_l5Find fu c_0 x_1 = some y) : Good E Try.prog 140 [(.rptr [(ii c_0.Version), (.rs c_0.Backends.z .impl_Backend c_0.Backends.n c_0.Backends.f), (.rs c_0.Vips.z .impl_Vip c_0.Vips.n c_0.Vips.f)]), (.agg [(ii x_1.Kind), (ii x_1.Expect), (ii x_1.Name), (ii x_1.Addr), (ii x_1.Number), (ii x_1.Proto)])] (enc_i64 y) :=
 fun_good E_ok (pc_good (pc := pc_a10 fu) hpc0 hpx0) (fn := Try.f140) (by kernel_rfl) (by kernel_rfl) (by kernel_rfl) (lpok_a10 fu) (fun d hd => out_i64_enc d _ hd) ((ev_a10 fu c_0 x_1).trans hy)
theorem good_a10 (fu : Nat) : GoodS E Try.prog 140 (S_a10 fu) := by
 intro xs o h y hy
 unfold S_a10 at h
 split at h
 ·rename_i a0_1 za0_2 na0_2 fa0_2 za0_3 na0_3 fa0_3 ra0 a1_1 a1_2 a1_3 a1_4 a1_5 a1_6
  cases h
  exact (goodv_a10 fu (⟨a0_1, (⟨za0_2, na0_2, fa0_2⟩ : (Sl S_impl_Backend)), (⟨za0_3, na0_3, fa0_3⟩ : (Sl S_impl_Vip))⟩ : S_impl_Config) (⟨a1_1, a1_2, a1_3, a1_4, a1_5, a1_6⟩ : S_impl_Cmd) y hy).sub ⟨Sub.of_eq ra0 rfl, .refl _, trivial⟩
 ·cases h
def F_spec_l5At_B0 {ρ : Type} (fu : Nat) (c0_0 : Int) (c0_1 : (Sl S_impl_Backend)) (c0_2 : (Sl S_impl_Vip)) (name1_3 : Int) (k0 : Int → Option ρ) (k1 : Option ρ) (i5_4 : Int) (go : Int → Option ρ) : Option ρ :=
 (bif (decide (i5_4 < ((c0_1.n : Nat) : Int))) then ((bif (decide (0 ≤ i5_4) && decide ((Int.toNat i5_4) < c0_1.n)) then some () else none : Option Unit).bind fun _ => (bif ((c0_1.f (Int.toNat i5_4)).Name == name1_3) then
  (k0 i5_4) else (go (IntKind.wrap .i64 (i5_4 + 1))))) else k1)
def F_spec_l5At (fu : Nat) (c_0 : S_impl_Config) (name_1 : Int) : Option (Int) :=
 (L (fun w0 go0 => F_spec_l5At_B0 fu c_0.Version c_0.Backends c_0.Vips name_1 (fun a => (some a)) (some (-1)) w0 go0) fu (0 : Int))
def pc_a11 (fu : Nat) : Pc RT den := ⟨pcf0, fun _ => false, fun _ => false, pcd0, pcd0, pcd0, pcx0⟩
def msk_a11 (b : Nat) : List Nat := match b with | 0 => (2 :: 3 :: 4 :: (rg 6 20 [])) | 100000 => (0 :: 1 :: 2 :: 3 :: (rg 5 21 [])) | _ => []
def ps_a11_0 : List (Pat RT) := (.rptr [(.int .i64), (.rs .impl_Backend), (.rs .impl_Vip)] :: .flat (.int .i64) :: .flat .q :: .flat .q :: .flat .q :: .flat (.int .i64) :: (fq 20 []))
def os_a11_0 : List (OP RT) := []
def conv_a11_0 (r : Raw den ps_a11_0 os_a11_0) : (Int × (Sl S_impl_Backend) × (Sl S_impl_Vip) × Int) × (Int) := ((r.1.1.1, r.1.1.2.1, r.1.1.2.2.1, r.1.2.1), (e5 r.1).1)
def back_a11_0 (c : Int × (Sl S_impl_Backend) × (Sl S_impl_Vip) × Int) (w : Int) : St RT den := ⟨((.rptr [(ii c.1), (.rs c.2.1.z .impl_Backend c.2.1.n c.2.1.f), (.rs c.2.2.1.z .impl_Vip c.2.2.1.n c.2.2.1.f)]) :: (ii c.2.2.2) :: .q :: .q :: .q :: (ii w) :: (qs 20 [])), []⟩
def Bk_a11_0 {ρ : Type} (fu : Nat) (c : Int × (Sl S_impl_Backend) × (Sl S_impl_Vip) × Int) (k : Ex → St RT den → Option ρ) (w : Int) (go : (Int) → Option ρ) : Option ρ := F_spec_l5At_B0 fu c.1 c.2.1 c.2.2.1 c.2.2.2 (fun a0 => k .ret ⟨(qs 4 ((ii a0) :: (qs 21 []))), []⟩) (k (.exit 0) ⟨(qs 26 []), []⟩) w go
def lp_a11 (fu : Nat) : Lp RT den (Int) := ⟨fun b s k => match b with | 0 => handle ps_a11_0 os_a11_0 conv_a11_0 (Bk_a11_0 fu) fu s k | _ => none, inl0⟩
theorem ev_a11 (fu : Nat) (c_0 : S_impl_Config) (name_1 : Int) : evFun E (pc_a11 fu) msk_a11 (lp_a11 fu) out_i64 58 [(.rptr [(ii c_0.Version), (.rs c_0.Backends.z .impl_Backend c_0.Backends.n c_0.Backends.f), (.rs c_0.Vips.z .impl_Vip c_0.Vips.n c_0.Vips.f)]), (ii name_1)] = F_spec_l5At fu c_0 name_1 := by kernel_rfl
noncomputable def body_a11 : Code := Try.f58.body.getD .skip
noncomputable def lc_a11_0 : Code := ((loops 0 body_a11).getD 0 (0, .skip)).2
theorem round_a11_0 (fu : Nat) : RoundOk E (pc_a11 fu) msk_a11 (lp_a11 fu) 0 lc_a11_0 back_a11_0 0 100000 0 (Bk_a11_0 fu) := fun it k c w => by kernel_rfl
theorem lpok_a11_0 (fu : Nat) : LpAt E (pc_a11 fu) msk_a11 (lp_a11 fu) 0 0 100000 0 lc_a11_0 :=
 handle_ok (ps := ps_a11_0) (os := os_a11_0) (conv := conv_a11_0) (B := Bk_a11_0 fu) (fu := fu) back_a11_0 (fun raw => by kernel_rfl) 0 (fun c w => by kernel_rfl) (round_a11_0 fu)
theorem lpok_a11 (fu : Nat) : LpOk E (pc_a11 fu) 0 msk_a11 (lp_a11 fu) (loops 0 body_a11) := lp_nil (loop_all 1 (by kernel_rfl) fun i hi => match i, hi with
 | 0, _ => by
  have h : (loops 0 body_a11).getD 0 (0, .skip) = (0, lc_a11_0) := by kernel_rfl
  rw [h]; exact lpok_a11_0 fu
 | i + 1, hi => absurd hi (by omega)) (by kernel_rfl)
def S_a11 (fu : Nat) (xs : List (D RT den)) : Option (Out RT den) := match xs with | [.rptr (.int .i64 a0_1 :: .rs za0_2 .impl_Backend na0_2 fa0_2 :: .rs za0_3 .impl_Vip na0_3 fa0_3 :: ra0), .int .i64 a1_0] => some ⟨Int, F_spec_l5At fu (⟨a0_1, (⟨za0_2, na0_2, fa0_2⟩ : (Sl S_impl_Backend)), (⟨za0_3, na0_3, fa0_3⟩ : (Sl S_impl_Vip))⟩ : S_impl_Config) a1_0, enc_i64, fun _ => true⟩ | _ => none
theorem goodv_a11 (fu : Nat) (c_0 : S_impl_Config) (name_1 y : Int) (hy : F_spec_l5At fu c_0 name_1 = some y) : Good E Try.prog 58 [(.rptr [(ii c_0.Version), (.rs c_0.Backends.z .impl_Backend c_0.Backends.n c_0.Backends.f), (.rs c_0.Vips.z .impl_Vip c_0.Vips.n c_0.Vips.f)]), (ii name_1)] (enc_i64 y) :=
 fun_good E_ok (pc_good (pc := pc_a11 fu) hpc0 hpx0) (fn := Try.f58) (by kernel_rfl) (by kernel_rfl) (by kernel_rfl) (lpok_a11 fu) (fun d hd => out_i64_enc d _ hd) ((ev_a11 fu c_0 name_1).trans hy)
theorem good_a11 (fu : Nat) : GoodS E Try.prog 58 (S_a11 fu) := by
 intro xs o h y hy
 unfold S_a11 at h
 split at h
 ·rename_i a0_1 za0_2 na0_2 fa0_2 za0_3 na0_3 fa0_3 ra0 a1_0
  cases h
  exact (goodv_a11 fu (⟨a0_1, (⟨za0_2, na0_2, fa0_2⟩ : (Sl S_impl_Backend)), (⟨za0_3, na0_3, fa0_3⟩ : (Sl S_impl_Vip))⟩ : S_impl_Config) a1_0 y hy).sub ⟨Sub.of_eq ra0 rfl, .refl _, trivial⟩
 ·cases h
end Go.Proofs.Ytcmfekgdlaffkaa.Pq
