/- The functions' evaluated forms, each a proved summary. Conditions: none. -/
import Derived.Test.YtjdgfkmiaikegaaPeF5
namespace Go.Proofs.Ytjdgfkmiaikegaa.Pe
open Go Go.RowKit Go.Proofs Vm
set_option linter.unusedVariables false
set_option linter.unusedSimpArgs false
set_option maxRecDepth 100000
abbrev Yg0 : Type := Nat × (Sl Int) × Int × Nat × (Nat → S_impl_Entry)
abbrev Yg1 : Type := Int × Int × Int × Int × Int × Int × (Sl Int) × Int
abbrev Yg2 : Type := Nat × Int × Int × (Sl Int) × Int × Nat × (Nat → S_impl_Entry)
abbrev Yg3 : Type := Int × Int × Int × Int × Int × Int × Int × Int × Int × (Sl Int) × Int
def F_spec_l1Source_M (fu : Nat) (code_0 : (Sl Int)) : Option ((Sl Int) × Int) :=
 (some (code_0, 0))
def pc_b17 (fu : Nat) : Pc RT den := ⟨pcf0, fun _ => false, fun _ => false, pcd0, pcd0, pcx0⟩
def msk_b17 (b : Nat) : List Nat := []
def lp_b17 (fu : Nat) : Lp RT den ((Sl Int) × Int) := ⟨fun b s k => none, inl0⟩
def pso_b17 : List (Pat RT) := [.flat (.ref 0 0)]
def oso_b17 : List (OP RT) := [.box false [(.rs .u8), (.int .i64)]]
def conv_b17 (r : Raw den pso_b17 oso_b17) : (Sl Int) × Int := (r.2.1.1, r.2.1.2.1)
def enc_b17 (y : (Sl Int) × Int) : D RT den × List (Ob RT den) := ((.ref 0 0), [(.box false [(.rs y.1.z .u8 y.1.n y.1.f), (.int .i64 y.2)])])
def out_b17 (d : D RT den) (os : List (Ob RT den)) : Option ((Sl Int) × Int) := (unSt pso_b17 oso_b17 ⟨[d], os⟩).bind fun v => some (conv_b17 v.1)
theorem out_b17_enc (d : D RT den) (os : List (Ob RT den)) (y : (Sl Int) × Int) (h : out_b17 d os = some y) : d = (enc_b17 y).1 ∧ os = (enc_b17 y).2 :=
 outM (conv := conv_b17) (enc := enc_b17) (fun raw => by kernel_rfl) h
theorem ev_b17 (fu : Nat) (code_0 : (Sl Int)) : evFunM E false (pc_b17 fu) msk_b17 (lp_b17 fu) out_b17 52 [(.rs code_0.z .u8 code_0.n code_0.f)] [] = F_spec_l1Source_M fu code_0 := by kernel_rfl
noncomputable def body_b17 : Code := Try.f52.body.getD .skip
theorem lpok_b17 (fu : Nat) : LpOk E (pc_b17 fu) 0 msk_b17 (lp_b17 fu) (loops 0 body_b17) := lp_nil (loop_nil (by kernel_rfl)) (by kernel_rfl)
def S_b17 (fu : Nat) (xs : List (D RT den)) (ins : List (Ob RT den)) : Option (OutX RT den) := match xs, ins with | [.rs za0_0 .u8 na0_0 fa0_0], [] => some ⟨(Sl Int) × Int, F_spec_l1Source_M fu (⟨za0_0, na0_0, fa0_0⟩ : (Sl Int)), enc_b17⟩ | _, _ => none
theorem goodv_b17 (fu : Nat) (code_0 : (Sl Int)) (y : (Sl Int) × Int) (hy : F_spec_l1Source_M fu code_0 = some y) : GoodX E Try.prog 52 [(.rs code_0.z .u8 code_0.n code_0.f)] [] (enc_b17 y).1 (enc_b17 y).2 :=
 funM_good (ke := false) E_ok (pc_good (pc := pc_b17 fu) hpc0 hpx0) (fn := Try.f52) (by kernel_rfl) (by kernel_rfl) (by kernel_rfl) (lpok_b17 fu) (by kernel_rfl) (Nat.le_of_ble_eq_true (by kernel_rfl)) (fun d os hd => out_b17_enc d os _ hd) ((ev_b17 fu code_0).trans hy)
theorem good_b17 (fu : Nat) : GoodSX E Try.prog 52 (S_b17 fu) := by
 intro xs ins o h y hy
 unfold S_b17 at h
 split at h
 ·rename_i za0_0 na0_0 fa0_0
  cases h
  exact goodv_b17 fu (⟨za0_0, na0_0, fa0_0⟩ : (Sl Int)) y hy
 ·cases h
def F_spec_l1Max (fu : Nat) (a_0 b_1 : Int) : Option (Int) :=
 (bif (decide (a_0 > b_1)) then (some a_0) else (some b_1))
def pc_b18 (fu : Nat) : Pc RT den := ⟨pcf0, fun _ => false, fun _ => false, pcd0, pcd0, pcx0⟩
def msk_b18 (b : Nat) : List Nat := []
def lp_b18 (fu : Nat) : Lp RT den (Int) := ⟨fun b s k => none, inl0⟩
theorem ev_b18 (fu : Nat) (a_0 b_1 : Int) : evFun E (pc_b18 fu) msk_b18 (lp_b18 fu) out_i64 55 [(ii a_0), (ii b_1)] = F_spec_l1Max fu a_0 b_1 := by kernel_rfl
noncomputable def body_b18 : Code := Try.f55.body.getD .skip
theorem lpok_b18 (fu : Nat) : LpOk E (pc_b18 fu) 0 msk_b18 (lp_b18 fu) (loops 0 body_b18) := lp_nil (loop_nil (by kernel_rfl)) (by kernel_rfl)
def S_b18 (fu : Nat) (xs : List (D RT den)) : Option (Out RT den) := match xs with | [.int .i64 a0_0, .int .i64 a1_0] => some ⟨Int, F_spec_l1Max fu a0_0 a1_0, enc_i64, fun _ => true⟩ | _ => none
theorem goodv_b18 (fu : Nat) (a_0 b_1 y : Int) (hy : F_spec_l1Max fu a_0 b_1 = some y) : Good E Try.prog 55 [(ii a_0), (ii b_1)] (enc_i64 y) :=
 fun_good E_ok (pc_good (pc := pc_b18 fu) hpc0 hpx0) (fn := Try.f55) (by kernel_rfl) (by kernel_rfl) (by kernel_rfl) (lpok_b18 fu) (fun d hd => out_i64_enc d _ hd) ((ev_b18 fu a_0 b_1).trans hy)
theorem good_b18 (fu : Nat) : GoodS E Try.prog 55 (S_b18 fu) := by
 intro xs o h y hy
 unfold S_b18 at h
 split at h
 ·rename_i a0_0 a1_0
  cases h
  exact goodv_b18 fu a0_0 a1_0 y hy
 ·cases h
def F_spec_l1Next_M (fu : Nat) (n_1 : Int) (b0_1 : (Sl Int)) (b0_2 : Int) : Option (Int × (Sl Int) × Int) :=
 (bif (decide (n_1 < 1)) then (some (0, b0_1, (IntKind.wrap .i64 (b0_2 + 1)))) else (bif (((b0_1.n : Nat) : Int) == 0) then ((bif (!decide (n_1 = 0)) then some () else none : Option Unit).bind fun _ =>
  (some ((Int.tmod (IntKind.wrap .i64 ((IntKind.wrap .i64 ((IntKind.wrap .i64 (b0_2 + 1)) - 1)) * 7)) n_1), b0_1, (IntKind.wrap .i64 (b0_2 + 1))))) else ((bif (!decide (((b0_1.n : Nat) : Int) = 0)) then
  some () else none : Option Unit).bind fun _ => ((bif (decide (0 ≤ (Int.tmod (IntKind.wrap .i64 ((IntKind.wrap .i64 (b0_2 + 1)) - 1)) ((b0_1.n : Nat) : Int))) && decide ((Int.toNat (Int.tmod (IntKind.wrap .i64 ((IntKind.wrap .i64 (b0_2 + 1)) - 1)) ((b0_1.n : Nat) : Int))) < b0_1.n)) then
  some () else none : Option Unit).bind fun _ => ((bif (!decide (((b0_1.n : Nat) : Int) = 0)) then some () else none : Option Unit).bind fun _ => (bif (decide (n_1 > 200)) then
  ((bif (!decide (((b0_1.n : Nat) : Int) = 0)) then some () else none : Option Unit).bind fun _ => ((bif (decide (0 ≤ (Int.tmod (IntKind.wrap .i64 ((IntKind.wrap .i64 ((IntKind.wrap .i64 (b0_2 + 1)) - 1)) + 1)) ((b0_1.n : Nat) : Int))) &&
  decide ((Int.toNat (Int.tmod (IntKind.wrap .i64 ((IntKind.wrap .i64 ((IntKind.wrap .i64 (b0_2 + 1)) - 1)) + 1)) ((b0_1.n : Nat) : Int))) < b0_1.n)) then some () else none : Option Unit).bind fun _ =>
  ((bif (!decide (n_1 = 0)) then some () else none : Option Unit).bind fun _ => (some ((Int.tmod (IntKind.wrap .i64 ((IntKind.wrap .i64 ((IntKind.wrap .i64 ((IntKind.wrap .i64 ((IntKind.wrap .i64 (b0_1.f (Int.toNat (Int.tmod (IntKind.wrap .i64 ((IntKind.wrap .i64 (b0_2 + 1)) - 1)) ((b0_1.n : Nat) : Int))))) + (IntKind.wrap .i64 ((IntKind.wrap .i64 (Int.tdiv (IntKind.wrap .i64 ((IntKind.wrap .i64 (b0_2 + 1)) - 1)) ((b0_1.n : Nat) : Int))) * 37)))) * 251)) + (IntKind.wrap .i64 ((IntKind.wrap .i64 (b0_1.f (Int.toNat (Int.tmod (IntKind.wrap .i64 ((IntKind.wrap .i64 ((IntKind.wrap .i64 (b0_2 + 1)) - 1)) + 1)) ((b0_1.n : Nat) : Int))))) * 13)))) + (IntKind.wrap .i64 ((IntKind.wrap .i64 (b0_2 + 1)) - 1)))) n_1),
  b0_1, (IntKind.wrap .i64 (b0_2 + 1))))))) else ((bif (!decide (n_1 = 0)) then some () else none : Option Unit).bind fun _ => (some ((Int.tmod (IntKind.wrap .i64 ((IntKind.wrap .i64 (b0_1.f (Int.toNat (Int.tmod (IntKind.wrap .i64 ((IntKind.wrap .i64 (b0_2 + 1)) - 1)) ((b0_1.n : Nat) : Int))))) + (IntKind.wrap .i64 ((IntKind.wrap .i64 (Int.tdiv (IntKind.wrap .i64 ((IntKind.wrap .i64 (b0_2 + 1)) - 1)) ((b0_1.n : Nat) : Int))) * 37)))) n_1),
  b0_1, (IntKind.wrap .i64 (b0_2 + 1)))))))))))
def pc_b19 (fu : Nat) : Pc RT den := ⟨pcf0, fun _ => false, fun _ => false, pcd0, pcd0, pcx0⟩
def msk_b19 (b : Nat) : List Nat := []
def lp_b19 (fu : Nat) : Lp RT den (Int × (Sl Int) × Int) := ⟨fun b s k => none, inl0⟩
def pso_b19 : List (Pat RT) := [.flat (.int .i64)]
def oso_b19 : List (OP RT) := [.box true [(.rs .u8), (.int .i64)]]
def conv_b19 (r : Raw den pso_b19 oso_b19) : Int × (Sl Int) × Int := (r.1.1, r.2.1.1, r.2.1.2.1)
def enc_b19 (y : Int × (Sl Int) × Int) : D RT den × List (Ob RT den) := ((.int .i64 y.1), [(.box true [(.rs y.2.1.z .u8 y.2.1.n y.2.1.f), (.int .i64 y.2.2)])])
def out_b19 (d : D RT den) (os : List (Ob RT den)) : Option (Int × (Sl Int) × Int) := (unSt pso_b19 oso_b19 ⟨[d], os⟩).bind fun v => some (conv_b19 v.1)
theorem out_b19_enc (d : D RT den) (os : List (Ob RT den)) (y : Int × (Sl Int) × Int) (h : out_b19 d os = some y) : d = (enc_b19 y).1 ∧ os = (enc_b19 y).2 :=
 outM (conv := conv_b19) (enc := enc_b19) (fun raw => by kernel_rfl) h
theorem ev_b19 (fu : Nat) (n_1 : Int) (b0_1 : (Sl Int)) (b0_2 : Int) : evFunM E false (pc_b19 fu) msk_b19 (lp_b19 fu) out_b19 84 [(.ref 0 0), (ii n_1)] [(.box true [(.rs b0_1.z .u8 b0_1.n b0_1.f), (ii b0_2)])] = F_spec_l1Next_M fu n_1 b0_1 b0_2 := by kernel_rfl
noncomputable def body_b19 : Code := Try.f84.body.getD .skip
theorem lpok_b19 (fu : Nat) : LpOk E (pc_b19 fu) 0 msk_b19 (lp_b19 fu) (loops 0 body_b19) := lp_nil (loop_nil (by kernel_rfl)) (by kernel_rfl)
def S_b19 (fu : Nat) (xs : List (D RT den)) (ins : List (Ob RT den)) : Option (OutX RT den) := match xs, ins with | [.ref 0 0, .int .i64 a1_0], [.box true [.rs za1000_0 .u8 na1000_0 fa1000_0, .int .i64 a1001_0]] => some ⟨Int × (Sl Int) × Int, F_spec_l1Next_M fu a1_0 (⟨za1000_0, na1000_0, fa1000_0⟩ : (Sl Int)) a1001_0, enc_b19⟩ | _, _ => none
theorem goodv_b19 (fu : Nat) (n_1 : Int) (b0_1 : (Sl Int)) (b0_2 : Int) (y : Int × (Sl Int) × Int) (hy : F_spec_l1Next_M fu n_1 b0_1 b0_2 = some y) : GoodX E Try.prog 84 [(.ref 0 0), (ii n_1)] [(.box true [(.rs b0_1.z .u8 b0_1.n b0_1.f), (ii b0_2)])] (enc_b19 y).1 (enc_b19 y).2 :=
 funM_good (ke := false) E_ok (pc_good (pc := pc_b19 fu) hpc0 hpx0) (fn := Try.f84) (by kernel_rfl) (by kernel_rfl) (by kernel_rfl) (lpok_b19 fu) (by kernel_rfl) (Nat.le_of_ble_eq_true (by kernel_rfl)) (fun d os hd => out_b19_enc d os _ hd) ((ev_b19 fu n_1 b0_1 b0_2).trans hy)
theorem good_b19 (fu : Nat) : GoodSX E Try.prog 84 (S_b19 fu) := by
 intro xs ins o h y hy
 unfold S_b19 at h
 split at h
 ·rename_i a1_0 za1000_0 na1000_0 fa1000_0 a1001_0
  cases h
  exact goodv_b19 fu a1_0 (⟨za1000_0, na1000_0, fa1000_0⟩ : (Sl Int)) a1001_0 y hy
 ·cases h
def F_spec_l1Pick_M (fu : Nat) (list_1 b0_1 : (Sl Int)) (b0_2 : Int) : Option (Int × (Sl Int) × Int) :=
 ((F_spec_l1Next_M fu ((list_1.n : Nat) : Int) b0_1 b0_2).bind fun y889 => ((bif (decide (0 ≤ y889.1) && decide ((Int.toNat y889.1) < list_1.n)) then some () else none : Option Unit).bind fun _ =>
  (some ((list_1.f (Int.toNat y889.1)), y889.2.1, y889.2.2))))
def pcx_b20 (fu f : Nat) (xs : List (D RT den)) (ins : List (Ob RT den)) : Option (OutX RT den) := match f with | 84 => S_b19 fu xs ins | _ => none
def pcd_b20 : Nat → Bool := fun _ => false
def pc_b20 (fu : Nat) : Pc RT den := ⟨pcf0, fun f => match f with | 84 => true | _ => false, fun f => match f with | 84 => true | _ => false, pcd_b20, fun f => match f with | 84 => true | _ => false, pcx_b20 fu⟩
def msk_b20 (b : Nat) : List Nat := []
def lp_b20 (fu : Nat) : Lp RT den (Int × (Sl Int) × Int) := ⟨fun b s k => none, inl0⟩
def pso_b20 : List (Pat RT) := [.flat (.int .i64)]
def oso_b20 : List (OP RT) := [.box true [(.rs .u8), (.int .i64)]]
def conv_b20 (r : Raw den pso_b20 oso_b20) : Int × (Sl Int) × Int := (r.1.1, r.2.1.1, r.2.1.2.1)
def enc_b20 (y : Int × (Sl Int) × Int) : D RT den × List (Ob RT den) := ((.int .i64 y.1), [(.box true [(.rs y.2.1.z .u8 y.2.1.n y.2.1.f), (.int .i64 y.2.2)])])
def out_b20 (d : D RT den) (os : List (Ob RT den)) : Option (Int × (Sl Int) × Int) := (unSt pso_b20 oso_b20 ⟨[d], os⟩).bind fun v => some (conv_b20 v.1)
theorem out_b20_enc (d : D RT den) (os : List (Ob RT den)) (y : Int × (Sl Int) × Int) (h : out_b20 d os = some y) : d = (enc_b20 y).1 ∧ os = (enc_b20 y).2 :=
 outM (conv := conv_b20) (enc := enc_b20) (fun raw => by kernel_rfl) h
theorem ev_b20 (fu : Nat) (list_1 b0_1 : (Sl Int)) (b0_2 : Int) : evFunM E false (pc_b20 fu) msk_b20 (lp_b20 fu) out_b20 57 [(.ref 0 0), (.rs list_1.z .i64 list_1.n list_1.f)] [(.box true [(.rs b0_1.z .u8 b0_1.n b0_1.f), (ii b0_2)])] = F_spec_l1Pick_M fu list_1 b0_1 b0_2 := by kernel_rfl
noncomputable def body_b20 : Code := Try.f57.body.getD .skip
theorem lpok_b20 (fu : Nat) : LpOk E (pc_b20 fu) 0 msk_b20 (lp_b20 fu) (loops 0 body_b20) := lp_nil (loop_nil (by kernel_rfl)) (by kernel_rfl)
def S_b20 (fu : Nat) (xs : List (D RT den)) (ins : List (Ob RT den)) : Option (OutX RT den) := match xs, ins with | [.ref 0 0, .rs za1_0 .i64 na1_0 fa1_0], [.box true [.rs za1000_0 .u8 na1000_0 fa1000_0, .int .i64 a1001_0]] => some ⟨Int × (Sl Int) × Int, F_spec_l1Pick_M fu (⟨za1_0, na1_0, fa1_0⟩ : (Sl Int)) (⟨za1000_0, na1000_0, fa1000_0⟩ : (Sl Int)) a1001_0, enc_b20⟩ | _, _ => none
theorem hpx_b20 (fu : Nat) : HpxOk E Try.prog pcd_b20 (pcx_b20 fu) := by
 intro f xs ins o h
 unfold pcx_b20 at h
 split at h
 ·exact good_b19 fu xs ins o h
 ·cases h
theorem goodv_b20 (fu : Nat) (list_1 b0_1 : (Sl Int)) (b0_2 : Int) (y : Int × (Sl Int) × Int) (hy : F_spec_l1Pick_M fu list_1 b0_1 b0_2 = some y) : GoodX E Try.prog 57 [(.ref 0 0), (.rs list_1.z .i64 list_1.n list_1.f)] [(.box true [(.rs b0_1.z .u8 b0_1.n b0_1.f), (ii b0_2)])] (enc_b20 y).1 (enc_b20 y).2 :=
 funM_good (ke := false) E_ok (pc_good (pc := pc_b20 fu) hpc0 (hpx_b20 fu)) (fn := Try.f57) (by kernel_rfl) (by kernel_rfl) (by kernel_rfl) (lpok_b20 fu) (by kernel_rfl) (Nat.le_of_ble_eq_true (by kernel_rfl)) (fun d os hd => out_b20_enc d os _ hd) ((ev_b20 fu list_1 b0_1 b0_2).trans hy)
theorem good_b20 (fu : Nat) : GoodSX E Try.prog 57 (S_b20 fu) := by
 intro xs ins o h y hy
 unfold S_b20 at h
 split at h
 ·rename_i za1_0 na1_0 fa1_0 za1000_0 na1000_0 fa1000_0 a1001_0
  cases h
  exact goodv_b20 fu (⟨za1_0, na1_0, fa1_0⟩ : (Sl Int)) (⟨za1000_0, na1000_0, fa1000_0⟩ : (Sl Int)) a1001_0 y hy
 ·cases h
def F_spec_l1Chance_M (fu : Nat) (n_1 : Int) (b0_1 : (Sl Int)) (b0_2 : Int) : Option (Bool × (Sl Int) × Int) :=
 ((F_spec_l1Next_M fu n_1 b0_1 b0_2).bind fun y891 => (some ((y891.1 == 0), y891.2.1, y891.2.2)))
def pcx_b21 (fu f : Nat) (xs : List (D RT den)) (ins : List (Ob RT den)) : Option (OutX RT den) := match f with | 84 => S_b19 fu xs ins | _ => none
def pcd_b21 : Nat → Bool := fun _ => false
def pc_b21 (fu : Nat) : Pc RT den := ⟨pcf0, fun f => match f with | 84 => true | _ => false, fun f => match f with | 84 => true | _ => false, pcd_b21, fun f => match f with | 84 => true | _ => false, pcx_b21 fu⟩
def msk_b21 (b : Nat) : List Nat := []
def lp_b21 (fu : Nat) : Lp RT den (Bool × (Sl Int) × Int) := ⟨fun b s k => none, inl0⟩
def pso_b21 : List (Pat RT) := [.flat .bool]
def oso_b21 : List (OP RT) := [.box true [(.rs .u8), (.int .i64)]]
def conv_b21 (r : Raw den pso_b21 oso_b21) : Bool × (Sl Int) × Int := (r.1.1, r.2.1.1, r.2.1.2.1)
def enc_b21 (y : Bool × (Sl Int) × Int) : D RT den × List (Ob RT den) := ((.bool y.1), [(.box true [(.rs y.2.1.z .u8 y.2.1.n y.2.1.f), (.int .i64 y.2.2)])])
def out_b21 (d : D RT den) (os : List (Ob RT den)) : Option (Bool × (Sl Int) × Int) := (unSt pso_b21 oso_b21 ⟨[d], os⟩).bind fun v => some (conv_b21 v.1)
theorem out_b21_enc (d : D RT den) (os : List (Ob RT den)) (y : Bool × (Sl Int) × Int) (h : out_b21 d os = some y) : d = (enc_b21 y).1 ∧ os = (enc_b21 y).2 :=
 outM (conv := conv_b21) (enc := enc_b21) (fun raw => by kernel_rfl) h
theorem ev_b21 (fu : Nat) (n_1 : Int) (b0_1 : (Sl Int)) (b0_2 : Int) : evFunM E false (pc_b21 fu) msk_b21 (lp_b21 fu) out_b21 56 [(.ref 0 0), (ii n_1)] [(.box true [(.rs b0_1.z .u8 b0_1.n b0_1.f), (ii b0_2)])] = F_spec_l1Chance_M fu n_1 b0_1 b0_2 := by kernel_rfl
noncomputable def body_b21 : Code := Try.f56.body.getD .skip
theorem lpok_b21 (fu : Nat) : LpOk E (pc_b21 fu) 0 msk_b21 (lp_b21 fu) (loops 0 body_b21) := lp_nil (loop_nil (by kernel_rfl)) (by kernel_rfl)
def S_b21 (fu : Nat) (xs : List (D RT den)) (ins : List (Ob RT den)) : Option (OutX RT den) := match xs, ins with | [.ref 0 0, .int .i64 a1_0], [.box true [.rs za1000_0 .u8 na1000_0 fa1000_0, .int .i64 a1001_0]] => some ⟨Bool × (Sl Int) × Int, F_spec_l1Chance_M fu a1_0 (⟨za1000_0, na1000_0, fa1000_0⟩ : (Sl Int)) a1001_0, enc_b21⟩ | _, _ => none
theorem hpx_b21 (fu : Nat) : HpxOk E Try.prog pcd_b21 (pcx_b21 fu) := by
 intro f xs ins o h
 unfold pcx_b21 at h
 split at h
 ·exact good_b19 fu xs ins o h
 ·cases h
theorem goodv_b21 (fu : Nat) (n_1 : Int) (b0_1 : (Sl Int)) (b0_2 : Int) (y : Bool × (Sl Int) × Int) (hy : F_spec_l1Chance_M fu n_1 b0_1 b0_2 = some y) : GoodX E Try.prog 56 [(.ref 0 0), (ii n_1)] [(.box true [(.rs b0_1.z .u8 b0_1.n b0_1.f), (ii b0_2)])] (enc_b21 y).1 (enc_b21 y).2 :=
 funM_good (ke := false) E_ok (pc_good (pc := pc_b21 fu) hpc0 (hpx_b21 fu)) (fn := Try.f56) (by kernel_rfl) (by kernel_rfl) (by kernel_rfl) (lpok_b21 fu) (by kernel_rfl) (Nat.le_of_ble_eq_true (by kernel_rfl)) (fun d os hd => out_b21_enc d os _ hd) ((ev_b21 fu n_1 b0_1 b0_2).trans hy)
theorem good_b21 (fu : Nat) : GoodSX E Try.prog 56 (S_b21 fu) := by
 intro xs ins o h y hy
 unfold S_b21 at h
 split at h
 ·rename_i a1_0 za1000_0 na1000_0 fa1000_0 a1001_0
  cases h
  exact goodv_b21 fu a1_0 (⟨za1000_0, na1000_0, fa1000_0⟩ : (Sl Int)) a1001_0 y hy
 ·cases h
def F_spec_l5Cmd_M (fu : Nat) (b0_0 : (Sl Int)) (b0_1 : Int) : Option (Yg1) :=
 ((F_spec_l1Pick_M fu (⟨(some false), 12, (fun i => ([1, 1, 2, 3, 4, 5, 6, 7, 7, 7, 8, 9] : List (Int)).getD i (dflt .i64))⟩ : (Sl Int)) b0_0 b0_1).bind fun y897 =>
  ((F_spec_l1Next_M fu 5 y897.2.1 y897.2.2).bind fun y898 => ((F_spec_l1Next_M fu 3 y898.2.1 y898.2.2).bind fun y899 => ((F_spec_l1Pick_M fu (⟨(some false), 3, (fun i => ([80, 80,
  443] : List (Int)).getD i (dflt .i64))⟩ : (Sl Int)) y899.2.1 y899.2.2).bind fun y900 => (bif (y897.1 == 1) then ((F_spec_l1Next_M fu 4 y900.2.1 y900.2.2).bind fun y901 =>
  ((F_spec_l5Needs fu y897.1).bind fun y902 => (bif (!y902.1) then (bif (!y902.2.1) then (bif (!y902.2.2.1) then (bif (!y902.2.2.2) then ((F_spec_l1Chance_M fu 12 y901.2.1 y901.2.2).bind fun y903 =>
  (bif y903.1 then ((F_spec_l1Next_M fu 9 y903.2.1 y903.2.2).bind fun y904 => (some (y897.1, y904.1, 0, 0, 0, 0, y904.2.1, y904.2.2))) else (some (y897.1, (-1), 0, 0, 0, 0,
  y903.2.1, y903.2.2)))) else ((F_spec_l1Chance_M fu 12 y901.2.1 y901.2.2).bind fun y905 => (bif y905.1 then ((F_spec_l1Next_M fu 9 y905.2.1 y905.2.2).bind fun y906 => (some (y897.1,
  y906.1, 0, 0, 0, 6, y906.2.1, y906.2.2))) else (some (y897.1, (-1), 0, 0, 0, 6, y905.2.1, y905.2.2))))) else (bif (!y902.2.2.2) then ((F_spec_l1Chance_M fu 12 y901.2.1 y901.2.2).bind fun y907 =>
  (bif y907.1 then ((F_spec_l1Next_M fu 9 y907.2.1 y907.2.2).bind fun y908 => (some (y897.1, y908.1, 0, 0, y901.1, 0, y908.2.1, y908.2.2))) else (some (y897.1, (-1), 0, 0, y901.1,
  0, y907.2.1, y907.2.2)))) else ((F_spec_l1Chance_M fu 12 y901.2.1 y901.2.2).bind fun y909 => (bif y909.1 then ((F_spec_l1Next_M fu 9 y909.2.1 y909.2.2).bind fun y910 => (some (y897.1,
  y910.1, 0, 0, y901.1, 6, y910.2.1, y910.2.2))) else (some (y897.1, (-1), 0, 0, y901.1, 6, y909.2.1, y909.2.2)))))) else (bif (!y902.2.2.1) then (bif (!y902.2.2.2) then
  ((F_spec_l1Chance_M fu 12 y901.2.1 y901.2.2).bind fun y911 => (bif y911.1 then ((F_spec_l1Next_M fu 9 y911.2.1 y911.2.2).bind fun y912 => (some (y897.1, y912.1, 0, (IntKind.wrap .i64 (500 + (IntKind.wrap .i64 (1 + y898.1)))),
  0, 0, y912.2.1, y912.2.2))) else (some (y897.1, (-1), 0, (IntKind.wrap .i64 (500 + (IntKind.wrap .i64 (1 + y898.1)))), 0, 0, y911.2.1, y911.2.2)))) else ((F_spec_l1Chance_M fu 12 y901.2.1 y901.2.2).bind fun y913 =>
  (bif y913.1 then ((F_spec_l1Next_M fu 9 y913.2.1 y913.2.2).bind fun y914 => (some (y897.1, y914.1, 0, (IntKind.wrap .i64 (500 + (IntKind.wrap .i64 (1 + y898.1)))), 0, 6,
  y914.2.1, y914.2.2))) else (some (y897.1, (-1), 0, (IntKind.wrap .i64 (500 + (IntKind.wrap .i64 (1 + y898.1)))), 0, 6, y913.2.1, y913.2.2))))) else (bif (!y902.2.2.2) then
  ((F_spec_l1Chance_M fu 12 y901.2.1 y901.2.2).bind fun y915 => (bif y915.1 then ((F_spec_l1Next_M fu 9 y915.2.1 y915.2.2).bind fun y916 => (some (y897.1, y916.1, 0, (IntKind.wrap .i64 (500 + (IntKind.wrap .i64 (1 + y898.1)))),
  y901.1, 0, y916.2.1, y916.2.2))) else (some (y897.1, (-1), 0, (IntKind.wrap .i64 (500 + (IntKind.wrap .i64 (1 + y898.1)))), y901.1, 0, y915.2.1, y915.2.2)))) else
  ((F_spec_l1Chance_M fu 12 y901.2.1 y901.2.2).bind fun y917 => (bif y917.1 then ((F_spec_l1Next_M fu 9 y917.2.1 y917.2.2).bind fun y918 => (some (y897.1, y918.1, 0, (IntKind.wrap .i64 (500 + (IntKind.wrap .i64 (1 + y898.1)))),
  y901.1, 6, y918.2.1, y918.2.2))) else (some (y897.1, (-1), 0, (IntKind.wrap .i64 (500 + (IntKind.wrap .i64 (1 + y898.1)))), y901.1, 6, y917.2.1, y917.2.2))))))) else (bif (!y902.2.1) then
  (bif (!y902.2.2.1) then (bif (!y902.2.2.2) then ((F_spec_l1Chance_M fu 12 y901.2.1 y901.2.2).bind fun y919 => (bif y919.1 then ((F_spec_l1Next_M fu 9 y919.2.1 y919.2.2).bind fun y920 =>
  (some (y897.1, y920.1, (IntKind.wrap .i64 (1 + y898.1)), 0, 0, 0, y920.2.1, y920.2.2))) else (some (y897.1, (-1), (IntKind.wrap .i64 (1 + y898.1)), 0, 0, 0, y919.2.1,
  y919.2.2)))) else ((F_spec_l1Chance_M fu 12 y901.2.1 y901.2.2).bind fun y921 => (bif y921.1 then ((F_spec_l1Next_M fu 9 y921.2.1 y921.2.2).bind fun y922 => (some (y897.1,
  y922.1, (IntKind.wrap .i64 (1 + y898.1)), 0, 0, 6, y922.2.1, y922.2.2))) else (some (y897.1, (-1), (IntKind.wrap .i64 (1 + y898.1)), 0, 0, 6, y921.2.1, y921.2.2))))) else (bif (!y902.2.2.2) then
  ((F_spec_l1Chance_M fu 12 y901.2.1 y901.2.2).bind fun y923 => (bif y923.1 then ((F_spec_l1Next_M fu 9 y923.2.1 y923.2.2).bind fun y924 => (some (y897.1, y924.1, (IntKind.wrap .i64 (1 + y898.1)),
  0, y901.1, 0, y924.2.1, y924.2.2))) else (some (y897.1, (-1), (IntKind.wrap .i64 (1 + y898.1)), 0, y901.1, 0, y923.2.1, y923.2.2)))) else ((F_spec_l1Chance_M fu 12 y901.2.1 y901.2.2).bind fun y925 =>
  (bif y925.1 then ((F_spec_l1Next_M fu 9 y925.2.1 y925.2.2).bind fun y926 => (some (y897.1, y926.1, (IntKind.wrap .i64 (1 + y898.1)), 0, y901.1, 6, y926.2.1, y926.2.2))) else
  (some (y897.1, (-1), (IntKind.wrap .i64 (1 + y898.1)), 0, y901.1, 6, y925.2.1, y925.2.2)))))) else (bif (!y902.2.2.1) then (bif (!y902.2.2.2) then ((F_spec_l1Chance_M fu 12 y901.2.1 y901.2.2).bind fun y927 =>
  (bif y927.1 then ((F_spec_l1Next_M fu 9 y927.2.1 y927.2.2).bind fun y928 => (some (y897.1, y928.1, (IntKind.wrap .i64 (1 + y898.1)), (IntKind.wrap .i64 (500 + (IntKind.wrap .i64 (1 + y898.1)))),
  0, 0, y928.2.1, y928.2.2))) else (some (y897.1, (-1), (IntKind.wrap .i64 (1 + y898.1)), (IntKind.wrap .i64 (500 + (IntKind.wrap .i64 (1 + y898.1)))), 0, 0, y927.2.1,
  y927.2.2)))) else ((F_spec_l1Chance_M fu 12 y901.2.1 y901.2.2).bind fun y929 => (bif y929.1 then ((F_spec_l1Next_M fu 9 y929.2.1 y929.2.2).bind fun y930 => (some (y897.1,
  y930.1, (IntKind.wrap .i64 (1 + y898.1)), (IntKind.wrap .i64 (500 + (IntKind.wrap .i64 (1 + y898.1)))), 0, 6, y930.2.1, y930.2.2))) else (some (y897.1, (-1), (IntKind.wrap .i64 (1 + y898.1)),
  (IntKind.wrap .i64 (500 + (IntKind.wrap .i64 (1 + y898.1)))), 0, 6, y929.2.1, y929.2.2))))) else (bif (!y902.2.2.2) then ((F_spec_l1Chance_M fu 12 y901.2.1 y901.2.2).bind fun y931 =>
  (bif y931.1 then ((F_spec_l1Next_M fu 9 y931.2.1 y931.2.2).bind fun y932 => (some (y897.1, y932.1, (IntKind.wrap .i64 (1 + y898.1)), (IntKind.wrap .i64 (500 + (IntKind.wrap .i64 (1 + y898.1)))),
  y901.1, 0, y932.2.1, y932.2.2))) else (some (y897.1, (-1), (IntKind.wrap .i64 (1 + y898.1)), (IntKind.wrap .i64 (500 + (IntKind.wrap .i64 (1 + y898.1)))), y901.1, 0, y931.2.1,
  y931.2.2)))) else ((F_spec_l1Chance_M fu 12 y901.2.1 y901.2.2).bind fun y933 => (bif y933.1 then ((F_spec_l1Next_M fu 9 y933.2.1 y933.2.2).bind fun y934 => (some (y897.1,
  y934.1, (IntKind.wrap .i64 (1 + y898.1)), (IntKind.wrap .i64 (500 + (IntKind.wrap .i64 (1 + y898.1)))), y901.1, 6, y934.2.1, y934.2.2))) else (some (y897.1, (-1), (IntKind.wrap .i64 (1 + y898.1)),
  (IntKind.wrap .i64 (500 + (IntKind.wrap .i64 (1 + y898.1)))), y901.1, 6, y933.2.1, y933.2.2)))))))))) else (bif (y897.1 == 2) then ((F_spec_l1Next_M fu 10 y900.2.1 y900.2.2).bind fun y935 =>
  ((F_spec_l5Needs fu y897.1).bind fun y936 => (bif (!y936.1) then (bif (!y936.2.1) then (bif (!y936.2.2.1) then (bif (!y936.2.2.2) then ((F_spec_l1Chance_M fu 12 y935.2.1 y935.2.2).bind fun y937 =>
  (bif y937.1 then ((F_spec_l1Next_M fu 9 y937.2.1 y937.2.2).bind fun y938 => (some (y897.1, y938.1, 0, 0, 0, 0, y938.2.1, y938.2.2))) else (some (y897.1, (-1), 0, 0, 0, 0,
  y937.2.1, y937.2.2)))) else ((F_spec_l1Chance_M fu 12 y935.2.1 y935.2.2).bind fun y939 => (bif y939.1 then ((F_spec_l1Next_M fu 9 y939.2.1 y939.2.2).bind fun y940 => (some (y897.1,
  y940.1, 0, 0, 0, 6, y940.2.1, y940.2.2))) else (some (y897.1, (-1), 0, 0, 0, 6, y939.2.1, y939.2.2))))) else (bif (!y936.2.2.2) then ((F_spec_l1Chance_M fu 12 y935.2.1 y935.2.2).bind fun y941 =>
  (bif y941.1 then ((F_spec_l1Next_M fu 9 y941.2.1 y941.2.2).bind fun y942 => (some (y897.1, y942.1, 0, 0, y935.1, 0, y942.2.1, y942.2.2))) else (some (y897.1, (-1), 0, 0, y935.1,
  0, y941.2.1, y941.2.2)))) else ((F_spec_l1Chance_M fu 12 y935.2.1 y935.2.2).bind fun y943 => (bif y943.1 then ((F_spec_l1Next_M fu 9 y943.2.1 y943.2.2).bind fun y944 => (some (y897.1,
  y944.1, 0, 0, y935.1, 6, y944.2.1, y944.2.2))) else (some (y897.1, (-1), 0, 0, y935.1, 6, y943.2.1, y943.2.2)))))) else (bif (!y936.2.2.1) then (bif (!y936.2.2.2) then
  ((F_spec_l1Chance_M fu 12 y935.2.1 y935.2.2).bind fun y945 => (bif y945.1 then ((F_spec_l1Next_M fu 9 y945.2.1 y945.2.2).bind fun y946 => (some (y897.1, y946.1, 0, (IntKind.wrap .i64 (167772160 + y899.1)),
  0, 0, y946.2.1, y946.2.2))) else (some (y897.1, (-1), 0, (IntKind.wrap .i64 (167772160 + y899.1)), 0, 0, y945.2.1, y945.2.2)))) else ((F_spec_l1Chance_M fu 12 y935.2.1 y935.2.2).bind fun y947 =>
  (bif y947.1 then ((F_spec_l1Next_M fu 9 y947.2.1 y947.2.2).bind fun y948 => (some (y897.1, y948.1, 0, (IntKind.wrap .i64 (167772160 + y899.1)), 0, 6, y948.2.1, y948.2.2))) else
  (some (y897.1, (-1), 0, (IntKind.wrap .i64 (167772160 + y899.1)), 0, 6, y947.2.1, y947.2.2))))) else (bif (!y936.2.2.2) then ((F_spec_l1Chance_M fu 12 y935.2.1 y935.2.2).bind fun y949 =>
  (bif y949.1 then ((F_spec_l1Next_M fu 9 y949.2.1 y949.2.2).bind fun y950 => (some (y897.1, y950.1, 0, (IntKind.wrap .i64 (167772160 + y899.1)), y935.1, 0, y950.2.1, y950.2.2))) else
  (some (y897.1, (-1), 0, (IntKind.wrap .i64 (167772160 + y899.1)), y935.1, 0, y949.2.1, y949.2.2)))) else ((F_spec_l1Chance_M fu 12 y935.2.1 y935.2.2).bind fun y951 => (bif y951.1 then
  ((F_spec_l1Next_M fu 9 y951.2.1 y951.2.2).bind fun y952 => (some (y897.1, y952.1, 0, (IntKind.wrap .i64 (167772160 + y899.1)), y935.1, 6, y952.2.1, y952.2.2))) else (some (y897.1,
  (-1), 0, (IntKind.wrap .i64 (167772160 + y899.1)), y935.1, 6, y951.2.1, y951.2.2))))))) else (bif (!y936.2.1) then (bif (!y936.2.2.1) then (bif (!y936.2.2.2) then
  ((F_spec_l1Chance_M fu 12 y935.2.1 y935.2.2).bind fun y953 => (bif y953.1 then ((F_spec_l1Next_M fu 9 y953.2.1 y953.2.2).bind fun y954 => (some (y897.1, y954.1, (IntKind.wrap .i64 (1 + y898.1)),
  0, 0, 0, y954.2.1, y954.2.2))) else (some (y897.1, (-1), (IntKind.wrap .i64 (1 + y898.1)), 0, 0, 0, y953.2.1, y953.2.2)))) else ((F_spec_l1Chance_M fu 12 y935.2.1 y935.2.2).bind fun y955 =>
  (bif y955.1 then ((F_spec_l1Next_M fu 9 y955.2.1 y955.2.2).bind fun y956 => (some (y897.1, y956.1, (IntKind.wrap .i64 (1 + y898.1)), 0, 0, 6, y956.2.1, y956.2.2))) else (some (y897.1,
  (-1), (IntKind.wrap .i64 (1 + y898.1)), 0, 0, 6, y955.2.1, y955.2.2))))) else (bif (!y936.2.2.2) then ((F_spec_l1Chance_M fu 12 y935.2.1 y935.2.2).bind fun y957 => (bif y957.1 then
  ((F_spec_l1Next_M fu 9 y957.2.1 y957.2.2).bind fun y958 => (some (y897.1, y958.1, (IntKind.wrap .i64 (1 + y898.1)), 0, y935.1, 0, y958.2.1, y958.2.2))) else (some (y897.1, (-1),
  (IntKind.wrap .i64 (1 + y898.1)), 0, y935.1, 0, y957.2.1, y957.2.2)))) else ((F_spec_l1Chance_M fu 12 y935.2.1 y935.2.2).bind fun y959 => (bif y959.1 then ((F_spec_l1Next_M fu 9 y959.2.1 y959.2.2).bind fun y960 =>
  (some (y897.1, y960.1, (IntKind.wrap .i64 (1 + y898.1)), 0, y935.1, 6, y960.2.1, y960.2.2))) else (some (y897.1, (-1), (IntKind.wrap .i64 (1 + y898.1)), 0, y935.1, 6, y959.2.1,
  y959.2.2)))))) else (bif (!y936.2.2.1) then (bif (!y936.2.2.2) then ((F_spec_l1Chance_M fu 12 y935.2.1 y935.2.2).bind fun y961 => (bif y961.1 then ((F_spec_l1Next_M fu 9 y961.2.1 y961.2.2).bind fun y962 =>
  (some (y897.1, y962.1, (IntKind.wrap .i64 (1 + y898.1)), (IntKind.wrap .i64 (167772160 + y899.1)), 0, 0, y962.2.1, y962.2.2))) else (some (y897.1, (-1), (IntKind.wrap .i64 (1 + y898.1)),
  (IntKind.wrap .i64 (167772160 + y899.1)), 0, 0, y961.2.1, y961.2.2)))) else ((F_spec_l1Chance_M fu 12 y935.2.1 y935.2.2).bind fun y963 => (bif y963.1 then ((F_spec_l1Next_M fu 9 y963.2.1 y963.2.2).bind fun y964 =>
  (some (y897.1, y964.1, (IntKind.wrap .i64 (1 + y898.1)), (IntKind.wrap .i64 (167772160 + y899.1)), 0, 6, y964.2.1, y964.2.2))) else (some (y897.1, (-1), (IntKind.wrap .i64 (1 + y898.1)),
  (IntKind.wrap .i64 (167772160 + y899.1)), 0, 6, y963.2.1, y963.2.2))))) else (bif (!y936.2.2.2) then ((F_spec_l1Chance_M fu 12 y935.2.1 y935.2.2).bind fun y965 => (bif y965.1 then
  ((F_spec_l1Next_M fu 9 y965.2.1 y965.2.2).bind fun y966 => (some (y897.1, y966.1, (IntKind.wrap .i64 (1 + y898.1)), (IntKind.wrap .i64 (167772160 + y899.1)), y935.1, 0,
  y966.2.1, y966.2.2))) else (some (y897.1, (-1), (IntKind.wrap .i64 (1 + y898.1)), (IntKind.wrap .i64 (167772160 + y899.1)), y935.1, 0, y965.2.1, y965.2.2)))) else
  ((F_spec_l1Chance_M fu 12 y935.2.1 y935.2.2).bind fun y967 => (bif y967.1 then ((F_spec_l1Next_M fu 9 y967.2.1 y967.2.2).bind fun y968 => (some (y897.1, y968.1, (IntKind.wrap .i64 (1 + y898.1)),
  (IntKind.wrap .i64 (167772160 + y899.1)), y935.1, 6, y968.2.1, y968.2.2))) else (some (y897.1, (-1), (IntKind.wrap .i64 (1 + y898.1)), (IntKind.wrap .i64 (167772160 + y899.1)),
  y935.1, 6, y967.2.1, y967.2.2)))))))))) else (bif (y897.1 == 3) then ((F_spec_l1Next_M fu 3 y900.2.1 y900.2.2).bind fun y969 => ((F_spec_l5Needs fu y897.1).bind fun y970 => (bif (!y970.1) then
  (bif (!y970.2.1) then (bif (!y970.2.2.1) then (bif (!y970.2.2.2) then ((F_spec_l1Chance_M fu 12 y969.2.1 y969.2.2).bind fun y971 => (bif y971.1 then ((F_spec_l1Next_M fu 9 y971.2.1 y971.2.2).bind fun y972 =>
  (some (y897.1, y972.1, 0, 0, 0, 0, y972.2.1, y972.2.2))) else (some (y897.1, (-1), 0, 0, 0, 0, y971.2.1, y971.2.2)))) else ((F_spec_l1Chance_M fu 12 y969.2.1 y969.2.2).bind fun y973 =>
  (bif y973.1 then ((F_spec_l1Next_M fu 9 y973.2.1 y973.2.2).bind fun y974 => (some (y897.1, y974.1, 0, 0, 0, 6, y974.2.1, y974.2.2))) else (some (y897.1, (-1), 0, 0, 0, 6,
  y973.2.1, y973.2.2))))) else (bif (!y970.2.2.2) then ((F_spec_l1Chance_M fu 12 y969.2.1 y969.2.2).bind fun y975 => (bif y975.1 then ((F_spec_l1Next_M fu 9 y975.2.1 y975.2.2).bind fun y976 =>
  (some (y897.1, y976.1, 0, 0, (IntKind.wrap .i64 (1 + y969.1)), 0, y976.2.1, y976.2.2))) else (some (y897.1, (-1), 0, 0, (IntKind.wrap .i64 (1 + y969.1)), 0, y975.2.1,
  y975.2.2)))) else ((F_spec_l1Chance_M fu 12 y969.2.1 y969.2.2).bind fun y977 => (bif y977.1 then ((F_spec_l1Next_M fu 9 y977.2.1 y977.2.2).bind fun y978 => (some (y897.1,
  y978.1, 0, 0, (IntKind.wrap .i64 (1 + y969.1)), 6, y978.2.1, y978.2.2))) else (some (y897.1, (-1), 0, 0, (IntKind.wrap .i64 (1 + y969.1)), 6, y977.2.1, y977.2.2)))))) else (bif (!y970.2.2.1) then
  (bif (!y970.2.2.2) then ((F_spec_l1Chance_M fu 12 y969.2.1 y969.2.2).bind fun y979 => (bif y979.1 then ((F_spec_l1Next_M fu 9 y979.2.1 y979.2.2).bind fun y980 => (some (y897.1,
  y980.1, 0, (IntKind.wrap .i64 (167772160 + y899.1)), 0, 0, y980.2.1, y980.2.2))) else (some (y897.1, (-1), 0, (IntKind.wrap .i64 (167772160 + y899.1)), 0, 0, y979.2.1,
  y979.2.2)))) else ((F_spec_l1Chance_M fu 12 y969.2.1 y969.2.2).bind fun y981 => (bif y981.1 then ((F_spec_l1Next_M fu 9 y981.2.1 y981.2.2).bind fun y982 => (some (y897.1,
  y982.1, 0, (IntKind.wrap .i64 (167772160 + y899.1)), 0, 6, y982.2.1, y982.2.2))) else (some (y897.1, (-1), 0, (IntKind.wrap .i64 (167772160 + y899.1)), 0, 6, y981.2.1,
  y981.2.2))))) else (bif (!y970.2.2.2) then ((F_spec_l1Chance_M fu 12 y969.2.1 y969.2.2).bind fun y983 => (bif y983.1 then ((F_spec_l1Next_M fu 9 y983.2.1 y983.2.2).bind fun y984 =>
  (some (y897.1, y984.1, 0, (IntKind.wrap .i64 (167772160 + y899.1)), (IntKind.wrap .i64 (1 + y969.1)), 0, y984.2.1, y984.2.2))) else (some (y897.1, (-1), 0, (IntKind.wrap .i64 (167772160 + y899.1)),
  (IntKind.wrap .i64 (1 + y969.1)), 0, y983.2.1, y983.2.2)))) else ((F_spec_l1Chance_M fu 12 y969.2.1 y969.2.2).bind fun y985 => (bif y985.1 then ((F_spec_l1Next_M fu 9 y985.2.1 y985.2.2).bind fun y986 =>
  (some (y897.1, y986.1, 0, (IntKind.wrap .i64 (167772160 + y899.1)), (IntKind.wrap .i64 (1 + y969.1)), 6, y986.2.1, y986.2.2))) else (some (y897.1, (-1), 0, (IntKind.wrap .i64 (167772160 + y899.1)),
  (IntKind.wrap .i64 (1 + y969.1)), 6, y985.2.1, y985.2.2))))))) else (bif (!y970.2.1) then (bif (!y970.2.2.1) then (bif (!y970.2.2.2) then ((F_spec_l1Chance_M fu 12 y969.2.1 y969.2.2).bind fun y987 =>
  (bif y987.1 then ((F_spec_l1Next_M fu 9 y987.2.1 y987.2.2).bind fun y988 => (some (y897.1, y988.1, (IntKind.wrap .i64 (1 + y898.1)), 0, 0, 0, y988.2.1, y988.2.2))) else (some (y897.1,
  (-1), (IntKind.wrap .i64 (1 + y898.1)), 0, 0, 0, y987.2.1, y987.2.2)))) else ((F_spec_l1Chance_M fu 12 y969.2.1 y969.2.2).bind fun y989 => (bif y989.1 then ((F_spec_l1Next_M fu 9 y989.2.1 y989.2.2).bind fun y990 =>
  (some (y897.1, y990.1, (IntKind.wrap .i64 (1 + y898.1)), 0, 0, 6, y990.2.1, y990.2.2))) else (some (y897.1, (-1), (IntKind.wrap .i64 (1 + y898.1)), 0, 0, 6, y989.2.1,
  y989.2.2))))) else (bif (!y970.2.2.2) then ((F_spec_l1Chance_M fu 12 y969.2.1 y969.2.2).bind fun y991 => (bif y991.1 then ((F_spec_l1Next_M fu 9 y991.2.1 y991.2.2).bind fun y992 =>
  (some (y897.1, y992.1, (IntKind.wrap .i64 (1 + y898.1)), 0, (IntKind.wrap .i64 (1 + y969.1)), 0, y992.2.1, y992.2.2))) else (some (y897.1, (-1), (IntKind.wrap .i64 (1 + y898.1)),
  0, (IntKind.wrap .i64 (1 + y969.1)), 0, y991.2.1, y991.2.2)))) else ((F_spec_l1Chance_M fu 12 y969.2.1 y969.2.2).bind fun y993 => (bif y993.1 then ((F_spec_l1Next_M fu 9 y993.2.1 y993.2.2).bind fun y994 =>
  (some (y897.1, y994.1, (IntKind.wrap .i64 (1 + y898.1)), 0, (IntKind.wrap .i64 (1 + y969.1)), 6, y994.2.1, y994.2.2))) else (some (y897.1, (-1), (IntKind.wrap .i64 (1 + y898.1)),
  0, (IntKind.wrap .i64 (1 + y969.1)), 6, y993.2.1, y993.2.2)))))) else (bif (!y970.2.2.1) then (bif (!y970.2.2.2) then ((F_spec_l1Chance_M fu 12 y969.2.1 y969.2.2).bind fun y995 =>
  (bif y995.1 then ((F_spec_l1Next_M fu 9 y995.2.1 y995.2.2).bind fun y996 => (some (y897.1, y996.1, (IntKind.wrap .i64 (1 + y898.1)), (IntKind.wrap .i64 (167772160 + y899.1)), 0,
  0, y996.2.1, y996.2.2))) else (some (y897.1, (-1), (IntKind.wrap .i64 (1 + y898.1)), (IntKind.wrap .i64 (167772160 + y899.1)), 0, 0, y995.2.1, y995.2.2)))) else
  ((F_spec_l1Chance_M fu 12 y969.2.1 y969.2.2).bind fun y997 => (bif y997.1 then ((F_spec_l1Next_M fu 9 y997.2.1 y997.2.2).bind fun y998 => (some (y897.1, y998.1, (IntKind.wrap .i64 (1 + y898.1)),
  (IntKind.wrap .i64 (167772160 + y899.1)), 0, 6, y998.2.1, y998.2.2))) else (some (y897.1, (-1), (IntKind.wrap .i64 (1 + y898.1)), (IntKind.wrap .i64 (167772160 + y899.1)), 0, 6,
  y997.2.1, y997.2.2))))) else (bif (!y970.2.2.2) then ((F_spec_l1Chance_M fu 12 y969.2.1 y969.2.2).bind fun y999 => (bif y999.1 then ((F_spec_l1Next_M fu 9 y999.2.1 y999.2.2).bind fun y1000 =>
  (some (y897.1, y1000.1, (IntKind.wrap .i64 (1 + y898.1)), (IntKind.wrap .i64 (167772160 + y899.1)), (IntKind.wrap .i64 (1 + y969.1)), 0, y1000.2.1, y1000.2.2))) else (some (y897.1,
  (-1), (IntKind.wrap .i64 (1 + y898.1)), (IntKind.wrap .i64 (167772160 + y899.1)), (IntKind.wrap .i64 (1 + y969.1)), 0, y999.2.1, y999.2.2)))) else ((F_spec_l1Chance_M fu 12 y969.2.1 y969.2.2).bind fun y1001 =>
  (bif y1001.1 then ((F_spec_l1Next_M fu 9 y1001.2.1 y1001.2.2).bind fun y1002 => (some (y897.1, y1002.1, (IntKind.wrap .i64 (1 + y898.1)), (IntKind.wrap .i64 (167772160 + y899.1)),
  (IntKind.wrap .i64 (1 + y969.1)), 6, y1002.2.1, y1002.2.2))) else (some (y897.1, (-1), (IntKind.wrap .i64 (1 + y898.1)), (IntKind.wrap .i64 (167772160 + y899.1)), (IntKind.wrap .i64 (1 + y969.1)),
  6, y1001.2.1, y1001.2.2)))))))))) else (bif (y897.1 == 9) then ((F_spec_l1Next_M fu 2 y900.2.1 y900.2.2).bind fun y1003 => ((F_spec_l5Needs fu y897.1).bind fun y1004 => (bif (!y1004.1) then
  (bif (!y1004.2.1) then (bif (!y1004.2.2.1) then (bif (!y1004.2.2.2) then ((F_spec_l1Chance_M fu 12 y1003.2.1 y1003.2.2).bind fun y1005 => (bif y1005.1 then ((F_spec_l1Next_M fu 9 y1005.2.1 y1005.2.2).bind fun y1006 =>
  (some (y897.1, y1006.1, 0, 0, 0, 0, y1006.2.1, y1006.2.2))) else (some (y897.1, (-1), 0, 0, 0, 0, y1005.2.1, y1005.2.2)))) else ((F_spec_l1Chance_M fu 12 y1003.2.1 y1003.2.2).bind fun y1007 =>
  (bif y1007.1 then ((F_spec_l1Next_M fu 9 y1007.2.1 y1007.2.2).bind fun y1008 => (some (y897.1, y1008.1, 0, 0, 0, 6, y1008.2.1, y1008.2.2))) else (some (y897.1, (-1), 0, 0, 0, 6,
  y1007.2.1, y1007.2.2))))) else (bif (!y1004.2.2.2) then ((F_spec_l1Chance_M fu 12 y1003.2.1 y1003.2.2).bind fun y1009 => (bif y1009.1 then ((F_spec_l1Next_M fu 9 y1009.2.1 y1009.2.2).bind fun y1010 =>
  (some (y897.1, y1010.1, 0, 0, y1003.1, 0, y1010.2.1, y1010.2.2))) else (some (y897.1, (-1), 0, 0, y1003.1, 0, y1009.2.1, y1009.2.2)))) else ((F_spec_l1Chance_M fu 12 y1003.2.1 y1003.2.2).bind fun y1011 =>
  (bif y1011.1 then ((F_spec_l1Next_M fu 9 y1011.2.1 y1011.2.2).bind fun y1012 => (some (y897.1, y1012.1, 0, 0, y1003.1, 6, y1012.2.1, y1012.2.2))) else (some (y897.1, (-1), 0, 0,
  y1003.1, 6, y1011.2.1, y1011.2.2)))))) else (bif (!y1004.2.2.1) then (bif (!y1004.2.2.2) then ((F_spec_l1Chance_M fu 12 y1003.2.1 y1003.2.2).bind fun y1013 => (bif y1013.1 then
  ((F_spec_l1Next_M fu 9 y1013.2.1 y1013.2.2).bind fun y1014 => (some (y897.1, y1014.1, 0, (IntKind.wrap .i64 (167772160 + y899.1)), 0, 0, y1014.2.1, y1014.2.2))) else (some (y897.1,
  (-1), 0, (IntKind.wrap .i64 (167772160 + y899.1)), 0, 0, y1013.2.1, y1013.2.2)))) else ((F_spec_l1Chance_M fu 12 y1003.2.1 y1003.2.2).bind fun y1015 => (bif y1015.1 then
  ((F_spec_l1Next_M fu 9 y1015.2.1 y1015.2.2).bind fun y1016 => (some (y897.1, y1016.1, 0, (IntKind.wrap .i64 (167772160 + y899.1)), 0, 6, y1016.2.1, y1016.2.2))) else (some (y897.1,
  (-1), 0, (IntKind.wrap .i64 (167772160 + y899.1)), 0, 6, y1015.2.1, y1015.2.2))))) else (bif (!y1004.2.2.2) then ((F_spec_l1Chance_M fu 12 y1003.2.1 y1003.2.2).bind fun y1017 =>
  (bif y1017.1 then ((F_spec_l1Next_M fu 9 y1017.2.1 y1017.2.2).bind fun y1018 => (some (y897.1, y1018.1, 0, (IntKind.wrap .i64 (167772160 + y899.1)), y1003.1, 0, y1018.2.1,
  y1018.2.2))) else (some (y897.1, (-1), 0, (IntKind.wrap .i64 (167772160 + y899.1)), y1003.1, 0, y1017.2.1, y1017.2.2)))) else ((F_spec_l1Chance_M fu 12 y1003.2.1 y1003.2.2).bind fun y1019 =>
  (bif y1019.1 then ((F_spec_l1Next_M fu 9 y1019.2.1 y1019.2.2).bind fun y1020 => (some (y897.1, y1020.1, 0, (IntKind.wrap .i64 (167772160 + y899.1)), y1003.1, 6, y1020.2.1,
  y1020.2.2))) else (some (y897.1, (-1), 0, (IntKind.wrap .i64 (167772160 + y899.1)), y1003.1, 6, y1019.2.1, y1019.2.2))))))) else (bif (!y1004.2.1) then (bif (!y1004.2.2.1) then
  (bif (!y1004.2.2.2) then ((F_spec_l1Chance_M fu 12 y1003.2.1 y1003.2.2).bind fun y1021 => (bif y1021.1 then ((F_spec_l1Next_M fu 9 y1021.2.1 y1021.2.2).bind fun y1022 => (some (y897.1,
  y1022.1, (IntKind.wrap .i64 (1 + y898.1)), 0, 0, 0, y1022.2.1, y1022.2.2))) else (some (y897.1, (-1), (IntKind.wrap .i64 (1 + y898.1)), 0, 0, 0, y1021.2.1, y1021.2.2)))) else
  ((F_spec_l1Chance_M fu 12 y1003.2.1 y1003.2.2).bind fun y1023 => (bif y1023.1 then ((F_spec_l1Next_M fu 9 y1023.2.1 y1023.2.2).bind fun y1024 => (some (y897.1, y1024.1,
  (IntKind.wrap .i64 (1 + y898.1)), 0, 0, 6, y1024.2.1, y1024.2.2))) else (some (y897.1, (-1), (IntKind.wrap .i64 (1 + y898.1)), 0, 0, 6, y1023.2.1, y1023.2.2))))) else (bif (!y1004.2.2.2) then
  ((F_spec_l1Chance_M fu 12 y1003.2.1 y1003.2.2).bind fun y1025 => (bif y1025.1 then ((F_spec_l1Next_M fu 9 y1025.2.1 y1025.2.2).bind fun y1026 => (some (y897.1, y1026.1,
  (IntKind.wrap .i64 (1 + y898.1)), 0, y1003.1, 0, y1026.2.1, y1026.2.2))) else (some (y897.1, (-1), (IntKind.wrap .i64 (1 + y898.1)), 0, y1003.1, 0, y1025.2.1, y1025.2.2)))) else
  ((F_spec_l1Chance_M fu 12 y1003.2.1 y1003.2.2).bind fun y1027 => (bif y1027.1 then ((F_spec_l1Next_M fu 9 y1027.2.1 y1027.2.2).bind fun y1028 => (some (y897.1, y1028.1,
  (IntKind.wrap .i64 (1 + y898.1)), 0, y1003.1, 6, y1028.2.1, y1028.2.2))) else (some (y897.1, (-1), (IntKind.wrap .i64 (1 + y898.1)), 0, y1003.1, 6, y1027.2.1, y1027.2.2)))))) else
  (bif (!y1004.2.2.1) then (bif (!y1004.2.2.2) then ((F_spec_l1Chance_M fu 12 y1003.2.1 y1003.2.2).bind fun y1029 => (bif y1029.1 then ((F_spec_l1Next_M fu 9 y1029.2.1 y1029.2.2).bind fun y1030 =>
  (some (y897.1, y1030.1, (IntKind.wrap .i64 (1 + y898.1)), (IntKind.wrap .i64 (167772160 + y899.1)), 0, 0, y1030.2.1, y1030.2.2))) else (some (y897.1, (-1), (IntKind.wrap .i64 (1 + y898.1)),
  (IntKind.wrap .i64 (167772160 + y899.1)), 0, 0, y1029.2.1, y1029.2.2)))) else ((F_spec_l1Chance_M fu 12 y1003.2.1 y1003.2.2).bind fun y1031 => (bif y1031.1 then
  ((F_spec_l1Next_M fu 9 y1031.2.1 y1031.2.2).bind fun y1032 => (some (y897.1, y1032.1, (IntKind.wrap .i64 (1 + y898.1)), (IntKind.wrap .i64 (167772160 + y899.1)), 0, 6,
  y1032.2.1, y1032.2.2))) else (some (y897.1, (-1), (IntKind.wrap .i64 (1 + y898.1)), (IntKind.wrap .i64 (167772160 + y899.1)), 0, 6, y1031.2.1, y1031.2.2))))) else (bif (!y1004.2.2.2) then
  ((F_spec_l1Chance_M fu 12 y1003.2.1 y1003.2.2).bind fun y1033 => (bif y1033.1 then ((F_spec_l1Next_M fu 9 y1033.2.1 y1033.2.2).bind fun y1034 => (some (y897.1, y1034.1,
  (IntKind.wrap .i64 (1 + y898.1)), (IntKind.wrap .i64 (167772160 + y899.1)), y1003.1, 0, y1034.2.1, y1034.2.2))) else (some (y897.1, (-1), (IntKind.wrap .i64 (1 + y898.1)),
  (IntKind.wrap .i64 (167772160 + y899.1)), y1003.1, 0, y1033.2.1, y1033.2.2)))) else ((F_spec_l1Chance_M fu 12 y1003.2.1 y1003.2.2).bind fun y1035 => (bif y1035.1 then
  ((F_spec_l1Next_M fu 9 y1035.2.1 y1035.2.2).bind fun y1036 => (some (y897.1, y1036.1, (IntKind.wrap .i64 (1 + y898.1)), (IntKind.wrap .i64 (167772160 + y899.1)), y1003.1, 6,
  y1036.2.1, y1036.2.2))) else (some (y897.1, (-1), (IntKind.wrap .i64 (1 + y898.1)), (IntKind.wrap .i64 (167772160 + y899.1)), y1003.1, 6, y1035.2.1, y1035.2.2)))))))))) else
  ((F_spec_l5Needs fu y897.1).bind fun y1037 => (bif (!y1037.1) then (bif (!y1037.2.1) then (bif (!y1037.2.2.1) then (bif (!y1037.2.2.2) then ((F_spec_l1Chance_M fu 12 y900.2.1 y900.2.2).bind fun y1038 =>
  (bif y1038.1 then ((F_spec_l1Next_M fu 9 y1038.2.1 y1038.2.2).bind fun y1039 => (some (y897.1, y1039.1, 0, 0, 0, 0, y1039.2.1, y1039.2.2))) else (some (y897.1, (-1), 0, 0, 0, 0,
  y1038.2.1, y1038.2.2)))) else ((F_spec_l1Chance_M fu 12 y900.2.1 y900.2.2).bind fun y1040 => (bif y1040.1 then ((F_spec_l1Next_M fu 9 y1040.2.1 y1040.2.2).bind fun y1041 =>
  (some (y897.1, y1041.1, 0, 0, 0, 6, y1041.2.1, y1041.2.2))) else (some (y897.1, (-1), 0, 0, 0, 6, y1040.2.1, y1040.2.2))))) else (bif (!y1037.2.2.2) then ((F_spec_l1Chance_M fu 12 y900.2.1 y900.2.2).bind fun y1042 =>
  (bif y1042.1 then ((F_spec_l1Next_M fu 9 y1042.2.1 y1042.2.2).bind fun y1043 => (some (y897.1, y1043.1, 0, 0, y900.1, 0, y1043.2.1, y1043.2.2))) else (some (y897.1, (-1), 0, 0,
  y900.1, 0, y1042.2.1, y1042.2.2)))) else ((F_spec_l1Chance_M fu 12 y900.2.1 y900.2.2).bind fun y1044 => (bif y1044.1 then ((F_spec_l1Next_M fu 9 y1044.2.1 y1044.2.2).bind fun y1045 =>
  (some (y897.1, y1045.1, 0, 0, y900.1, 6, y1045.2.1, y1045.2.2))) else (some (y897.1, (-1), 0, 0, y900.1, 6, y1044.2.1, y1044.2.2)))))) else (bif (!y1037.2.2.1) then (bif (!y1037.2.2.2) then
  ((F_spec_l1Chance_M fu 12 y900.2.1 y900.2.2).bind fun y1046 => (bif y1046.1 then ((F_spec_l1Next_M fu 9 y1046.2.1 y1046.2.2).bind fun y1047 => (some (y897.1, y1047.1, 0,
  (IntKind.wrap .i64 (167772160 + y899.1)), 0, 0, y1047.2.1, y1047.2.2))) else (some (y897.1, (-1), 0, (IntKind.wrap .i64 (167772160 + y899.1)), 0, 0, y1046.2.1, y1046.2.2)))) else
  ((F_spec_l1Chance_M fu 12 y900.2.1 y900.2.2).bind fun y1048 => (bif y1048.1 then ((F_spec_l1Next_M fu 9 y1048.2.1 y1048.2.2).bind fun y1049 => (some (y897.1, y1049.1, 0,
  (IntKind.wrap .i64 (167772160 + y899.1)), 0, 6, y1049.2.1, y1049.2.2))) else (some (y897.1, (-1), 0, (IntKind.wrap .i64 (167772160 + y899.1)), 0, 6, y1048.2.1, y1048.2.2))))) else
  (bif (!y1037.2.2.2) then ((F_spec_l1Chance_M fu 12 y900.2.1 y900.2.2).bind fun y1050 => (bif y1050.1 then ((F_spec_l1Next_M fu 9 y1050.2.1 y1050.2.2).bind fun y1051 => (some (y897.1,
  y1051.1, 0, (IntKind.wrap .i64 (167772160 + y899.1)), y900.1, 0, y1051.2.1, y1051.2.2))) else (some (y897.1, (-1), 0, (IntKind.wrap .i64 (167772160 + y899.1)), y900.1, 0,
  y1050.2.1, y1050.2.2)))) else ((F_spec_l1Chance_M fu 12 y900.2.1 y900.2.2).bind fun y1052 => (bif y1052.1 then ((F_spec_l1Next_M fu 9 y1052.2.1 y1052.2.2).bind fun y1053 =>
  (some (y897.1, y1053.1, 0, (IntKind.wrap .i64 (167772160 + y899.1)), y900.1, 6, y1053.2.1, y1053.2.2))) else (some (y897.1, (-1), 0, (IntKind.wrap .i64 (167772160 + y899.1)),
  y900.1, 6, y1052.2.1, y1052.2.2))))))) else (bif (!y1037.2.1) then (bif (!y1037.2.2.1) then (bif (!y1037.2.2.2) then ((F_spec_l1Chance_M fu 12 y900.2.1 y900.2.2).bind fun y1054 =>
  (bif y1054.1 then ((F_spec_l1Next_M fu 9 y1054.2.1 y1054.2.2).bind fun y1055 => (some (y897.1, y1055.1, (IntKind.wrap .i64 (1 + y898.1)), 0, 0, 0, y1055.2.1, y1055.2.2))) else
  (some (y897.1, (-1), (IntKind.wrap .i64 (1 + y898.1)), 0, 0, 0, y1054.2.1, y1054.2.2)))) else ((F_spec_l1Chance_M fu 12 y900.2.1 y900.2.2).bind fun y1056 => (bif y1056.1 then
  ((F_spec_l1Next_M fu 9 y1056.2.1 y1056.2.2).bind fun y1057 => (some (y897.1, y1057.1, (IntKind.wrap .i64 (1 + y898.1)), 0, 0, 6, y1057.2.1, y1057.2.2))) else (some (y897.1,
  (-1), (IntKind.wrap .i64 (1 + y898.1)), 0, 0, 6, y1056.2.1, y1056.2.2))))) else (bif (!y1037.2.2.2) then ((F_spec_l1Chance_M fu 12 y900.2.1 y900.2.2).bind fun y1058 => (bif y1058.1 then
  ((F_spec_l1Next_M fu 9 y1058.2.1 y1058.2.2).bind fun y1059 => (some (y897.1, y1059.1, (IntKind.wrap .i64 (1 + y898.1)), 0, y900.1, 0, y1059.2.1, y1059.2.2))) else (some (y897.1,
  (-1), (IntKind.wrap .i64 (1 + y898.1)), 0, y900.1, 0, y1058.2.1, y1058.2.2)))) else ((F_spec_l1Chance_M fu 12 y900.2.1 y900.2.2).bind fun y1060 => (bif y1060.1 then
  ((F_spec_l1Next_M fu 9 y1060.2.1 y1060.2.2).bind fun y1061 => (some (y897.1, y1061.1, (IntKind.wrap .i64 (1 + y898.1)), 0, y900.1, 6, y1061.2.1, y1061.2.2))) else (some (y897.1,
  (-1), (IntKind.wrap .i64 (1 + y898.1)), 0, y900.1, 6, y1060.2.1, y1060.2.2)))))) else (bif (!y1037.2.2.1) then (bif (!y1037.2.2.2) then ((F_spec_l1Chance_M fu 12 y900.2.1 y900.2.2).bind fun y1062 =>
  (bif y1062.1 then ((F_spec_l1Next_M fu 9 y1062.2.1 y1062.2.2).bind fun y1063 => (some (y897.1, y1063.1, (IntKind.wrap .i64 (1 + y898.1)), (IntKind.wrap .i64 (167772160 + y899.1)),
  0, 0, y1063.2.1, y1063.2.2))) else (some (y897.1, (-1), (IntKind.wrap .i64 (1 + y898.1)), (IntKind.wrap .i64 (167772160 + y899.1)), 0, 0, y1062.2.1, y1062.2.2)))) else
  ((F_spec_l1Chance_M fu 12 y900.2.1 y900.2.2).bind fun y1064 => (bif y1064.1 then ((F_spec_l1Next_M fu 9 y1064.2.1 y1064.2.2).bind fun y1065 => (some (y897.1, y1065.1,
  (IntKind.wrap .i64 (1 + y898.1)), (IntKind.wrap .i64 (167772160 + y899.1)), 0, 6, y1065.2.1, y1065.2.2))) else (some (y897.1, (-1), (IntKind.wrap .i64 (1 + y898.1)),
  (IntKind.wrap .i64 (167772160 + y899.1)), 0, 6, y1064.2.1, y1064.2.2))))) else (bif (!y1037.2.2.2) then ((F_spec_l1Chance_M fu 12 y900.2.1 y900.2.2).bind fun y1066 => (bif y1066.1 then
  ((F_spec_l1Next_M fu 9 y1066.2.1 y1066.2.2).bind fun y1067 => (some (y897.1, y1067.1, (IntKind.wrap .i64 (1 + y898.1)), (IntKind.wrap .i64 (167772160 + y899.1)), y900.1, 0,
  y1067.2.1, y1067.2.2))) else (some (y897.1, (-1), (IntKind.wrap .i64 (1 + y898.1)), (IntKind.wrap .i64 (167772160 + y899.1)), y900.1, 0, y1066.2.1, y1066.2.2)))) else
  ((F_spec_l1Chance_M fu 12 y900.2.1 y900.2.2).bind fun y1068 => (bif y1068.1 then ((F_spec_l1Next_M fu 9 y1068.2.1 y1068.2.2).bind fun y1069 => (some (y897.1, y1069.1,
  (IntKind.wrap .i64 (1 + y898.1)), (IntKind.wrap .i64 (167772160 + y899.1)), y900.1, 6, y1069.2.1, y1069.2.2))) else (some (y897.1, (-1), (IntKind.wrap .i64 (1 + y898.1)),
  (IntKind.wrap .i64 (167772160 + y899.1)), y900.1, 6, y1068.2.1, y1068.2.2)))))))))))))))))
def pcf_b22 (fu f : Nat) (xs : List (D RT den)) : Option (Out RT den) := match f with | 95 => S_a33 fu xs | _ => none
def pcx_b22 (fu f : Nat) (xs : List (D RT den)) (ins : List (Ob RT den)) : Option (OutX RT den) := match f with | 56 => S_b21 fu xs ins | 57 => S_b20 fu xs ins | 84 => S_b19 fu xs ins | _ => none
def pcd_b22 : Nat → Bool := fun _ => false
def pc_b22 (fu : Nat) : Pc RT den := ⟨pcf_b22 fu, fun f => match f with | 56 => true | 57 => true | 84 => true | _ => false, fun f => match f with | 56 => true | 57 => true | 84 => true | _ => false, pcd_b22, fun f => match f with | 56 => true | 84 => true | _ => false, pcx_b22 fu⟩
def msk_b22 (b : Nat) : List Nat := []
def lp_b22 (fu : Nat) : Lp RT den (Yg1) := ⟨fun b s k => none, inl0⟩
def pso_b22 : List (Pat RT) := [.agg [(.int .i64), (.int .i64), (.int .i64), (.int .i64), (.int .i64), (.int .i64)]]
def oso_b22 : List (OP RT) := [.box true [(.rs .u8), (.int .i64)]]
def conv_b22 (r : Raw den pso_b22 oso_b22) : Yg1 := (r.1.1.1, r.1.1.2.1, r.1.1.2.2.1, r.1.1.2.2.2.1, r.1.1.2.2.2.2.1, (e5 r.1.1).1, r.2.1.1, r.2.1.2.1)
def enc_b22 (y : Yg1) : D RT den × List (Ob RT den) := ((.agg [(.int .i64 y.1), (.int .i64 y.2.1), (.int .i64 y.2.2.1), (.int .i64 y.2.2.2.1), (.int .i64 y.2.2.2.2.1), (.int .i64 y.2.2.2.2.2.1)]), [(.box true [(.rs y.2.2.2.2.2.2.1.z .u8 y.2.2.2.2.2.2.1.n y.2.2.2.2.2.2.1.f), (.int .i64 y.2.2.2.2.2.2.2)])])
def out_b22 (d : D RT den) (os : List (Ob RT den)) : Option (Yg1) := (unSt pso_b22 oso_b22 ⟨[d], os⟩).bind fun v => some (conv_b22 v.1)
theorem out_b22_enc (d : D RT den) (os : List (Ob RT den)) (y : Yg1) (h : out_b22 d os = some y) : d = (enc_b22 y).1 ∧ os = (enc_b22 y).2 :=
 outM (conv := conv_b22) (enc := enc_b22) (fun raw => by kernel_rfl) h
theorem ev_b22 (fu : Nat) (b0_0 : (Sl Int)) (b0_1 : Int) : evFunM E false (pc_b22 fu) msk_b22 (lp_b22 fu) out_b22 86 [(.ref 0 0)] [(.box true [(.rs b0_0.z .u8 b0_0.n b0_0.f), (ii b0_1)])] = F_spec_l5Cmd_M fu b0_0 b0_1 := by kernel_rfl
noncomputable def body_b22 : Code := Try.f86.body.getD .skip
theorem lpok_b22 (fu : Nat) : LpOk E (pc_b22 fu) 0 msk_b22 (lp_b22 fu) (loops 0 body_b22) := lp_nil (loop_nil (by kernel_rfl)) (by kernel_rfl)
def S_b22 (fu : Nat) (xs : List (D RT den)) (ins : List (Ob RT den)) : Option (OutX RT den) := match xs, ins with | [.ref 0 0], [.box true [.rs za1000_0 .u8 na1000_0 fa1000_0, .int .i64 a1001_0]] => some ⟨Yg1, F_spec_l5Cmd_M fu (⟨za1000_0, na1000_0, fa1000_0⟩ : (Sl Int)) a1001_0, enc_b22⟩ | _, _ => none
theorem hpc_b22 (fu : Nat) : HpcOk E Try.prog (pcf_b22 fu) := by
 intro f xs o h
 unfold pcf_b22 at h
 split at h
 ·exact good_a33 fu xs o h
 ·cases h
theorem hpx_b22 (fu : Nat) : HpxOk E Try.prog pcd_b22 (pcx_b22 fu) := by
 intro f xs ins o h
 unfold pcx_b22 at h
 split at h
 ·exact good_b21 fu xs ins o h
 ·exact good_b20 fu xs ins o h
 ·exact good_b19 fu xs ins o h
 ·cases h
theorem goodv_b22 (fu : Nat) (b0_0 : (Sl Int)) (b0_1 : Int) (y : Yg1) (hy : F_spec_l5Cmd_M fu b0_0 b0_1 = some y) : GoodX E Try.prog 86 [(.ref 0 0)] [(.box true [(.rs b0_0.z .u8 b0_0.n b0_0.f), (ii b0_1)])] (enc_b22 y).1 (enc_b22 y).2 :=
 funM_good (ke := false) E_ok (pc_good (pc := pc_b22 fu) (hpc_b22 fu) (hpx_b22 fu)) (fn := Try.f86) (by kernel_rfl) (by kernel_rfl) (by kernel_rfl) (lpok_b22 fu) (by kernel_rfl) (Nat.le_of_ble_eq_true (by kernel_rfl)) (fun d os hd => out_b22_enc d os _ hd) ((ev_b22 fu b0_0 b0_1).trans hy)
theorem good_b22 (fu : Nat) : GoodSX E Try.prog 86 (S_b22 fu) := by
 intro xs ins o h y hy
 unfold S_b22 at h
 split at h
 ·rename_i za1000_0 na1000_0 fa1000_0 a1001_0
  cases h
  exact goodv_b22 fu (⟨za1000_0, na1000_0, fa1000_0⟩ : (Sl Int)) a1001_0 y hy
 ·cases h
def F_spec_l7Entry_M (fu : Nat) (term_1 : Int) (b0_1 : (Sl Int)) (b0_2 : Int) : Option (Yg3) :=
 ((F_spec_l1Chance_M fu 5 b0_1 b0_2).bind fun y894 => (bif y894.1 then (some (term_1, 0, 0, 0, 0, 0, 0, 0, 0, y894.2.1, y894.2.2)) else ((F_spec_l1Next_M fu 3 y894.2.1 y894.2.2).bind fun y895 =>
  ((F_spec_l1Next_M fu 6 y895.2.1 y895.2.2).bind fun y896 => ((F_spec_l5Cmd_M fu y896.2.1 y896.2.2).bind fun y1070 => (some (term_1, (IntKind.wrap .i64 (1 + y895.1)),
  (IntKind.wrap .i64 (1 + y896.1)), y1070.1, y1070.2.1, y1070.2.2.1, y1070.2.2.2.1, y1070.2.2.2.2.1, y1070.2.2.2.2.2.1, y1070.2.2.2.2.2.2.1, y1070.2.2.2.2.2.2.2)))))))
def pcx_b23 (fu f : Nat) (xs : List (D RT den)) (ins : List (Ob RT den)) : Option (OutX RT den) := match f with | 56 => S_b21 fu xs ins | 84 => S_b19 fu xs ins | 86 => S_b22 fu xs ins | _ => none
def pcd_b23 : Nat → Bool := fun _ => false
def pc_b23 (fu : Nat) : Pc RT den := ⟨pcf0, fun f => match f with | 56 => true | 84 => true | 86 => true | _ => false, fun f => match f with | 56 => true | 84 => true | 86 => true | _ => false, pcd_b23, fun f => match f with | 56 => true | 84 => true | 86 => true | _ => false, pcx_b23 fu⟩
def msk_b23 (b : Nat) : List Nat := []
def lp_b23 (fu : Nat) : Lp RT den (Yg3) := ⟨fun b s k => none, inl0⟩
def pso_b23 : List (Pat RT) := [.agg [(.int .i64), (.int .i64), (.int .i64), (.int .i64), (.int .i64), (.int .i64), (.int .i64), (.int .i64), (.int .i64)]]
def oso_b23 : List (OP RT) := [.box true [(.rs .u8), (.int .i64)]]
def conv_b23 (r : Raw den pso_b23 oso_b23) : Yg3 := (r.1.1.1, r.1.1.2.1, r.1.1.2.2.1, r.1.1.2.2.2.1, r.1.1.2.2.2.2.1, (e5 r.1.1).1, (e5 r.1.1).2.1, (e5 r.1.1).2.2.1, (e5 r.1.1).2.2.2.1, r.2.1.1, r.2.1.2.1)
def enc_b23 (y : Yg3) : D RT den × List (Ob RT den) := ((.agg [(.int .i64 y.1), (.int .i64 y.2.1), (.int .i64 y.2.2.1), (.int .i64 y.2.2.2.1), (.int .i64 y.2.2.2.2.1), (.int .i64 y.2.2.2.2.2.1), (.int .i64 y.2.2.2.2.2.2.1), (.int .i64 y.2.2.2.2.2.2.2.1), (.int .i64 y.2.2.2.2.2.2.2.2.1)]), [(.box true [(.rs y.2.2.2.2.2.2.2.2.2.1.z .u8 y.2.2.2.2.2.2.2.2.2.1.n y.2.2.2.2.2.2.2.2.2.1.f), (.int .i64 y.2.2.2.2.2.2.2.2.2.2)])])
def out_b23 (d : D RT den) (os : List (Ob RT den)) : Option (Yg3) := (unSt pso_b23 oso_b23 ⟨[d], os⟩).bind fun v => some (conv_b23 v.1)
theorem out_b23_enc (d : D RT den) (os : List (Ob RT den)) (y : Yg3) (h : out_b23 d os = some y) : d = (enc_b23 y).1 ∧ os = (enc_b23 y).2 :=
 outM (conv := conv_b23) (enc := enc_b23) (fun raw => by kernel_rfl) h
theorem ev_b23 (fu : Nat) (term_1 : Int) (b0_1 : (Sl Int)) (b0_2 : Int) : evFunM E false (pc_b23 fu) msk_b23 (lp_b23 fu) out_b23 54 [(.ref 0 0), (ii term_1)] [(.box true [(.rs b0_1.z .u8 b0_1.n b0_1.f), (ii b0_2)])] = F_spec_l7Entry_M fu term_1 b0_1 b0_2 := by kernel_rfl
noncomputable def body_b23 : Code := Try.f54.body.getD .skip
theorem lpok_b23 (fu : Nat) : LpOk E (pc_b23 fu) 0 msk_b23 (lp_b23 fu) (loops 0 body_b23) := lp_nil (loop_nil (by kernel_rfl)) (by kernel_rfl)
def S_b23 (fu : Nat) (xs : List (D RT den)) (ins : List (Ob RT den)) : Option (OutX RT den) := match xs, ins with | [.ref 0 0, .int .i64 a1_0], [.box true [.rs za1000_0 .u8 na1000_0 fa1000_0, .int .i64 a1001_0]] => some ⟨Yg3, F_spec_l7Entry_M fu a1_0 (⟨za1000_0, na1000_0, fa1000_0⟩ : (Sl Int)) a1001_0, enc_b23⟩ | _, _ => none
theorem hpx_b23 (fu : Nat) : HpxOk E Try.prog pcd_b23 (pcx_b23 fu) := by
 intro f xs ins o h
 unfold pcx_b23 at h
 split at h
 ·exact good_b21 fu xs ins o h
 ·exact good_b19 fu xs ins o h
 ·exact good_b22 fu xs ins o h
 ·cases h
theorem goodv_b23 (fu : Nat) (term_1 : Int) (b0_1 : (Sl Int)) (b0_2 : Int) (y : Yg3) (hy : F_spec_l7Entry_M fu term_1 b0_1 b0_2 = some y) : GoodX E Try.prog 54 [(.ref 0 0), (ii term_1)] [(.box true [(.rs b0_1.z .u8 b0_1.n b0_1.f), (ii b0_2)])] (enc_b23 y).1 (enc_b23 y).2 :=
 funM_good (ke := false) E_ok (pc_good (pc := pc_b23 fu) hpc0 (hpx_b23 fu)) (fn := Try.f54) (by kernel_rfl) (by kernel_rfl) (by kernel_rfl) (lpok_b23 fu) (by kernel_rfl) (Nat.le_of_ble_eq_true (by kernel_rfl)) (fun d os hd => out_b23_enc d os _ hd) ((ev_b23 fu term_1 b0_1 b0_2).trans hy)
theorem good_b23 (fu : Nat) : GoodSX E Try.prog 54 (S_b23 fu) := by
 intro xs ins o h y hy
 unfold S_b23 at h
 split at h
 ·rename_i a1_0 za1000_0 na1000_0 fa1000_0 a1001_0
  cases h
  exact goodv_b23 fu a1_0 (⟨za1000_0, na1000_0, fa1000_0⟩ : (Sl Int)) a1001_0 y hy
 ·cases h
def F_spec_l7Log_M_B0 {ρ : Type} (fu : Nat) (k0 : Nat → (Sl Int) → Int → Nat → (Nat → S_impl_Entry) → Option ρ) (out3_0 : Nat) (term4_1 k5_2 : Int) (o0_3 : (Sl Int)) (o0_4 : Int) (on1_5 : Nat) (of1_6 : (Nat → S_impl_Entry)) (go : Nat → Int → Int → (Sl Int) → Int → Nat → (Nat → S_impl_Entry) → Option ρ) : Option ρ :=
 (bif (decide (k5_2 > 0)) then ((F_spec_l1Chance_M fu 3 o0_3 o0_4).bind fun y892 => (bif y892.1 then ((F_spec_l1Next_M fu 2 y892.2.1 y892.2.2).bind fun y893 => ((F_spec_l7Entry_M fu (IntKind.wrap .i64 ((IntKind.wrap .i64 (term4_1 + 1)) + y893.1)) y893.2.1 y893.2.2).bind fun y1071 =>
  (bif (decide ((out3_0 + 1) ≤ 9223372036854775807) && decide ((out3_0 + 1) * 72 ≤ 140737488355328)) then (go (out3_0 + 1) (IntKind.wrap .i64 ((IntKind.wrap .i64 (term4_1 + 1)) + y893.1)) (IntKind.wrap .i64 (k5_2 - 1)) y1071.2.2.2.2.2.2.2.2.2.1 y1071.2.2.2.2.2.2.2.2.2.2 (out3_0 + 1) (fun i =>
  if i < out3_0 then (of1_6 i) else ((fun i => ([(⟨y1071.1, y1071.2.1, y1071.2.2.1, (⟨y1071.2.2.2.1, y1071.2.2.2.2.1, y1071.2.2.2.2.2.1, y1071.2.2.2.2.2.2.1,
  y1071.2.2.2.2.2.2.2.1, y1071.2.2.2.2.2.2.2.2.1⟩ : S_impl_Cmd)⟩ : S_impl_Entry)] : List (S_impl_Entry)).getD i (dflt .impl_Entry)) (i - out3_0)))) else none))) else
  ((F_spec_l7Entry_M fu term4_1 y892.2.1 y892.2.2).bind fun y1072 => (bif (decide ((out3_0 + 1) ≤ 9223372036854775807) && decide ((out3_0 + 1) * 72 ≤ 140737488355328)) then (go (out3_0 + 1) term4_1 (IntKind.wrap .i64 (k5_2 - 1)) y1072.2.2.2.2.2.2.2.2.2.1 y1072.2.2.2.2.2.2.2.2.2.2 (out3_0 + 1) (fun i =>
  if i < out3_0 then (of1_6 i) else ((fun i => ([(⟨y1072.1, y1072.2.1, y1072.2.2.1, (⟨y1072.2.2.2.1, y1072.2.2.2.2.1, y1072.2.2.2.2.2.1, y1072.2.2.2.2.2.2.1,
  y1072.2.2.2.2.2.2.2.1, y1072.2.2.2.2.2.2.2.2.1⟩ : S_impl_Cmd)⟩ : S_impl_Entry)] : List (S_impl_Entry)).getD i (dflt .impl_Entry)) (i - out3_0)))) else none)))) else (k0 out3_0 o0_3 o0_4 on1_5 of1_6))
def F_spec_l7Log_M (fu : Nat) (b0_0 : (Sl Int)) (b0_1 : Int) : Option (Yg0) :=
 ((F_spec_l1Next_M fu 7 b0_0 b0_1).bind fun y887 => ((F_spec_l1Next_M fu 7 y887.2.1 y887.2.2).bind fun y888 => ((F_spec_l1Pick_M fu (⟨(some false), 3, (fun i => ([y887.1, y888.1,
  40] : List (Int)).getD i (dflt .i64))⟩ : (Sl Int)) y888.2.1 y888.2.2).bind fun y890 => (L (fun w0 go0 => F_spec_l7Log_M_B0 fu  (fun z1073 z1074 z1075 z1076 z1077 => (some (z1073,
  z1074, z1075, z1073, z1077))) w0.1 w0.2.1 w0.2.2.1 w0.2.2.2.1 w0.2.2.2.2.1 w0.2.2.2.2.2.1 w0.2.2.2.2.2.2 (fun q0 q1 q2 q3 q4 q5 q6 => go0 (q0, q1, q2, q3, q4, q5, q6))) fu ((0,
  1, y890.1, y890.2.1, y890.2.2, 0, (fun _ => dflt .impl_Entry)) : Yg2)))))
def pcx_b24 (fu f : Nat) (xs : List (D RT den)) (ins : List (Ob RT den)) : Option (OutX RT den) := match f with | 54 => S_b23 fu xs ins | 56 => S_b21 fu xs ins | 57 => S_b20 fu xs ins | 84 => S_b19 fu xs ins | _ => none
def pcd_b24 : Nat → Bool := fun _ => false
def pc_b24 (fu : Nat) : Pc RT den := ⟨pcf0, fun f => match f with | 54 => true | 56 => true | 57 => true | 84 => true | _ => false, fun f => match f with | 54 => true | 56 => true | 57 => true | 84 => true | _ => false, pcd_b24, fun f => match f with | 54 => true | 56 => true | 84 => true | _ => false, pcx_b24 fu⟩
def msk_b24 (b : Nat) : List Nat := match b with | 0 => (1 :: 2 :: (rg 6 26 [])) | 100000 => (0 :: 1 :: (rg 4 28 [])) | 300000 => [3] | _ => []
def ps_b24_0 : List (Pat RT) := (.flat (.ref 0 0) :: .flat .q :: .flat .q :: .flat (.os 1) :: .flat (.int .i64) :: .flat (.int .i64) :: (fq 26 []))
def os_b24_0 : List (OP RT) := [.box true [(.rs .u8), (.int .i64)], .row false .impl_Entry]
def conv_b24_0 (r : Raw den ps_b24_0 os_b24_0) : (Unit) × (Yg2) := ((), (r.1.2.2.2.1, r.1.2.2.2.2.1, (e5 r.1).1, r.2.1.1, r.2.1.2.1, r.2.2.1.1, r.2.2.1.2))
def back_b24_0 (c : Unit) (w : Yg2) : St RT den := ⟨((.ref 0 0) :: .q :: .q :: (.os 1 w.1) :: (ii w.2.1) :: (ii w.2.2.1) :: (qs 26 [])), [(.box true [(.rs w.2.2.2.1.z .u8 w.2.2.2.1.n w.2.2.2.1.f), (ii w.2.2.2.2.1)]), (.row false .impl_Entry (e5 w).1 (e5 w).2)]⟩
def Bk_b24_0 {ρ : Type} (fu : Nat) (c : Unit) (k : Ex → St RT den → Option ρ) (w : Yg2) (go : (Yg2) → Option ρ) : Option ρ := F_spec_l7Log_M_B0 fu  (fun a0 a1 a2 a3 a4 => k (.exit 0) ⟨(.q :: .q :: .q :: (.os 1 a0) :: (qs 28 [])), [(.box true [(.rs a1.z .u8 a1.n a1.f), (ii a2)]), (.row false .impl_Entry a3 a4)]⟩) w.1 w.2.1 w.2.2.1 w.2.2.2.1 w.2.2.2.2.1 (e5 w).1 (e5 w).2 (fun q0 q1 q2 q3 q4 q5 q6 => go (q0, q1, q2, q3, q4, q5, q6))
def lp_b24 (fu : Nat) : Lp RT den (Yg0) := ⟨fun b s k => match b with | 0 => handle ps_b24_0 os_b24_0 conv_b24_0 (Bk_b24_0 fu) fu s k | _ => none, inl0⟩
def pso_b24 : List (Pat RT) := [.flat (.os 1)]
def oso_b24 : List (OP RT) := [.box true [(.rs .u8), (.int .i64)], .row false .impl_Entry]
def conv_b24 (r : Raw den pso_b24 oso_b24) : Yg0 := (r.1.1, r.2.1.1, r.2.1.2.1, r.2.2.1.1, r.2.2.1.2)
def enc_b24 (y : Yg0) : D RT den × List (Ob RT den) := ((.os 1 y.1), [(.box true [(.rs y.2.1.z .u8 y.2.1.n y.2.1.f), (.int .i64 y.2.2.1)]), (.row false .impl_Entry y.2.2.2.1 y.2.2.2.2)])
def out_b24 (d : D RT den) (os : List (Ob RT den)) : Option (Yg0) := (unSt pso_b24 oso_b24 ⟨[d], os⟩).bind fun v => some (conv_b24 v.1)
theorem out_b24_enc (d : D RT den) (os : List (Ob RT den)) (y : Yg0) (h : out_b24 d os = some y) : d = (enc_b24 y).1 ∧ os = (enc_b24 y).2 :=
 outM (conv := conv_b24) (enc := enc_b24) (fun raw => by kernel_rfl) h
theorem ev_b24 (fu : Nat) (b0_0 : (Sl Int)) (b0_1 : Int) : evFunM E false (pc_b24 fu) msk_b24 (lp_b24 fu) out_b24 83 [(.ref 0 0)] [(.box true [(.rs b0_0.z .u8 b0_0.n b0_0.f), (ii b0_1)])] = F_spec_l7Log_M fu b0_0 b0_1 := by kernel_rfl
noncomputable def body_b24 : Code := Try.f83.body.getD .skip
noncomputable def lc_b24_0 : Code := ((loops 0 body_b24).getD 0 (0, .skip)).2
theorem round_b24_0 (fu : Nat) : RoundOk E (pc_b24 fu) msk_b24 (lp_b24 fu) 0 lc_b24_0 back_b24_0 0 100000 2 (Bk_b24_0 fu) := fun it k c w => by kernel_rfl
theorem lpok_b24_0 (fu : Nat) : LpAt E (pc_b24 fu) msk_b24 (lp_b24 fu) 0 0 100000 0 lc_b24_0 :=
 handle_ok (ps := ps_b24_0) (os := os_b24_0) (conv := conv_b24_0) (B := Bk_b24_0 fu) (fu := fu) back_b24_0 (fun raw => by kernel_rfl) 2 (fun c w => by kernel_rfl) (round_b24_0 fu)
theorem lpok_b24 (fu : Nat) : LpOk E (pc_b24 fu) 0 msk_b24 (lp_b24 fu) (loops 0 body_b24) := lp_nil (loop_all 1 (by kernel_rfl) fun i hi => match i, hi with
 | 0, _ => by
  have h : (loops 0 body_b24).getD 0 (0, .skip) = (0, lc_b24_0) := by kernel_rfl
  rw [h]; exact lpok_b24_0 fu
 | i + 1, hi => absurd hi (by omega)) (by kernel_rfl)
def S_b24 (fu : Nat) (xs : List (D RT den)) (ins : List (Ob RT den)) : Option (OutX RT den) := match xs, ins with | [.ref 0 0], [.box true [.rs za1000_0 .u8 na1000_0 fa1000_0, .int .i64 a1001_0]] => some ⟨Yg0, F_spec_l7Log_M fu (⟨za1000_0, na1000_0, fa1000_0⟩ : (Sl Int)) a1001_0, enc_b24⟩ | _, _ => none
theorem hpx_b24 (fu : Nat) : HpxOk E Try.prog pcd_b24 (pcx_b24 fu) := by
 intro f xs ins o h
 unfold pcx_b24 at h
 split at h
 ·exact good_b23 fu xs ins o h
 ·exact good_b21 fu xs ins o h
 ·exact good_b20 fu xs ins o h
 ·exact good_b19 fu xs ins o h
 ·cases h
theorem goodv_b24 (fu : Nat) (b0_0 : (Sl Int)) (b0_1 : Int) (y : Yg0) (hy : F_spec_l7Log_M fu b0_0 b0_1 = some y) : GoodX E Try.prog 83 [(.ref 0 0)] [(.box true [(.rs b0_0.z .u8 b0_0.n b0_0.f), (ii b0_1)])] (enc_b24 y).1 (enc_b24 y).2 :=
 funM_good (ke := false) E_ok (pc_good (pc := pc_b24 fu) hpc0 (hpx_b24 fu)) (fn := Try.f83) (by kernel_rfl) (by kernel_rfl) (by kernel_rfl) (lpok_b24 fu) (by kernel_rfl) (Nat.le_of_ble_eq_true (by kernel_rfl)) (fun d os hd => out_b24_enc d os _ hd) ((ev_b24 fu b0_0 b0_1).trans hy)
theorem good_b24 (fu : Nat) : GoodSX E Try.prog 83 (S_b24 fu) := by
 intro xs ins o h y hy
 unfold S_b24 at h
 split at h
 ·rename_i za1000_0 na1000_0 fa1000_0 a1001_0
  cases h
  exact goodv_b24 fu (⟨za1000_0, na1000_0, fa1000_0⟩ : (Sl Int)) a1001_0 y hy
 ·cases h
def F_spec_l5BentCmd_M (fu : Nat) (b0_0 : (Sl Int)) (b0_1 : Int) : Option (Yg1) :=
 ((F_spec_l5Cmd_M fu b0_0 b0_1).bind fun y1121 => ((F_spec_l1Next_M fu 18 y1121.2.2.2.2.2.2.1 y1121.2.2.2.2.2.2.2).bind fun y1122 => (bif (y1122.1 == 0) then ((F_spec_l1Next_M fu 9 y1122.2.1 y1122.2.2).bind fun y1123 =>
  ((F_spec_l1Pick_M fu (⟨(some false), 3, (fun i => ([0, 10, (IntKind.wrap .i64 (1 + y1123.1))] : List (Int)).getD i (dflt .i64))⟩ : (Sl Int)) y1123.2.1 y1123.2.2).bind fun y1124 =>
  (some (y1124.1, y1121.2.1, y1121.2.2.1, y1121.2.2.2.1, y1121.2.2.2.2.1, y1121.2.2.2.2.2.1, y1124.2.1, y1124.2.2)))) else (bif (y1122.1 == 1) then ((F_spec_l1Pick_M fu (⟨(some false),
  4, (fun i => ([(-2), 1000000, 1000001, 3] : List (Int)).getD i (dflt .i64))⟩ : (Sl Int)) y1122.2.1 y1122.2.2).bind fun y1125 => (some (y1121.1, y1125.1, y1121.2.2.1,
  y1121.2.2.2.1, y1121.2.2.2.2.1, y1121.2.2.2.2.2.1, y1125.2.1, y1125.2.2))) else (bif (y1122.1 == 2) then ((F_spec_l1Pick_M fu (⟨(some false), 3, (fun i => ([0, 1000, 7] : List (Int)).getD i (dflt .i64))⟩ : (Sl Int)) y1122.2.1 y1122.2.2).bind fun y1126 =>
  (some (y1121.1, y1121.2.1, y1126.1, y1121.2.2.2.1, y1121.2.2.2.2.1, y1121.2.2.2.2.2.1, y1126.2.1, y1126.2.2))) else (bif (y1122.1 == 3) then ((F_spec_l1Pick_M fu (⟨(some false),
  3, (fun i => ([(-1), 4294967296, 7] : List (Int)).getD i (dflt .i64))⟩ : (Sl Int)) y1122.2.1 y1122.2.2).bind fun y1127 => (some (y1121.1, y1121.2.1, y1121.2.2.1, y1127.1,
  y1121.2.2.2.2.1, y1121.2.2.2.2.2.1, y1127.2.1, y1127.2.2))) else (bif (y1122.1 == 4) then ((F_spec_l1Pick_M fu (⟨(some false), 4, (fun i => ([(-1), 65536, 10, 0] : List (Int)).getD i (dflt .i64))⟩ : (Sl Int)) y1122.2.1 y1122.2.2).bind fun y1128 =>
  (some (y1121.1, y1121.2.1, y1121.2.2.1, y1121.2.2.2.1, y1128.1, y1121.2.2.2.2.2.1, y1128.2.1, y1128.2.2))) else (bif (y1122.1 == 5) then ((F_spec_l1Pick_M fu (⟨(some false), 3,
  (fun i => ([1, 0, 17] : List (Int)).getD i (dflt .i64))⟩ : (Sl Int)) y1122.2.1 y1122.2.2).bind fun y1129 => (some (y1121.1, y1121.2.1, y1121.2.2.1, y1121.2.2.2.1,
  y1121.2.2.2.2.1, y1129.1, y1129.2.1, y1129.2.2))) else (some (y1121.1, y1121.2.1, y1121.2.2.1, y1121.2.2.2.1, y1121.2.2.2.2.1, y1121.2.2.2.2.2.1, y1122.2.1, y1122.2.2))))))))))
def pcx_b25 (fu f : Nat) (xs : List (D RT den)) (ins : List (Ob RT den)) : Option (OutX RT den) := match f with | 57 => S_b20 fu xs ins | 84 => S_b19 fu xs ins | 86 => S_b22 fu xs ins | _ => none
def pcd_b25 : Nat → Bool := fun _ => false
def pc_b25 (fu : Nat) : Pc RT den := ⟨pcf0, fun f => match f with | 57 => true | 84 => true | 86 => true | _ => false, fun f => match f with | 57 => true | 84 => true | 86 => true | _ => false, pcd_b25, fun f => match f with | 84 => true | 86 => true | _ => false, pcx_b25 fu⟩
def msk_b25 (b : Nat) : List Nat := []
def lp_b25 (fu : Nat) : Lp RT den (Yg1) := ⟨fun b s k => none, inl0⟩
def pso_b25 : List (Pat RT) := [.agg [(.int .i64), (.int .i64), (.int .i64), (.int .i64), (.int .i64), (.int .i64)]]
def oso_b25 : List (OP RT) := [.box true [(.rs .u8), (.int .i64)]]
def conv_b25 (r : Raw den pso_b25 oso_b25) : Yg1 := (r.1.1.1, r.1.1.2.1, r.1.1.2.2.1, r.1.1.2.2.2.1, r.1.1.2.2.2.2.1, (e5 r.1.1).1, r.2.1.1, r.2.1.2.1)
def enc_b25 (y : Yg1) : D RT den × List (Ob RT den) := ((.agg [(.int .i64 y.1), (.int .i64 y.2.1), (.int .i64 y.2.2.1), (.int .i64 y.2.2.2.1), (.int .i64 y.2.2.2.2.1), (.int .i64 y.2.2.2.2.2.1)]), [(.box true [(.rs y.2.2.2.2.2.2.1.z .u8 y.2.2.2.2.2.2.1.n y.2.2.2.2.2.2.1.f), (.int .i64 y.2.2.2.2.2.2.2)])])
def out_b25 (d : D RT den) (os : List (Ob RT den)) : Option (Yg1) := (unSt pso_b25 oso_b25 ⟨[d], os⟩).bind fun v => some (conv_b25 v.1)
theorem out_b25_enc (d : D RT den) (os : List (Ob RT den)) (y : Yg1) (h : out_b25 d os = some y) : d = (enc_b25 y).1 ∧ os = (enc_b25 y).2 :=
 outM (conv := conv_b25) (enc := enc_b25) (fun raw => by kernel_rfl) h
theorem ev_b25 (fu : Nat) (b0_0 : (Sl Int)) (b0_1 : Int) : evFunM E false (pc_b25 fu) msk_b25 (lp_b25 fu) out_b25 94 [(.ref 0 0)] [(.box true [(.rs b0_0.z .u8 b0_0.n b0_0.f), (ii b0_1)])] = F_spec_l5BentCmd_M fu b0_0 b0_1 := by kernel_rfl
noncomputable def body_b25 : Code := Try.f94.body.getD .skip
theorem lpok_b25 (fu : Nat) : LpOk E (pc_b25 fu) 0 msk_b25 (lp_b25 fu) (loops 0 body_b25) := lp_nil (loop_nil (by kernel_rfl)) (by kernel_rfl)
def S_b25 (fu : Nat) (xs : List (D RT den)) (ins : List (Ob RT den)) : Option (OutX RT den) := match xs, ins with | [.ref 0 0], [.box true [.rs za1000_0 .u8 na1000_0 fa1000_0, .int .i64 a1001_0]] => some ⟨Yg1, F_spec_l5BentCmd_M fu (⟨za1000_0, na1000_0, fa1000_0⟩ : (Sl Int)) a1001_0, enc_b25⟩ | _, _ => none
theorem hpx_b25 (fu : Nat) : HpxOk E Try.prog pcd_b25 (pcx_b25 fu) := by
 intro f xs ins o h
 unfold pcx_b25 at h
 split at h
 ·exact good_b20 fu xs ins o h
 ·exact good_b19 fu xs ins o h
 ·exact good_b22 fu xs ins o h
 ·cases h
theorem goodv_b25 (fu : Nat) (b0_0 : (Sl Int)) (b0_1 : Int) (y : Yg1) (hy : F_spec_l5BentCmd_M fu b0_0 b0_1 = some y) : GoodX E Try.prog 94 [(.ref 0 0)] [(.box true [(.rs b0_0.z .u8 b0_0.n b0_0.f), (ii b0_1)])] (enc_b25 y).1 (enc_b25 y).2 :=
 funM_good (ke := false) E_ok (pc_good (pc := pc_b25 fu) hpc0 (hpx_b25 fu)) (fn := Try.f94) (by kernel_rfl) (by kernel_rfl) (by kernel_rfl) (lpok_b25 fu) (by kernel_rfl) (Nat.le_of_ble_eq_true (by kernel_rfl)) (fun d os hd => out_b25_enc d os _ hd) ((ev_b25 fu b0_0 b0_1).trans hy)
theorem good_b25 (fu : Nat) : GoodSX E Try.prog 94 (S_b25 fu) := by
 intro xs ins o h y hy
 unfold S_b25 at h
 split at h
 ·rename_i za1000_0 na1000_0 fa1000_0 a1001_0
  cases h
  exact goodv_b25 fu (⟨za1000_0, na1000_0, fa1000_0⟩ : (Sl Int)) a1001_0 y hy
 ·cases h
def F_spec_l7Bent_M (fu : Nat) (b0_0 : (Sl Int)) (b0_1 : Int) : Option (Yg0) :=
 ((F_spec_l7Log_M fu b0_0 b0_1).bind fun y1108 => (bif (((y1108.1 : Nat) : Int) == 0) then (some (y1108.1, y1108.2.1, y1108.2.2.1, y1108.1, y1108.2.2.2.2)) else ((F_spec_l1Next_M fu ((y1108.1 : Nat) : Int) y1108.2.1 y1108.2.2.1).bind fun y1109 =>
  ((F_spec_l1Next_M fu 16 y1109.2.1 y1109.2.2).bind fun y1110 => (bif (y1110.1 == 0) then ((F_spec_l1Pick_M fu (⟨(some false), 4, (fun i => ([0, 1, 100000, 100001] : List (Int)).getD i (dflt .i64))⟩ : (Sl Int)) y1110.2.1 y1110.2.2).bind fun y1111 =>
  ((bif (decide (0 ≤ y1109.1) && decide ((Int.toNat y1109.1) < y1108.1)) then some () else none : Option Unit).bind fun _ => (some (y1108.1, y1111.2.1, y1111.2.2, y1108.1,
  (upd_impl_Entry_0_1 y1108.2.2.2.2 (Int.toNat y1109.1) y1111.1))))) else (bif (y1110.1 == 1) then ((F_spec_l5BentCmd_M fu y1110.2.1 y1110.2.2).bind fun y1130 => ((bif (decide (0 ≤ y1109.1) &&
  decide ((Int.toNat y1109.1) < y1108.1)) then some () else none : Option Unit).bind fun _ => (some (y1108.1, y1130.2.2.2.2.2.2.1, y1130.2.2.2.2.2.2.2, y1108.1,
  (upd_impl_Entry_3_6 y1108.2.2.2.2 (Int.toNat y1109.1) y1130.1 y1130.2.1 y1130.2.2.1 y1130.2.2.2.1 y1130.2.2.2.2.1 y1130.2.2.2.2.2.1))))) else (bif (y1110.1 == 2) then
  ((F_spec_l1Pick_M fu (⟨(some false), 3, (fun i => ([0, 1, 1000] : List (Int)).getD i (dflt .i64))⟩ : (Sl Int)) y1110.2.1 y1110.2.2).bind fun y1131 => ((bif (decide (0 ≤ y1109.1) &&
  decide ((Int.toNat y1109.1) < y1108.1)) then some () else none : Option Unit).bind fun _ => (some (y1108.1, y1131.2.1, y1131.2.2, y1108.1, (upd_impl_Entry_1_1 y1108.2.2.2.2 (Int.toNat y1109.1) y1131.1))))) else
  (bif (y1110.1 == 3) then (some (41, y1110.2.1, y1110.2.2, 41, (fun _ => (⟨0, 0, 0, (⟨0, 0, 0, 0, 0, 0⟩ : S_impl_Cmd)⟩ : S_impl_Entry)))) else (some (y1108.1, y1110.2.1,
  y1110.2.2, y1108.1, y1108.2.2.2.2))))))))))
def pcx_b26 (fu f : Nat) (xs : List (D RT den)) (ins : List (Ob RT den)) : Option (OutX RT den) := match f with | 57 => S_b20 fu xs ins | 83 => S_b24 fu xs ins | 84 => S_b19 fu xs ins | 94 => S_b25 fu xs ins | _ => none
def pcd_b26 : Nat → Bool := fun _ => false
def pc_b26 (fu : Nat) : Pc RT den := ⟨pcf0, fun f => match f with | 57 => true | 83 => true | 84 => true | 94 => true | _ => false, fun f => match f with | 57 => true | 83 => true | 84 => true | 94 => true | _ => false, pcd_b26, fun f => match f with | 83 => true | 84 => true | 94 => true | _ => false, pcx_b26 fu⟩
def msk_b26 (b : Nat) : List Nat := []
def lp_b26 (fu : Nat) : Lp RT den (Yg0) := ⟨fun b s k => none, inl0⟩
def pso_b26 : List (Pat RT) := [.flat (.os 1)]
def oso_b26 : List (OP RT) := [.box true [(.rs .u8), (.int .i64)], .row false .impl_Entry]
def conv_b26 (r : Raw den pso_b26 oso_b26) : Yg0 := (r.1.1, r.2.1.1, r.2.1.2.1, r.2.2.1.1, r.2.2.1.2)
def enc_b26 (y : Yg0) : D RT den × List (Ob RT den) := ((.os 1 y.1), [(.box true [(.rs y.2.1.z .u8 y.2.1.n y.2.1.f), (.int .i64 y.2.2.1)]), (.row false .impl_Entry y.2.2.2.1 y.2.2.2.2)])
def out_b26 (d : D RT den) (os : List (Ob RT den)) : Option (Yg0) := (unSt pso_b26 oso_b26 ⟨[d], os⟩).bind fun v => some (conv_b26 v.1)
theorem out_b26_enc (d : D RT den) (os : List (Ob RT den)) (y : Yg0) (h : out_b26 d os = some y) : d = (enc_b26 y).1 ∧ os = (enc_b26 y).2 :=
 outM (conv := conv_b26) (enc := enc_b26) (fun raw => by kernel_rfl) h
theorem ev_b26 (fu : Nat) (b0_0 : (Sl Int)) (b0_1 : Int) : evFunM E false (pc_b26 fu) msk_b26 (lp_b26 fu) out_b26 85 [(.ref 0 0)] [(.box true [(.rs b0_0.z .u8 b0_0.n b0_0.f), (ii b0_1)])] = F_spec_l7Bent_M fu b0_0 b0_1 := by kernel_rfl
noncomputable def body_b26 : Code := Try.f85.body.getD .skip
theorem lpok_b26 (fu : Nat) : LpOk E (pc_b26 fu) 0 msk_b26 (lp_b26 fu) (loops 0 body_b26) := lp_nil (loop_nil (by kernel_rfl)) (by kernel_rfl)
def S_b26 (fu : Nat) (xs : List (D RT den)) (ins : List (Ob RT den)) : Option (OutX RT den) := match xs, ins with | [.ref 0 0], [.box true [.rs za1000_0 .u8 na1000_0 fa1000_0, .int .i64 a1001_0]] => some ⟨Yg0, F_spec_l7Bent_M fu (⟨za1000_0, na1000_0, fa1000_0⟩ : (Sl Int)) a1001_0, enc_b26⟩ | _, _ => none
theorem hpx_b26 (fu : Nat) : HpxOk E Try.prog pcd_b26 (pcx_b26 fu) := by
 intro f xs ins o h
 unfold pcx_b26 at h
 split at h
 ·exact good_b20 fu xs ins o h
 ·exact good_b24 fu xs ins o h
 ·exact good_b19 fu xs ins o h
 ·exact good_b25 fu xs ins o h
 ·cases h
theorem goodv_b26 (fu : Nat) (b0_0 : (Sl Int)) (b0_1 : Int) (y : Yg0) (hy : F_spec_l7Bent_M fu b0_0 b0_1 = some y) : GoodX E Try.prog 85 [(.ref 0 0)] [(.box true [(.rs b0_0.z .u8 b0_0.n b0_0.f), (ii b0_1)])] (enc_b26 y).1 (enc_b26 y).2 :=
 funM_good (ke := false) E_ok (pc_good (pc := pc_b26 fu) hpc0 (hpx_b26 fu)) (fn := Try.f85) (by kernel_rfl) (by kernel_rfl) (by kernel_rfl) (lpok_b26 fu) (by kernel_rfl) (Nat.le_of_ble_eq_true (by kernel_rfl)) (fun d os hd => out_b26_enc d os _ hd) ((ev_b26 fu b0_0 b0_1).trans hy)
theorem good_b26 (fu : Nat) : GoodSX E Try.prog 85 (S_b26 fu) := by
 intro xs ins o h y hy
 unfold S_b26 at h
 split at h
 ·rename_i za1000_0 na1000_0 fa1000_0 a1001_0
  cases h
  exact goodv_b26 fu (⟨za1000_0, na1000_0, fa1000_0⟩ : (Sl Int)) a1001_0 y hy
 ·cases h
end Go.Proofs.Ytjdgfkmiaikegaa.Pe
