/- The functions' evaluated forms, each a proved summary. Conditions: none. -/
import Derived.Test.YtokpamekcpbkaaaPcT
namespace Go.Proofs.Ytokpamekcpbkaaa.Pc
open Go Go.RowKit Go.Proofs Vm
set_option linter.unusedVariables false
set_option linter.unusedSimpArgs false
set_option maxRecDepth 100000
/-! laws.lwBig -/
def F_laws_lwBig (fu : Nat) (code_0 : (Sl Int)) : Option (Bool) :=
  (some (decide (((code_0.n : Nat) : Int) > 1048576)))
def pcf_laws_lwBig (fu : Nat) (f : Nat) (xs : List (D RT den)) : Option (Out RT den) := none
def pcx_laws_lwBig (fu : Nat) (f : Nat) (xs : List (D RT den)) (ins : List (Ob RT den)) : Option (OutX RT den) := none
def pc_laws_lwBig (fu : Nat) : Pc RT den := ⟨pcf_laws_lwBig fu, fun _ => false, fun _ => false, pcx_laws_lwBig fu⟩
def msk_laws_lwBig (b : Nat) : List Nat := []
def lp_laws_lwBig (fu : Nat) : Lp RT den (Bool) := fun b s k => none
theorem ev_laws_lwBig (fu : Nat) (code_0 : (Sl Int)) : evFun E (pc_laws_lwBig fu) msk_laws_lwBig (lp_laws_lwBig fu) out_bo 5 [(.rs code_0.z .u8 code_0.n code_0.f)] = F_laws_lwBig fu code_0 := by kernel_rfl
noncomputable def body_laws_lwBig : Code := Try.f5.body.getD .skip
theorem lpok_laws_lwBig (fu : Nat) : LpOk E (pc_laws_lwBig fu) msk_laws_lwBig (lp_laws_lwBig fu) (loops 0 body_laws_lwBig) := by
  have h : loops 0 body_laws_lwBig = [] := by kernel_rfl
  rw [h]; intro p hp; cases hp
def S_laws_lwBig (fu : Nat) (xs : List (D RT den)) : Option (Out RT den) := match xs with | [.rs za0_0 .u8 na0_0 fa0_0] => some ⟨Bool, F_laws_lwBig fu (⟨za0_0, na0_0, fa0_0⟩ : (Sl Int)), enc_bo, fun _ => true⟩ | _ => none
theorem hpc_laws_lwBig (fu : Nat) : ∀ f xs o, pcf_laws_lwBig fu f xs = some o → ∀ y, o.x = some y → Good E Try.prog f xs (o.g y) := by
  intro f xs o h
  cases h
theorem hpx_laws_lwBig (fu : Nat) : ∀ f xs ins o, pcx_laws_lwBig fu f xs ins = some o → ∀ y, o.x = some y → GoodX E Try.prog f xs ins (o.g y).1 (o.g y).2 := by
  intro f xs ins o h
  cases h
theorem goodv_laws_lwBig (fu : Nat) (code_0 : (Sl Int)) (y : Bool) (hy : F_laws_lwBig fu code_0 = some y) : Good E Try.prog 5 [(.rs code_0.z .u8 code_0.n code_0.f)] (enc_bo y) :=
  fun_good E_ok (pc_good (pc := pc_laws_lwBig fu) (hpc_laws_lwBig fu) (hpx_laws_lwBig fu)) (fn := Try.f5) (c := body_laws_lwBig) (out := out_bo) (y := y) (by kernel_rfl) (by kernel_rfl) (by kernel_rfl) (lpok_laws_lwBig fu) (fun d hd => out_bo_enc d _ hd) ((ev_laws_lwBig fu code_0).trans hy)
theorem good_laws_lwBig (fu : Nat) : ∀ xs o, S_laws_lwBig fu xs = some o → ∀ y, o.x = some y → Good E Try.prog 5 xs (o.g y) := by
  intro xs o h y hy
  unfold S_laws_lwBig at h
  split at h
  · rename_i za0_0 na0_0 fa0_0
    cases h
    exact goodv_laws_lwBig fu (⟨za0_0, na0_0, fa0_0⟩ : (Sl Int)) y hy
  · cases h

/-! spec.l1Source -/
def F_spec_l1Source_M (fu : Nat) (code_0 : (Sl Int)) : Option ((Sl Int) × Int) :=
  (some (code_0, 0))
def pcf_spec_l1Source_M (fu : Nat) (f : Nat) (xs : List (D RT den)) : Option (Out RT den) := none
def pcx_spec_l1Source_M (fu : Nat) (f : Nat) (xs : List (D RT den)) (ins : List (Ob RT den)) : Option (OutX RT den) := none
def pc_spec_l1Source_M (fu : Nat) : Pc RT den := ⟨pcf_spec_l1Source_M fu, fun _ => false, fun _ => false, pcx_spec_l1Source_M fu⟩
def msk_spec_l1Source_M (b : Nat) : List Nat := []
def lp_spec_l1Source_M (fu : Nat) : Lp RT den ((Sl Int) × Int) := fun b s k => none
def pso_spec_l1Source_M : List (Pat RT) := [.flat (.ref 0 0)]
def oso_spec_l1Source_M : List (OP RT) := [.box false [(.rs .u8), (.int .i64)]]
def conv_spec_l1Source_M (r : Raw den pso_spec_l1Source_M oso_spec_l1Source_M) : (Sl Int) × Int := (r.2.1.1, r.2.1.2.1)
def enc_spec_l1Source_M (y : (Sl Int) × Int) : D RT den × List (Ob RT den) := ((.ref 0 0), [(.box false [(.rs y.1.z .u8 y.1.n y.1.f), (.int .i64 y.2)])])
def out_spec_l1Source_M (d : D RT den) (os : List (Ob RT den)) : Option ((Sl Int) × Int) := (unSt pso_spec_l1Source_M oso_spec_l1Source_M ⟨[d], os⟩).bind fun v => some (conv_spec_l1Source_M v.1)
theorem out_spec_l1Source_M_enc (d : D RT den) (os : List (Ob RT den)) (y : (Sl Int) × Int) (h : out_spec_l1Source_M d os = some y) : d = (enc_spec_l1Source_M y).1 ∧ os = (enc_spec_l1Source_M y).2 :=
  outM (conv := conv_spec_l1Source_M) (enc := enc_spec_l1Source_M) (fun raw => by kernel_rfl) h
theorem ev_spec_l1Source_M (fu : Nat) (code_0 : (Sl Int)) : evFunM E false (pc_spec_l1Source_M fu) msk_spec_l1Source_M (lp_spec_l1Source_M fu) out_spec_l1Source_M 20 [(.rs code_0.z .u8 code_0.n code_0.f)] [] = F_spec_l1Source_M fu code_0 := by kernel_rfl
noncomputable def body_spec_l1Source_M : Code := Try.f20.body.getD .skip
theorem lpok_spec_l1Source_M (fu : Nat) : LpOk E (pc_spec_l1Source_M fu) msk_spec_l1Source_M (lp_spec_l1Source_M fu) (loops 0 body_spec_l1Source_M) := by
  have h : loops 0 body_spec_l1Source_M = [] := by kernel_rfl
  rw [h]; intro p hp; cases hp
def S_spec_l1Source_M (fu : Nat) (xs : List (D RT den)) (ins : List (Ob RT den)) : Option (OutX RT den) := match xs, ins with | [.rs za0_0 .u8 na0_0 fa0_0], [] => some ⟨(Sl Int) × Int, F_spec_l1Source_M fu (⟨za0_0, na0_0, fa0_0⟩ : (Sl Int)), enc_spec_l1Source_M⟩ | _, _ => none
theorem hpc_spec_l1Source_M (fu : Nat) : ∀ f xs o, pcf_spec_l1Source_M fu f xs = some o → ∀ y, o.x = some y → Good E Try.prog f xs (o.g y) := by
  intro f xs o h
  cases h
theorem hpx_spec_l1Source_M (fu : Nat) : ∀ f xs ins o, pcx_spec_l1Source_M fu f xs ins = some o → ∀ y, o.x = some y → GoodX E Try.prog f xs ins (o.g y).1 (o.g y).2 := by
  intro f xs ins o h
  cases h
theorem goodv_spec_l1Source_M (fu : Nat) (code_0 : (Sl Int)) (y : (Sl Int) × Int) (hy : F_spec_l1Source_M fu code_0 = some y) : GoodX E Try.prog 20 [(.rs code_0.z .u8 code_0.n code_0.f)] [] (enc_spec_l1Source_M y).1 (enc_spec_l1Source_M y).2 :=
  funM_good (ke := false) E_ok (pc_good (pc := pc_spec_l1Source_M fu) (hpc_spec_l1Source_M fu) (hpx_spec_l1Source_M fu)) (fn := Try.f20) (c := body_spec_l1Source_M) (out := out_spec_l1Source_M) (y := y) (by kernel_rfl) (by kernel_rfl) (by kernel_rfl) (lpok_spec_l1Source_M fu) (by kernel_rfl) (Nat.le_of_ble_eq_true (by kernel_rfl)) (fun d os hd => out_spec_l1Source_M_enc d os _ hd) ((ev_spec_l1Source_M fu code_0).trans hy)
theorem good_spec_l1Source_M (fu : Nat) : ∀ xs ins o, S_spec_l1Source_M fu xs ins = some o → ∀ y, o.x = some y → GoodX E Try.prog 20 xs ins (o.g y).1 (o.g y).2 := by
  intro xs ins o h y hy
  unfold S_spec_l1Source_M at h
  split at h
  · rename_i za0_0 na0_0 fa0_0
    cases h
    exact goodv_spec_l1Source_M fu (⟨za0_0, na0_0, fa0_0⟩ : (Sl Int)) y hy
  · cases h

/-! spec.l12Bound -/
def F_spec_l12Bound (fu : Nat) (h_0 : S_impl_Health) : Option (Int) :=
  (bif h_0.Up then (some 3) else (some 2))
def pcf_spec_l12Bound (fu : Nat) (f : Nat) (xs : List (D RT den)) : Option (Out RT den) := none
def pcx_spec_l12Bound (fu : Nat) (f : Nat) (xs : List (D RT den)) (ins : List (Ob RT den)) : Option (OutX RT den) := none
def pc_spec_l12Bound (fu : Nat) : Pc RT den := ⟨pcf_spec_l12Bound fu, fun _ => false, fun _ => false, pcx_spec_l12Bound fu⟩
def msk_spec_l12Bound (b : Nat) : List Nat := []
def lp_spec_l12Bound (fu : Nat) : Lp RT den (Int) := fun b s k => none
theorem ev_spec_l12Bound (fu : Nat) (h_0 : S_impl_Health) : evFun E (pc_spec_l12Bound fu) msk_spec_l12Bound (lp_spec_l12Bound fu) out_i64 43 [(.agg [(.int .i64 h_0.Name), (.bool h_0.Up), (.int .i64 h_0.Run)])] = F_spec_l12Bound fu h_0 := by kernel_rfl
noncomputable def body_spec_l12Bound : Code := Try.f43.body.getD .skip
theorem lpok_spec_l12Bound (fu : Nat) : LpOk E (pc_spec_l12Bound fu) msk_spec_l12Bound (lp_spec_l12Bound fu) (loops 0 body_spec_l12Bound) := by
  have h : loops 0 body_spec_l12Bound = [] := by kernel_rfl
  rw [h]; intro p hp; cases hp
def S_spec_l12Bound (fu : Nat) (xs : List (D RT den)) : Option (Out RT den) := match xs with | [.agg [.int .i64 a0_1, .bool a0_2, .int .i64 a0_3]] => some ⟨Int, F_spec_l12Bound fu (⟨a0_1, a0_2, a0_3⟩ : S_impl_Health), enc_i64, fun _ => true⟩ | _ => none
theorem hpc_spec_l12Bound (fu : Nat) : ∀ f xs o, pcf_spec_l12Bound fu f xs = some o → ∀ y, o.x = some y → Good E Try.prog f xs (o.g y) := by
  intro f xs o h
  cases h
theorem hpx_spec_l12Bound (fu : Nat) : ∀ f xs ins o, pcx_spec_l12Bound fu f xs ins = some o → ∀ y, o.x = some y → GoodX E Try.prog f xs ins (o.g y).1 (o.g y).2 := by
  intro f xs ins o h
  cases h
theorem goodv_spec_l12Bound (fu : Nat) (h_0 : S_impl_Health) (y : Int) (hy : F_spec_l12Bound fu h_0 = some y) : Good E Try.prog 43 [(.agg [(.int .i64 h_0.Name), (.bool h_0.Up), (.int .i64 h_0.Run)])] (enc_i64 y) :=
  fun_good E_ok (pc_good (pc := pc_spec_l12Bound fu) (hpc_spec_l12Bound fu) (hpx_spec_l12Bound fu)) (fn := Try.f43) (c := body_spec_l12Bound) (out := out_i64) (y := y) (by kernel_rfl) (by kernel_rfl) (by kernel_rfl) (lpok_spec_l12Bound fu) (fun d hd => out_i64_enc d _ hd) ((ev_spec_l12Bound fu h_0).trans hy)
theorem good_spec_l12Bound (fu : Nat) : ∀ xs o, S_spec_l12Bound fu xs = some o → ∀ y, o.x = some y → Good E Try.prog 43 xs (o.g y) := by
  intro xs o h y hy
  unfold S_spec_l12Bound at h
  split at h
  · rename_i a0_1 a0_2 a0_3
    cases h
    exact goodv_spec_l12Bound fu (⟨a0_1, a0_2, a0_3⟩ : S_impl_Health) y hy
  · cases h

/-! spec.l1Next -/
def F_spec_l1Next_M (fu : Nat) (n_1 : Int) (b0_1 : (Sl Int)) (b0_2 : Int) : Option (Int × (Sl Int) × Int) :=
  (bif (decide (n_1 < 1)) then (some (0, b0_1, (IntKind.wrap .i64 (b0_2 + 1)))) else (bif (((b0_1.n : Nat) : Int) == 0) then ((bif (!decide (n_1 = 0)) then some () else none : Option Unit).bind fun _ =>
    (some ((Int.tmod (IntKind.wrap .i64 ((IntKind.wrap .i64 ((IntKind.wrap .i64 (b0_2 + 1)) - 1)) * 7)) n_1), b0_1, (IntKind.wrap .i64 (b0_2 + 1))))) else ((bif (!decide (((b0_1.n : Nat) : Int) = 0)) then
    some () else none : Option Unit).bind fun _ => ((bif (decide (0 ≤ (Int.tmod (IntKind.wrap .i64 ((IntKind.wrap .i64 (b0_2 + 1)) - 1)) ((b0_1.n : Nat) : Int))) && decide ((Int.toNat (Int.tmod (IntKind.wrap .i64 ((IntKind.wrap .i64 (b0_2 + 1)) - 1)) ((b0_1.n : Nat) : Int))) < b0_1.n)) then
    some () else none : Option Unit).bind fun _ => ((bif (!decide (((b0_1.n : Nat) : Int) = 0)) then some () else none : Option Unit).bind fun _ => (bif (decide (n_1 > 200)) then
    ((bif (!decide (((b0_1.n : Nat) : Int) = 0)) then some () else none : Option Unit).bind fun _ => ((bif (decide (0 ≤ (Int.tmod (IntKind.wrap .i64 ((IntKind.wrap .i64 ((IntKind.wrap .i64 (b0_2 + 1)) - 1)) + 1)) ((b0_1.n : Nat) : Int))) &&
    decide ((Int.toNat (Int.tmod (IntKind.wrap .i64 ((IntKind.wrap .i64 ((IntKind.wrap .i64 (b0_2 + 1)) - 1)) + 1)) ((b0_1.n : Nat) : Int))) < b0_1.n)) then some () else none : Option Unit).bind fun _ =>
    ((bif (!decide (n_1 = 0)) then some () else none : Option Unit).bind fun _ => (some ((Int.tmod (IntKind.wrap .i64 ((IntKind.wrap .i64 ((IntKind.wrap .i64 ((IntKind.wrap .i64 ((IntKind.wrap .i64 (b0_1.f (Int.toNat (Int.tmod (IntKind.wrap .i64 ((IntKind.wrap .i64 (b0_2 + 1)) - 1)) ((b0_1.n : Nat) : Int))))) + (IntKind.wrap .i64 ((IntKind.wrap .i64 (Int.tdiv (IntKind.wrap .i64 ((IntKind.wrap .i64 (b0_2 + 1)) - 1)) ((b0_1.n : Nat) : Int))) * 37)))) * 251)) + (IntKind.wrap .i64 ((IntKind.wrap .i64 (b0_1.f (Int.toNat (Int.tmod (IntKind.wrap .i64 ((IntKind.wrap .i64 ((IntKind.wrap .i64 (b0_2 + 1)) - 1)) + 1)) ((b0_1.n : Nat) : Int))))) * 13)))) + (IntKind.wrap .i64 ((IntKind.wrap .i64 (b0_2 + 1)) - 1)))) n_1),
    b0_1, (IntKind.wrap .i64 (b0_2 + 1))))))) else ((bif (!decide (n_1 = 0)) then some () else none : Option Unit).bind fun _ => (some ((Int.tmod (IntKind.wrap .i64 ((IntKind.wrap .i64 (b0_1.f (Int.toNat (Int.tmod (IntKind.wrap .i64 ((IntKind.wrap .i64 (b0_2 + 1)) - 1)) ((b0_1.n : Nat) : Int))))) + (IntKind.wrap .i64 ((IntKind.wrap .i64 (Int.tdiv (IntKind.wrap .i64 ((IntKind.wrap .i64 (b0_2 + 1)) - 1)) ((b0_1.n : Nat) : Int))) * 37)))) n_1),
    b0_1, (IntKind.wrap .i64 (b0_2 + 1)))))))))))
def pcf_spec_l1Next_M (fu : Nat) (f : Nat) (xs : List (D RT den)) : Option (Out RT den) := none
def pcx_spec_l1Next_M (fu : Nat) (f : Nat) (xs : List (D RT den)) (ins : List (Ob RT den)) : Option (OutX RT den) := none
def pc_spec_l1Next_M (fu : Nat) : Pc RT den := ⟨pcf_spec_l1Next_M fu, fun _ => false, fun _ => false, pcx_spec_l1Next_M fu⟩
def msk_spec_l1Next_M (b : Nat) : List Nat := []
def lp_spec_l1Next_M (fu : Nat) : Lp RT den (Int × (Sl Int) × Int) := fun b s k => none
def pso_spec_l1Next_M : List (Pat RT) := [.flat (.int .i64)]
def oso_spec_l1Next_M : List (OP RT) := [.box true [(.rs .u8), (.int .i64)]]
def conv_spec_l1Next_M (r : Raw den pso_spec_l1Next_M oso_spec_l1Next_M) : Int × (Sl Int) × Int := (r.1.1, r.2.1.1, r.2.1.2.1)
def enc_spec_l1Next_M (y : Int × (Sl Int) × Int) : D RT den × List (Ob RT den) := ((.int .i64 y.1), [(.box true [(.rs y.2.1.z .u8 y.2.1.n y.2.1.f), (.int .i64 y.2.2)])])
def out_spec_l1Next_M (d : D RT den) (os : List (Ob RT den)) : Option (Int × (Sl Int) × Int) := (unSt pso_spec_l1Next_M oso_spec_l1Next_M ⟨[d], os⟩).bind fun v => some (conv_spec_l1Next_M v.1)
theorem out_spec_l1Next_M_enc (d : D RT den) (os : List (Ob RT den)) (y : Int × (Sl Int) × Int) (h : out_spec_l1Next_M d os = some y) : d = (enc_spec_l1Next_M y).1 ∧ os = (enc_spec_l1Next_M y).2 :=
  outM (conv := conv_spec_l1Next_M) (enc := enc_spec_l1Next_M) (fun raw => by kernel_rfl) h
theorem ev_spec_l1Next_M (fu : Nat) (n_1 : Int) (b0_1 : (Sl Int)) (b0_2 : Int) : evFunM E false (pc_spec_l1Next_M fu) msk_spec_l1Next_M (lp_spec_l1Next_M fu) out_spec_l1Next_M 32 [(.ref 0 0), (.int .i64 n_1)] [(.box true [(.rs b0_1.z .u8 b0_1.n b0_1.f), (.int .i64 b0_2)])] = F_spec_l1Next_M fu n_1 b0_1 b0_2 := by kernel_rfl
noncomputable def body_spec_l1Next_M : Code := Try.f32.body.getD .skip
theorem lpok_spec_l1Next_M (fu : Nat) : LpOk E (pc_spec_l1Next_M fu) msk_spec_l1Next_M (lp_spec_l1Next_M fu) (loops 0 body_spec_l1Next_M) := by
  have h : loops 0 body_spec_l1Next_M = [] := by kernel_rfl
  rw [h]; intro p hp; cases hp
def S_spec_l1Next_M (fu : Nat) (xs : List (D RT den)) (ins : List (Ob RT den)) : Option (OutX RT den) := match xs, ins with | [.ref 0 0, .int .i64 a1_0], [.box true [.rs za1000_0 .u8 na1000_0 fa1000_0, .int .i64 a1001_0]] => some ⟨Int × (Sl Int) × Int, F_spec_l1Next_M fu a1_0 (⟨za1000_0, na1000_0, fa1000_0⟩ : (Sl Int)) a1001_0, enc_spec_l1Next_M⟩ | _, _ => none
theorem hpc_spec_l1Next_M (fu : Nat) : ∀ f xs o, pcf_spec_l1Next_M fu f xs = some o → ∀ y, o.x = some y → Good E Try.prog f xs (o.g y) := by
  intro f xs o h
  cases h
theorem hpx_spec_l1Next_M (fu : Nat) : ∀ f xs ins o, pcx_spec_l1Next_M fu f xs ins = some o → ∀ y, o.x = some y → GoodX E Try.prog f xs ins (o.g y).1 (o.g y).2 := by
  intro f xs ins o h
  cases h
theorem goodv_spec_l1Next_M (fu : Nat) (n_1 : Int) (b0_1 : (Sl Int)) (b0_2 : Int) (y : Int × (Sl Int) × Int) (hy : F_spec_l1Next_M fu n_1 b0_1 b0_2 = some y) : GoodX E Try.prog 32 [(.ref 0 0), (.int .i64 n_1)] [(.box true [(.rs b0_1.z .u8 b0_1.n b0_1.f), (.int .i64 b0_2)])] (enc_spec_l1Next_M y).1 (enc_spec_l1Next_M y).2 :=
  funM_good (ke := false) E_ok (pc_good (pc := pc_spec_l1Next_M fu) (hpc_spec_l1Next_M fu) (hpx_spec_l1Next_M fu)) (fn := Try.f32) (c := body_spec_l1Next_M) (out := out_spec_l1Next_M) (y := y) (by kernel_rfl) (by kernel_rfl) (by kernel_rfl) (lpok_spec_l1Next_M fu) (by kernel_rfl) (Nat.le_of_ble_eq_true (by kernel_rfl)) (fun d os hd => out_spec_l1Next_M_enc d os _ hd) ((ev_spec_l1Next_M fu n_1 b0_1 b0_2).trans hy)
theorem good_spec_l1Next_M (fu : Nat) : ∀ xs ins o, S_spec_l1Next_M fu xs ins = some o → ∀ y, o.x = some y → GoodX E Try.prog 32 xs ins (o.g y).1 (o.g y).2 := by
  intro xs ins o h y hy
  unfold S_spec_l1Next_M at h
  split at h
  · rename_i a1_0 za1000_0 na1000_0 fa1000_0 a1001_0
    cases h
    exact goodv_spec_l1Next_M fu a1_0 (⟨za1000_0, na1000_0, fa1000_0⟩ : (Sl Int)) a1001_0 y hy
  · cases h

/-! spec.l1Chance -/
def F_spec_l1Chance_M (fu : Nat) (n_1 : Int) (b0_1 : (Sl Int)) (b0_2 : Int) : Option (Bool × (Sl Int) × Int) :=
  ((F_spec_l1Next_M fu n_1 b0_1 b0_2).bind fun y20 => (some ((y20.1 == 0), y20.2.1, y20.2.2)))
def pcf_spec_l1Chance_M (fu : Nat) (f : Nat) (xs : List (D RT den)) : Option (Out RT den) := none
def pcx_spec_l1Chance_M (fu : Nat) (f : Nat) (xs : List (D RT den)) (ins : List (Ob RT den)) : Option (OutX RT den) := match f with | 32 => S_spec_l1Next_M fu xs ins | _ => none
def pc_spec_l1Chance_M (fu : Nat) : Pc RT den := ⟨pcf_spec_l1Chance_M fu, fun f => match f with | 32 => true | _ => false, fun f => match f with | 32 => true | _ => false, pcx_spec_l1Chance_M fu⟩
def msk_spec_l1Chance_M (b : Nat) : List Nat := []
def lp_spec_l1Chance_M (fu : Nat) : Lp RT den (Bool × (Sl Int) × Int) := fun b s k => none
def pso_spec_l1Chance_M : List (Pat RT) := [.flat .bool]
def oso_spec_l1Chance_M : List (OP RT) := [.box true [(.rs .u8), (.int .i64)]]
def conv_spec_l1Chance_M (r : Raw den pso_spec_l1Chance_M oso_spec_l1Chance_M) : Bool × (Sl Int) × Int := (r.1.1, r.2.1.1, r.2.1.2.1)
def enc_spec_l1Chance_M (y : Bool × (Sl Int) × Int) : D RT den × List (Ob RT den) := ((.bool y.1), [(.box true [(.rs y.2.1.z .u8 y.2.1.n y.2.1.f), (.int .i64 y.2.2)])])
def out_spec_l1Chance_M (d : D RT den) (os : List (Ob RT den)) : Option (Bool × (Sl Int) × Int) := (unSt pso_spec_l1Chance_M oso_spec_l1Chance_M ⟨[d], os⟩).bind fun v => some (conv_spec_l1Chance_M v.1)
theorem out_spec_l1Chance_M_enc (d : D RT den) (os : List (Ob RT den)) (y : Bool × (Sl Int) × Int) (h : out_spec_l1Chance_M d os = some y) : d = (enc_spec_l1Chance_M y).1 ∧ os = (enc_spec_l1Chance_M y).2 :=
  outM (conv := conv_spec_l1Chance_M) (enc := enc_spec_l1Chance_M) (fun raw => by kernel_rfl) h
theorem ev_spec_l1Chance_M (fu : Nat) (n_1 : Int) (b0_1 : (Sl Int)) (b0_2 : Int) : evFunM E false (pc_spec_l1Chance_M fu) msk_spec_l1Chance_M (lp_spec_l1Chance_M fu) out_spec_l1Chance_M 22 [(.ref 0 0), (.int .i64 n_1)] [(.box true [(.rs b0_1.z .u8 b0_1.n b0_1.f), (.int .i64 b0_2)])] = F_spec_l1Chance_M fu n_1 b0_1 b0_2 := by kernel_rfl
noncomputable def body_spec_l1Chance_M : Code := Try.f22.body.getD .skip
theorem lpok_spec_l1Chance_M (fu : Nat) : LpOk E (pc_spec_l1Chance_M fu) msk_spec_l1Chance_M (lp_spec_l1Chance_M fu) (loops 0 body_spec_l1Chance_M) := by
  have h : loops 0 body_spec_l1Chance_M = [] := by kernel_rfl
  rw [h]; intro p hp; cases hp
def S_spec_l1Chance_M (fu : Nat) (xs : List (D RT den)) (ins : List (Ob RT den)) : Option (OutX RT den) := match xs, ins with | [.ref 0 0, .int .i64 a1_0], [.box true [.rs za1000_0 .u8 na1000_0 fa1000_0, .int .i64 a1001_0]] => some ⟨Bool × (Sl Int) × Int, F_spec_l1Chance_M fu a1_0 (⟨za1000_0, na1000_0, fa1000_0⟩ : (Sl Int)) a1001_0, enc_spec_l1Chance_M⟩ | _, _ => none
theorem hpc_spec_l1Chance_M (fu : Nat) : ∀ f xs o, pcf_spec_l1Chance_M fu f xs = some o → ∀ y, o.x = some y → Good E Try.prog f xs (o.g y) := by
  intro f xs o h
  cases h
theorem hpx_spec_l1Chance_M (fu : Nat) : ∀ f xs ins o, pcx_spec_l1Chance_M fu f xs ins = some o → ∀ y, o.x = some y → GoodX E Try.prog f xs ins (o.g y).1 (o.g y).2 := by
  intro f xs ins o h
  unfold pcx_spec_l1Chance_M at h
  split at h
  · exact good_spec_l1Next_M fu xs ins o h
  · cases h
theorem goodv_spec_l1Chance_M (fu : Nat) (n_1 : Int) (b0_1 : (Sl Int)) (b0_2 : Int) (y : Bool × (Sl Int) × Int) (hy : F_spec_l1Chance_M fu n_1 b0_1 b0_2 = some y) : GoodX E Try.prog 22 [(.ref 0 0), (.int .i64 n_1)] [(.box true [(.rs b0_1.z .u8 b0_1.n b0_1.f), (.int .i64 b0_2)])] (enc_spec_l1Chance_M y).1 (enc_spec_l1Chance_M y).2 :=
  funM_good (ke := false) E_ok (pc_good (pc := pc_spec_l1Chance_M fu) (hpc_spec_l1Chance_M fu) (hpx_spec_l1Chance_M fu)) (fn := Try.f22) (c := body_spec_l1Chance_M) (out := out_spec_l1Chance_M) (y := y) (by kernel_rfl) (by kernel_rfl) (by kernel_rfl) (lpok_spec_l1Chance_M fu) (by kernel_rfl) (Nat.le_of_ble_eq_true (by kernel_rfl)) (fun d os hd => out_spec_l1Chance_M_enc d os _ hd) ((ev_spec_l1Chance_M fu n_1 b0_1 b0_2).trans hy)
theorem good_spec_l1Chance_M (fu : Nat) : ∀ xs ins o, S_spec_l1Chance_M fu xs ins = some o → ∀ y, o.x = some y → GoodX E Try.prog 22 xs ins (o.g y).1 (o.g y).2 := by
  intro xs ins o h y hy
  unfold S_spec_l1Chance_M at h
  split at h
  · rename_i a1_0 za1000_0 na1000_0 fa1000_0 a1001_0
    cases h
    exact goodv_spec_l1Chance_M fu a1_0 (⟨za1000_0, na1000_0, fa1000_0⟩ : (Sl Int)) a1001_0 y hy
  · cases h

/-! spec.l1Pick -/
def F_spec_l1Pick_M (fu : Nat) (list_1 : (Sl Int)) (b0_1 : (Sl Int)) (b0_2 : Int) : Option (Int × (Sl Int) × Int) :=
  ((F_spec_l1Next_M fu ((list_1.n : Nat) : Int) b0_1 b0_2).bind fun y25 => ((bif (decide (0 ≤ y25.1) && decide ((Int.toNat y25.1) < list_1.n)) then some () else none : Option Unit).bind fun _ =>
    (some ((list_1.f (Int.toNat y25.1)), y25.2.1, y25.2.2))))
def pcf_spec_l1Pick_M (fu : Nat) (f : Nat) (xs : List (D RT den)) : Option (Out RT den) := none
def pcx_spec_l1Pick_M (fu : Nat) (f : Nat) (xs : List (D RT den)) (ins : List (Ob RT den)) : Option (OutX RT den) := match f with | 32 => S_spec_l1Next_M fu xs ins | _ => none
def pc_spec_l1Pick_M (fu : Nat) : Pc RT den := ⟨pcf_spec_l1Pick_M fu, fun f => match f with | 32 => true | _ => false, fun f => match f with | 32 => true | _ => false, pcx_spec_l1Pick_M fu⟩
def msk_spec_l1Pick_M (b : Nat) : List Nat := []
def lp_spec_l1Pick_M (fu : Nat) : Lp RT den (Int × (Sl Int) × Int) := fun b s k => none
def pso_spec_l1Pick_M : List (Pat RT) := [.flat (.int .i64)]
def oso_spec_l1Pick_M : List (OP RT) := [.box true [(.rs .u8), (.int .i64)]]
def conv_spec_l1Pick_M (r : Raw den pso_spec_l1Pick_M oso_spec_l1Pick_M) : Int × (Sl Int) × Int := (r.1.1, r.2.1.1, r.2.1.2.1)
def enc_spec_l1Pick_M (y : Int × (Sl Int) × Int) : D RT den × List (Ob RT den) := ((.int .i64 y.1), [(.box true [(.rs y.2.1.z .u8 y.2.1.n y.2.1.f), (.int .i64 y.2.2)])])
def out_spec_l1Pick_M (d : D RT den) (os : List (Ob RT den)) : Option (Int × (Sl Int) × Int) := (unSt pso_spec_l1Pick_M oso_spec_l1Pick_M ⟨[d], os⟩).bind fun v => some (conv_spec_l1Pick_M v.1)
theorem out_spec_l1Pick_M_enc (d : D RT den) (os : List (Ob RT den)) (y : Int × (Sl Int) × Int) (h : out_spec_l1Pick_M d os = some y) : d = (enc_spec_l1Pick_M y).1 ∧ os = (enc_spec_l1Pick_M y).2 :=
  outM (conv := conv_spec_l1Pick_M) (enc := enc_spec_l1Pick_M) (fun raw => by kernel_rfl) h
theorem ev_spec_l1Pick_M (fu : Nat) (list_1 : (Sl Int)) (b0_1 : (Sl Int)) (b0_2 : Int) : evFunM E false (pc_spec_l1Pick_M fu) msk_spec_l1Pick_M (lp_spec_l1Pick_M fu) out_spec_l1Pick_M 44 [(.ref 0 0), (.rs list_1.z .i64 list_1.n list_1.f)] [(.box true [(.rs b0_1.z .u8 b0_1.n b0_1.f), (.int .i64 b0_2)])] = F_spec_l1Pick_M fu list_1 b0_1 b0_2 := by kernel_rfl
noncomputable def body_spec_l1Pick_M : Code := Try.f44.body.getD .skip
theorem lpok_spec_l1Pick_M (fu : Nat) : LpOk E (pc_spec_l1Pick_M fu) msk_spec_l1Pick_M (lp_spec_l1Pick_M fu) (loops 0 body_spec_l1Pick_M) := by
  have h : loops 0 body_spec_l1Pick_M = [] := by kernel_rfl
  rw [h]; intro p hp; cases hp
def S_spec_l1Pick_M (fu : Nat) (xs : List (D RT den)) (ins : List (Ob RT den)) : Option (OutX RT den) := match xs, ins with | [.ref 0 0, .rs za1_0 .i64 na1_0 fa1_0], [.box true [.rs za1000_0 .u8 na1000_0 fa1000_0, .int .i64 a1001_0]] => some ⟨Int × (Sl Int) × Int, F_spec_l1Pick_M fu (⟨za1_0, na1_0, fa1_0⟩ : (Sl Int)) (⟨za1000_0, na1000_0, fa1000_0⟩ : (Sl Int)) a1001_0, enc_spec_l1Pick_M⟩ | _, _ => none
theorem hpc_spec_l1Pick_M (fu : Nat) : ∀ f xs o, pcf_spec_l1Pick_M fu f xs = some o → ∀ y, o.x = some y → Good E Try.prog f xs (o.g y) := by
  intro f xs o h
  cases h
theorem hpx_spec_l1Pick_M (fu : Nat) : ∀ f xs ins o, pcx_spec_l1Pick_M fu f xs ins = some o → ∀ y, o.x = some y → GoodX E Try.prog f xs ins (o.g y).1 (o.g y).2 := by
  intro f xs ins o h
  unfold pcx_spec_l1Pick_M at h
  split at h
  · exact good_spec_l1Next_M fu xs ins o h
  · cases h
theorem goodv_spec_l1Pick_M (fu : Nat) (list_1 : (Sl Int)) (b0_1 : (Sl Int)) (b0_2 : Int) (y : Int × (Sl Int) × Int) (hy : F_spec_l1Pick_M fu list_1 b0_1 b0_2 = some y) : GoodX E Try.prog 44 [(.ref 0 0), (.rs list_1.z .i64 list_1.n list_1.f)] [(.box true [(.rs b0_1.z .u8 b0_1.n b0_1.f), (.int .i64 b0_2)])] (enc_spec_l1Pick_M y).1 (enc_spec_l1Pick_M y).2 :=
  funM_good (ke := false) E_ok (pc_good (pc := pc_spec_l1Pick_M fu) (hpc_spec_l1Pick_M fu) (hpx_spec_l1Pick_M fu)) (fn := Try.f44) (c := body_spec_l1Pick_M) (out := out_spec_l1Pick_M) (y := y) (by kernel_rfl) (by kernel_rfl) (by kernel_rfl) (lpok_spec_l1Pick_M fu) (by kernel_rfl) (Nat.le_of_ble_eq_true (by kernel_rfl)) (fun d os hd => out_spec_l1Pick_M_enc d os _ hd) ((ev_spec_l1Pick_M fu list_1 b0_1 b0_2).trans hy)
theorem good_spec_l1Pick_M (fu : Nat) : ∀ xs ins o, S_spec_l1Pick_M fu xs ins = some o → ∀ y, o.x = some y → GoodX E Try.prog 44 xs ins (o.g y).1 (o.g y).2 := by
  intro xs ins o h y hy
  unfold S_spec_l1Pick_M at h
  split at h
  · rename_i za1_0 na1_0 fa1_0 za1000_0 na1000_0 fa1000_0 a1001_0
    cases h
    exact goodv_spec_l1Pick_M fu (⟨za1_0, na1_0, fa1_0⟩ : (Sl Int)) (⟨za1000_0, na1000_0, fa1000_0⟩ : (Sl Int)) a1001_0 y hy
  · cases h

/-! spec.l12Health -/
def F_spec_l12Health_M (fu : Nat) (b0_0 : (Sl Int)) (b0_1 : Int) : Option (Int × Bool × Int × (Sl Int) × Int) :=
  ((F_spec_l1Next_M fu 5 b0_0 b0_1).bind fun y19 => ((F_spec_l1Chance_M fu 2 y19.2.1 y19.2.2).bind fun y21 => ((F_spec_l12Bound fu (⟨(IntKind.wrap .i64 (1 + y19.1)), y21.1, 0⟩ : S_impl_Health)).bind fun y22 =>
    ((F_spec_l1Next_M fu y22 y21.2.1 y21.2.2).bind fun y23 => ((F_spec_l1Next_M fu 14 y23.2.1 y23.2.2).bind fun y24 => (bif (y24.1 == 0) then ((F_spec_l1Pick_M fu (⟨(some false), 2,
    (fun i => [0, 1000].getD i (dflt .i64))⟩ : (Sl Int)) y24.2.1 y24.2.2).bind fun y26 => (some (y26.1, y21.1, y23.1, y26.2.1, y26.2.2))) else (bif (y24.1 == 1) then
    ((F_spec_l1Pick_M fu (⟨(some false), 3, (fun i => [(-1), 2, 3].getD i (dflt .i64))⟩ : (Sl Int)) y24.2.1 y24.2.2).bind fun y27 => (some ((IntKind.wrap .i64 (1 + y19.1)), y21.1,
    y27.1, y27.2.1, y27.2.2))) else (some ((IntKind.wrap .i64 (1 + y19.1)), y21.1, y23.1, y24.2.1, y24.2.2)))))))))
def pcf_spec_l12Health_M (fu : Nat) (f : Nat) (xs : List (D RT den)) : Option (Out RT den) := match f with | 43 => S_spec_l12Bound fu xs | _ => none
def pcx_spec_l12Health_M (fu : Nat) (f : Nat) (xs : List (D RT den)) (ins : List (Ob RT den)) : Option (OutX RT den) := match f with | 22 => S_spec_l1Chance_M fu xs ins | 32 => S_spec_l1Next_M fu xs ins | 44 => S_spec_l1Pick_M fu xs ins | _ => none
def pc_spec_l12Health_M (fu : Nat) : Pc RT den := ⟨pcf_spec_l12Health_M fu, fun f => match f with | 22 => true | 32 => true | 44 => true | _ => false, fun f => match f with | 22 => true | 32 => true | 44 => true | _ => false, pcx_spec_l12Health_M fu⟩
def msk_spec_l12Health_M (b : Nat) : List Nat := []
def lp_spec_l12Health_M (fu : Nat) : Lp RT den (Int × Bool × Int × (Sl Int) × Int) := fun b s k => none
def pso_spec_l12Health_M : List (Pat RT) := [.agg [(.int .i64), .bool, (.int .i64)]]
def oso_spec_l12Health_M : List (OP RT) := [.box true [(.rs .u8), (.int .i64)]]
def conv_spec_l12Health_M (r : Raw den pso_spec_l12Health_M oso_spec_l12Health_M) : Int × Bool × Int × (Sl Int) × Int := (r.1.1.1, r.1.1.2.1, r.1.1.2.2.1, r.2.1.1, r.2.1.2.1)
def enc_spec_l12Health_M (y : Int × Bool × Int × (Sl Int) × Int) : D RT den × List (Ob RT den) := ((.agg [(.int .i64 y.1), (.bool y.2.1), (.int .i64 y.2.2.1)]), [(.box true [(.rs y.2.2.2.1.z .u8 y.2.2.2.1.n y.2.2.2.1.f), (.int .i64 y.2.2.2.2)])])
def out_spec_l12Health_M (d : D RT den) (os : List (Ob RT den)) : Option (Int × Bool × Int × (Sl Int) × Int) := (unSt pso_spec_l12Health_M oso_spec_l12Health_M ⟨[d], os⟩).bind fun v => some (conv_spec_l12Health_M v.1)
theorem out_spec_l12Health_M_enc (d : D RT den) (os : List (Ob RT den)) (y : Int × Bool × Int × (Sl Int) × Int) (h : out_spec_l12Health_M d os = some y) : d = (enc_spec_l12Health_M y).1 ∧ os = (enc_spec_l12Health_M y).2 :=
  outM (conv := conv_spec_l12Health_M) (enc := enc_spec_l12Health_M) (fun raw => by kernel_rfl) h
theorem ev_spec_l12Health_M (fu : Nat) (b0_0 : (Sl Int)) (b0_1 : Int) : evFunM E false (pc_spec_l12Health_M fu) msk_spec_l12Health_M (lp_spec_l12Health_M fu) out_spec_l12Health_M 21 [(.ref 0 0)] [(.box true [(.rs b0_0.z .u8 b0_0.n b0_0.f), (.int .i64 b0_1)])] = F_spec_l12Health_M fu b0_0 b0_1 := by kernel_rfl
noncomputable def body_spec_l12Health_M : Code := Try.f21.body.getD .skip
theorem lpok_spec_l12Health_M (fu : Nat) : LpOk E (pc_spec_l12Health_M fu) msk_spec_l12Health_M (lp_spec_l12Health_M fu) (loops 0 body_spec_l12Health_M) := by
  have h : loops 0 body_spec_l12Health_M = [] := by kernel_rfl
  rw [h]; intro p hp; cases hp
def S_spec_l12Health_M (fu : Nat) (xs : List (D RT den)) (ins : List (Ob RT den)) : Option (OutX RT den) := match xs, ins with | [.ref 0 0], [.box true [.rs za1000_0 .u8 na1000_0 fa1000_0, .int .i64 a1001_0]] => some ⟨Int × Bool × Int × (Sl Int) × Int, F_spec_l12Health_M fu (⟨za1000_0, na1000_0, fa1000_0⟩ : (Sl Int)) a1001_0, enc_spec_l12Health_M⟩ | _, _ => none
theorem hpc_spec_l12Health_M (fu : Nat) : ∀ f xs o, pcf_spec_l12Health_M fu f xs = some o → ∀ y, o.x = some y → Good E Try.prog f xs (o.g y) := by
  intro f xs o h
  unfold pcf_spec_l12Health_M at h
  split at h
  · exact good_spec_l12Bound fu xs o h
  · cases h
theorem hpx_spec_l12Health_M (fu : Nat) : ∀ f xs ins o, pcx_spec_l12Health_M fu f xs ins = some o → ∀ y, o.x = some y → GoodX E Try.prog f xs ins (o.g y).1 (o.g y).2 := by
  intro f xs ins o h
  unfold pcx_spec_l12Health_M at h
  split at h
  · exact good_spec_l1Chance_M fu xs ins o h
  · exact good_spec_l1Next_M fu xs ins o h
  · exact good_spec_l1Pick_M fu xs ins o h
  · cases h
theorem goodv_spec_l12Health_M (fu : Nat) (b0_0 : (Sl Int)) (b0_1 : Int) (y : Int × Bool × Int × (Sl Int) × Int) (hy : F_spec_l12Health_M fu b0_0 b0_1 = some y) : GoodX E Try.prog 21 [(.ref 0 0)] [(.box true [(.rs b0_0.z .u8 b0_0.n b0_0.f), (.int .i64 b0_1)])] (enc_spec_l12Health_M y).1 (enc_spec_l12Health_M y).2 :=
  funM_good (ke := false) E_ok (pc_good (pc := pc_spec_l12Health_M fu) (hpc_spec_l12Health_M fu) (hpx_spec_l12Health_M fu)) (fn := Try.f21) (c := body_spec_l12Health_M) (out := out_spec_l12Health_M) (y := y) (by kernel_rfl) (by kernel_rfl) (by kernel_rfl) (lpok_spec_l12Health_M fu) (by kernel_rfl) (Nat.le_of_ble_eq_true (by kernel_rfl)) (fun d os hd => out_spec_l12Health_M_enc d os _ hd) ((ev_spec_l12Health_M fu b0_0 b0_1).trans hy)
theorem good_spec_l12Health_M (fu : Nat) : ∀ xs ins o, S_spec_l12Health_M fu xs ins = some o → ∀ y, o.x = some y → GoodX E Try.prog 21 xs ins (o.g y).1 (o.g y).2 := by
  intro xs ins o h y hy
  unfold S_spec_l12Health_M at h
  split at h
  · rename_i za1000_0 na1000_0 fa1000_0 a1001_0
    cases h
    exact goodv_spec_l12Health_M fu (⟨za1000_0, na1000_0, fa1000_0⟩ : (Sl Int)) a1001_0 y hy
  · cases h

/-! spec.DrawProbeHealth -/
def F_spec_DrawProbeHealth (fu : Nat) (code_0 : (Sl Int)) : Option (S_impl_Health × Bool) :=
  ((F_spec_l1Source_M fu code_0).bind fun y29 => ((F_spec_l12Health_M fu y29.1 y29.2).bind fun y30 => ((F_spec_l1Chance_M fu 2 y30.2.2.2.1 y30.2.2.2.2).bind fun y31 => (some ((⟨y30.1,
    y30.2.1, y30.2.2.1⟩ : S_impl_Health), y31.1)))))
def pcf_spec_DrawProbeHealth (fu : Nat) (f : Nat) (xs : List (D RT den)) : Option (Out RT den) := none
def pcx_spec_DrawProbeHealth (fu : Nat) (f : Nat) (xs : List (D RT den)) (ins : List (Ob RT den)) : Option (OutX RT den) := match f with | 20 => S_spec_l1Source_M fu xs ins | 21 => S_spec_l12Health_M fu xs ins | 22 => S_spec_l1Chance_M fu xs ins | _ => none
def pc_spec_DrawProbeHealth (fu : Nat) : Pc RT den := ⟨pcf_spec_DrawProbeHealth fu, fun f => match f with | 20 => true | 21 => true | 22 => true | _ => false, fun f => match f with | 20 => true | 21 => true | 22 => true | _ => false, pcx_spec_DrawProbeHealth fu⟩
def msk_spec_DrawProbeHealth (b : Nat) : List Nat := match b with | 500003 => [2] | _ => []
def lp_spec_DrawProbeHealth (fu : Nat) : Lp RT den (S_impl_Health × Bool) := fun b s k => none
theorem ev_spec_DrawProbeHealth (fu : Nat) (code_0 : (Sl Int)) : evFun E (pc_spec_DrawProbeHealth fu) msk_spec_DrawProbeHealth (lp_spec_DrawProbeHealth fu) out_impl_Health_bo 6 [(.rs code_0.z .u8 code_0.n code_0.f)] = F_spec_DrawProbeHealth fu code_0 := by kernel_rfl
noncomputable def body_spec_DrawProbeHealth : Code := Try.f6.body.getD .skip
theorem lpok_spec_DrawProbeHealth (fu : Nat) : LpOk E (pc_spec_DrawProbeHealth fu) msk_spec_DrawProbeHealth (lp_spec_DrawProbeHealth fu) (loops 0 body_spec_DrawProbeHealth) := by
  have h : loops 0 body_spec_DrawProbeHealth = [] := by kernel_rfl
  rw [h]; intro p hp; cases hp
def S_spec_DrawProbeHealth (fu : Nat) (xs : List (D RT den)) : Option (Out RT den) := match xs with | [.rs za0_0 .u8 na0_0 fa0_0] => some ⟨S_impl_Health × Bool, F_spec_DrawProbeHealth fu (⟨za0_0, na0_0, fa0_0⟩ : (Sl Int)), enc_impl_Health_bo, fun _ => true⟩ | _ => none
theorem hpc_spec_DrawProbeHealth (fu : Nat) : ∀ f xs o, pcf_spec_DrawProbeHealth fu f xs = some o → ∀ y, o.x = some y → Good E Try.prog f xs (o.g y) := by
  intro f xs o h
  cases h
theorem hpx_spec_DrawProbeHealth (fu : Nat) : ∀ f xs ins o, pcx_spec_DrawProbeHealth fu f xs ins = some o → ∀ y, o.x = some y → GoodX E Try.prog f xs ins (o.g y).1 (o.g y).2 := by
  intro f xs ins o h
  unfold pcx_spec_DrawProbeHealth at h
  split at h
  · exact good_spec_l1Source_M fu xs ins o h
  · exact good_spec_l12Health_M fu xs ins o h
  · exact good_spec_l1Chance_M fu xs ins o h
  · cases h
theorem goodv_spec_DrawProbeHealth (fu : Nat) (code_0 : (Sl Int)) (y : S_impl_Health × Bool) (hy : F_spec_DrawProbeHealth fu code_0 = some y) : Good E Try.prog 6 [(.rs code_0.z .u8 code_0.n code_0.f)] (enc_impl_Health_bo y) :=
  fun_good E_ok (pc_good (pc := pc_spec_DrawProbeHealth fu) (hpc_spec_DrawProbeHealth fu) (hpx_spec_DrawProbeHealth fu)) (fn := Try.f6) (c := body_spec_DrawProbeHealth) (out := out_impl_Health_bo) (y := y) (by kernel_rfl) (by kernel_rfl) (by kernel_rfl) (lpok_spec_DrawProbeHealth fu) (fun d hd => out_impl_Health_bo_enc d _ hd) ((ev_spec_DrawProbeHealth fu code_0).trans hy)
theorem good_spec_DrawProbeHealth (fu : Nat) : ∀ xs o, S_spec_DrawProbeHealth fu xs = some o → ∀ y, o.x = some y → Good E Try.prog 6 xs (o.g y) := by
  intro xs o h y hy
  unfold S_spec_DrawProbeHealth at h
  split at h
  · rename_i za0_0 na0_0 fa0_0
    cases h
    exact goodv_spec_DrawProbeHealth fu (⟨za0_0, na0_0, fa0_0⟩ : (Sl Int)) y hy
  · cases h

/-! impl.in -/
def F_impl_in (fu : Nat) (n_0 : Int) (low_1 : Int) (high_2 : Int) : Option (Bool) :=
  (((bif (decide (n_0 ≥ low_1)) then (some (decide (n_0 ≤ high_2))) else (some false)) : Option Bool).bind fun m41 => (some m41))
def pcf_impl_in (fu : Nat) (f : Nat) (xs : List (D RT den)) : Option (Out RT den) := none
def pcx_impl_in (fu : Nat) (f : Nat) (xs : List (D RT den)) (ins : List (Ob RT den)) : Option (OutX RT den) := none
def pc_impl_in (fu : Nat) : Pc RT den := ⟨pcf_impl_in fu, fun _ => false, fun _ => false, pcx_impl_in fu⟩
def msk_impl_in (b : Nat) : List Nat := match b with | 200001 => [6] | _ => []
def lp_impl_in (fu : Nat) : Lp RT den (Bool) := fun b s k => none
theorem ev_impl_in (fu : Nat) (n_0 : Int) (low_1 : Int) (high_2 : Int) : evFun E (pc_impl_in fu) msk_impl_in (lp_impl_in fu) out_bo 27 [(.int .i64 n_0), (.int .i64 low_1), (.int .i64 high_2)] = F_impl_in fu n_0 low_1 high_2 := by kernel_rfl
noncomputable def body_impl_in : Code := Try.f27.body.getD .skip
theorem lpok_impl_in (fu : Nat) : LpOk E (pc_impl_in fu) msk_impl_in (lp_impl_in fu) (loops 0 body_impl_in) := by
  have h : loops 0 body_impl_in = [] := by kernel_rfl
  rw [h]; intro p hp; cases hp
def S_impl_in (fu : Nat) (xs : List (D RT den)) : Option (Out RT den) := match xs with | [.int .i64 a0_0, .int .i64 a1_0, .int .i64 a2_0] => some ⟨Bool, F_impl_in fu a0_0 a1_0 a2_0, enc_bo, fun _ => true⟩ | _ => none
theorem hpc_impl_in (fu : Nat) : ∀ f xs o, pcf_impl_in fu f xs = some o → ∀ y, o.x = some y → Good E Try.prog f xs (o.g y) := by
  intro f xs o h
  cases h
theorem hpx_impl_in (fu : Nat) : ∀ f xs ins o, pcx_impl_in fu f xs ins = some o → ∀ y, o.x = some y → GoodX E Try.prog f xs ins (o.g y).1 (o.g y).2 := by
  intro f xs ins o h
  cases h
theorem goodv_impl_in (fu : Nat) (n_0 : Int) (low_1 : Int) (high_2 : Int) (y : Bool) (hy : F_impl_in fu n_0 low_1 high_2 = some y) : Good E Try.prog 27 [(.int .i64 n_0), (.int .i64 low_1), (.int .i64 high_2)] (enc_bo y) :=
  fun_good E_ok (pc_good (pc := pc_impl_in fu) (hpc_impl_in fu) (hpx_impl_in fu)) (fn := Try.f27) (c := body_impl_in) (out := out_bo) (y := y) (by kernel_rfl) (by kernel_rfl) (by kernel_rfl) (lpok_impl_in fu) (fun d hd => out_bo_enc d _ hd) ((ev_impl_in fu n_0 low_1 high_2).trans hy)
theorem good_impl_in (fu : Nat) : ∀ xs o, S_impl_in fu xs = some o → ∀ y, o.x = some y → Good E Try.prog 27 xs (o.g y) := by
  intro xs o h y hy
  unfold S_impl_in at h
  split at h
  · rename_i a0_0 a1_0 a2_0
    cases h
    exact goodv_impl_in fu a0_0 a1_0 a2_0 y hy
  · cases h

/-! impl.isName -/
def F_impl_isName (fu : Nat) (name_0 : Int) : Option (Bool) :=
  ((F_impl_in fu name_0 1 999).bind fun y40 => (some y40))
def pcf_impl_isName (fu : Nat) (f : Nat) (xs : List (D RT den)) : Option (Out RT den) := match f with | 27 => S_impl_in fu xs | _ => none
def pcx_impl_isName (fu : Nat) (f : Nat) (xs : List (D RT den)) (ins : List (Ob RT den)) : Option (OutX RT den) := none
def pc_impl_isName (fu : Nat) : Pc RT den := ⟨pcf_impl_isName fu, fun _ => false, fun _ => false, pcx_impl_isName fu⟩
def msk_impl_isName (b : Nat) : List Nat := []
def lp_impl_isName (fu : Nat) : Lp RT den (Bool) := fun b s k => none
theorem ev_impl_isName (fu : Nat) (name_0 : Int) : evFun E (pc_impl_isName fu) msk_impl_isName (lp_impl_isName fu) out_bo 26 [(.int .i64 name_0)] = F_impl_isName fu name_0 := by kernel_rfl
noncomputable def body_impl_isName : Code := Try.f26.body.getD .skip
theorem lpok_impl_isName (fu : Nat) : LpOk E (pc_impl_isName fu) msk_impl_isName (lp_impl_isName fu) (loops 0 body_impl_isName) := by
  have h : loops 0 body_impl_isName = [] := by kernel_rfl
  rw [h]; intro p hp; cases hp
def S_impl_isName (fu : Nat) (xs : List (D RT den)) : Option (Out RT den) := match xs with | [.int .i64 a0_0] => some ⟨Bool, F_impl_isName fu a0_0, enc_bo, fun _ => true⟩ | _ => none
theorem hpc_impl_isName (fu : Nat) : ∀ f xs o, pcf_impl_isName fu f xs = some o → ∀ y, o.x = some y → Good E Try.prog f xs (o.g y) := by
  intro f xs o h
  unfold pcf_impl_isName at h
  split at h
  · exact good_impl_in fu xs o h
  · cases h
theorem hpx_impl_isName (fu : Nat) : ∀ f xs ins o, pcx_impl_isName fu f xs ins = some o → ∀ y, o.x = some y → GoodX E Try.prog f xs ins (o.g y).1 (o.g y).2 := by
  intro f xs ins o h
  cases h
theorem goodv_impl_isName (fu : Nat) (name_0 : Int) (y : Bool) (hy : F_impl_isName fu name_0 = some y) : Good E Try.prog 26 [(.int .i64 name_0)] (enc_bo y) :=
  fun_good E_ok (pc_good (pc := pc_impl_isName fu) (hpc_impl_isName fu) (hpx_impl_isName fu)) (fn := Try.f26) (c := body_impl_isName) (out := out_bo) (y := y) (by kernel_rfl) (by kernel_rfl) (by kernel_rfl) (lpok_impl_isName fu) (fun d hd => out_bo_enc d _ hd) ((ev_impl_isName fu name_0).trans hy)
theorem good_impl_isName (fu : Nat) : ∀ xs o, S_impl_isName fu xs = some o → ∀ y, o.x = some y → Good E Try.prog 26 xs (o.g y) := by
  intro xs o h y hy
  unfold S_impl_isName at h
  split at h
  · rename_i a0_0
    cases h
    exact goodv_impl_isName fu a0_0 y hy
  · cases h

/-! impl.HealthFault -/
def F_impl_HealthFault (fu : Nat) (h_0 : S_impl_Health) : Option (Int) :=
  (bif h_0.Up then ((((F_impl_isName fu h_0.Name).bind fun y34 => (bif (!y34) then (some true) else ((F_impl_in fu h_0.Run 0 2).bind fun y35 => (some (!y35))))) : Option Bool).bind fun m36 =>
    (bif m36 then (some 3) else (some 0))) else ((((F_impl_isName fu h_0.Name).bind fun y37 => (bif (!y37) then (some true) else ((F_impl_in fu h_0.Run 0 1).bind fun y38 => (some (!y38))))) : Option Bool).bind fun m39 =>
    (bif m39 then (some 3) else (some 0))))
def pcf_impl_HealthFault (fu : Nat) (f : Nat) (xs : List (D RT den)) : Option (Out RT den) := match f with | 26 => S_impl_isName fu xs | 27 => S_impl_in fu xs | _ => none
def pcx_impl_HealthFault (fu : Nat) (f : Nat) (xs : List (D RT den)) (ins : List (Ob RT den)) : Option (OutX RT den) := none
def pc_impl_HealthFault (fu : Nat) : Pc RT den := ⟨pcf_impl_HealthFault fu, fun _ => false, fun _ => false, pcx_impl_HealthFault fu⟩
def msk_impl_HealthFault (b : Nat) : List Nat := match b with | 200004 => [16] | _ => []
def lp_impl_HealthFault (fu : Nat) : Lp RT den (Int) := fun b s k => none
theorem ev_impl_HealthFault (fu : Nat) (h_0 : S_impl_Health) : evFun E (pc_impl_HealthFault fu) msk_impl_HealthFault (lp_impl_HealthFault fu) out_i64 10 [(.agg [(.int .i64 h_0.Name), (.bool h_0.Up), (.int .i64 h_0.Run)])] = F_impl_HealthFault fu h_0 := by kernel_rfl
noncomputable def body_impl_HealthFault : Code := Try.f10.body.getD .skip
theorem lpok_impl_HealthFault (fu : Nat) : LpOk E (pc_impl_HealthFault fu) msk_impl_HealthFault (lp_impl_HealthFault fu) (loops 0 body_impl_HealthFault) := by
  have h : loops 0 body_impl_HealthFault = [] := by kernel_rfl
  rw [h]; intro p hp; cases hp
def S_impl_HealthFault (fu : Nat) (xs : List (D RT den)) : Option (Out RT den) := match xs with | [.agg [.int .i64 a0_1, .bool a0_2, .int .i64 a0_3]] => some ⟨Int, F_impl_HealthFault fu (⟨a0_1, a0_2, a0_3⟩ : S_impl_Health), enc_i64, fun _ => true⟩ | _ => none
theorem hpc_impl_HealthFault (fu : Nat) : ∀ f xs o, pcf_impl_HealthFault fu f xs = some o → ∀ y, o.x = some y → Good E Try.prog f xs (o.g y) := by
  intro f xs o h
  unfold pcf_impl_HealthFault at h
  split at h
  · exact good_impl_isName fu xs o h
  · exact good_impl_in fu xs o h
  · cases h
theorem hpx_impl_HealthFault (fu : Nat) : ∀ f xs ins o, pcx_impl_HealthFault fu f xs ins = some o → ∀ y, o.x = some y → GoodX E Try.prog f xs ins (o.g y).1 (o.g y).2 := by
  intro f xs ins o h
  cases h
theorem goodv_impl_HealthFault (fu : Nat) (h_0 : S_impl_Health) (y : Int) (hy : F_impl_HealthFault fu h_0 = some y) : Good E Try.prog 10 [(.agg [(.int .i64 h_0.Name), (.bool h_0.Up), (.int .i64 h_0.Run)])] (enc_i64 y) :=
  fun_good E_ok (pc_good (pc := pc_impl_HealthFault fu) (hpc_impl_HealthFault fu) (hpx_impl_HealthFault fu)) (fn := Try.f10) (c := body_impl_HealthFault) (out := out_i64) (y := y) (by kernel_rfl) (by kernel_rfl) (by kernel_rfl) (lpok_impl_HealthFault fu) (fun d hd => out_i64_enc d _ hd) ((ev_impl_HealthFault fu h_0).trans hy)
theorem good_impl_HealthFault (fu : Nat) : ∀ xs o, S_impl_HealthFault fu xs = some o → ∀ y, o.x = some y → Good E Try.prog 10 xs (o.g y) := by
  intro xs o h y hy
  unfold S_impl_HealthFault at h
  split at h
  · rename_i a0_1 a0_2 a0_3
    cases h
    exact goodv_impl_HealthFault fu (⟨a0_1, a0_2, a0_3⟩ : S_impl_Health) y hy
  · cases h

/-! (impl.Health).probe -/
def F_impl_Health_probe (fu : Nat) (h_0 : S_impl_Health) (ok_1 : Bool) : Option (S_impl_Health × Bool) :=
  (bif (ok_1 == h_0.Up) then (some ((⟨h_0.Name, h_0.Up, 0⟩ : S_impl_Health), false)) else (bif h_0.Up then (bif (decide ((IntKind.wrap .i64 (h_0.Run + 1)) < 3)) then (some ((⟨h_0.Name,
    h_0.Up, (IntKind.wrap .i64 (h_0.Run + 1))⟩ : S_impl_Health), false)) else (some ((⟨h_0.Name, ok_1, 0⟩ : S_impl_Health), true))) else (bif (decide ((IntKind.wrap .i64 (h_0.Run + 1)) < 2)) then
    (some ((⟨h_0.Name, h_0.Up, (IntKind.wrap .i64 (h_0.Run + 1))⟩ : S_impl_Health), false)) else (some ((⟨h_0.Name, ok_1, 0⟩ : S_impl_Health), true)))))
def pcf_impl_Health_probe (fu : Nat) (f : Nat) (xs : List (D RT den)) : Option (Out RT den) := none
def pcx_impl_Health_probe (fu : Nat) (f : Nat) (xs : List (D RT den)) (ins : List (Ob RT den)) : Option (OutX RT den) := none
def pc_impl_Health_probe (fu : Nat) : Pc RT den := ⟨pcf_impl_Health_probe fu, fun _ => false, fun _ => false, pcx_impl_Health_probe fu⟩
def msk_impl_Health_probe (b : Nat) : List Nat := []
def lp_impl_Health_probe (fu : Nat) : Lp RT den (S_impl_Health × Bool) := fun b s k => none
theorem ev_impl_Health_probe (fu : Nat) (h_0 : S_impl_Health) (ok_1 : Bool) : evFun E (pc_impl_Health_probe fu) msk_impl_Health_probe (lp_impl_Health_probe fu) out_impl_Health_bo 23 [(.agg [(.int .i64 h_0.Name), (.bool h_0.Up), (.int .i64 h_0.Run)]), (.bool ok_1)] = F_impl_Health_probe fu h_0 ok_1 := by kernel_rfl
noncomputable def body_impl_Health_probe : Code := Try.f23.body.getD .skip
theorem lpok_impl_Health_probe (fu : Nat) : LpOk E (pc_impl_Health_probe fu) msk_impl_Health_probe (lp_impl_Health_probe fu) (loops 0 body_impl_Health_probe) := by
  have h : loops 0 body_impl_Health_probe = [] := by kernel_rfl
  rw [h]; intro p hp; cases hp
def S_impl_Health_probe (fu : Nat) (xs : List (D RT den)) : Option (Out RT den) := match xs with | [.agg [.int .i64 a0_1, .bool a0_2, .int .i64 a0_3], .bool a1_0] => some ⟨S_impl_Health × Bool, F_impl_Health_probe fu (⟨a0_1, a0_2, a0_3⟩ : S_impl_Health) a1_0, enc_impl_Health_bo, fun _ => true⟩ | _ => none
theorem hpc_impl_Health_probe (fu : Nat) : ∀ f xs o, pcf_impl_Health_probe fu f xs = some o → ∀ y, o.x = some y → Good E Try.prog f xs (o.g y) := by
  intro f xs o h
  cases h
theorem hpx_impl_Health_probe (fu : Nat) : ∀ f xs ins o, pcx_impl_Health_probe fu f xs ins = some o → ∀ y, o.x = some y → GoodX E Try.prog f xs ins (o.g y).1 (o.g y).2 := by
  intro f xs ins o h
  cases h
theorem goodv_impl_Health_probe (fu : Nat) (h_0 : S_impl_Health) (ok_1 : Bool) (y : S_impl_Health × Bool) (hy : F_impl_Health_probe fu h_0 ok_1 = some y) : Good E Try.prog 23 [(.agg [(.int .i64 h_0.Name), (.bool h_0.Up), (.int .i64 h_0.Run)]), (.bool ok_1)] (enc_impl_Health_bo y) :=
  fun_good E_ok (pc_good (pc := pc_impl_Health_probe fu) (hpc_impl_Health_probe fu) (hpx_impl_Health_probe fu)) (fn := Try.f23) (c := body_impl_Health_probe) (out := out_impl_Health_bo) (y := y) (by kernel_rfl) (by kernel_rfl) (by kernel_rfl) (lpok_impl_Health_probe fu) (fun d hd => out_impl_Health_bo_enc d _ hd) ((ev_impl_Health_probe fu h_0 ok_1).trans hy)
theorem good_impl_Health_probe (fu : Nat) : ∀ xs o, S_impl_Health_probe fu xs = some o → ∀ y, o.x = some y → Good E Try.prog 23 xs (o.g y) := by
  intro xs o h y hy
  unfold S_impl_Health_probe at h
  split at h
  · rename_i a0_1 a0_2 a0_3 a1_0
    cases h
    exact goodv_impl_Health_probe fu (⟨a0_1, a0_2, a0_3⟩ : S_impl_Health) a1_0 y hy
  · cases h

/-! impl.ProbeHealth -/
def F_impl_ProbeHealth (fu : Nat) (h_0 : S_impl_Health) (ok_1 : Bool) : Option (S_impl_HealthResult) :=
  ((F_impl_HealthFault fu h_0).bind fun y32 => (bif (y32 != 0) then (some (⟨y32, false, (⟨0, false, 0⟩ : S_impl_Health)⟩ : S_impl_HealthResult)) else ((F_impl_Health_probe fu h_0 ok_1).bind fun y33 =>
    (some (⟨0, y33.2, y33.1⟩ : S_impl_HealthResult)))))
def pcf_impl_ProbeHealth (fu : Nat) (f : Nat) (xs : List (D RT den)) : Option (Out RT den) := match f with | 10 => S_impl_HealthFault fu xs | 23 => S_impl_Health_probe fu xs | _ => none
def pcx_impl_ProbeHealth (fu : Nat) (f : Nat) (xs : List (D RT den)) (ins : List (Ob RT den)) : Option (OutX RT den) := none
def pc_impl_ProbeHealth (fu : Nat) : Pc RT den := ⟨pcf_impl_ProbeHealth fu, fun _ => false, fun _ => false, pcx_impl_ProbeHealth fu⟩
def msk_impl_ProbeHealth (b : Nat) : List Nat := []
def lp_impl_ProbeHealth (fu : Nat) : Lp RT den (S_impl_HealthResult) := fun b s k => none
theorem ev_impl_ProbeHealth (fu : Nat) (h_0 : S_impl_Health) (ok_1 : Bool) : evFun E (pc_impl_ProbeHealth fu) msk_impl_ProbeHealth (lp_impl_ProbeHealth fu) out_impl_HealthResult 7 [(.agg [(.int .i64 h_0.Name), (.bool h_0.Up), (.int .i64 h_0.Run)]), (.bool ok_1)] = F_impl_ProbeHealth fu h_0 ok_1 := by kernel_rfl
noncomputable def body_impl_ProbeHealth : Code := Try.f7.body.getD .skip
theorem lpok_impl_ProbeHealth (fu : Nat) : LpOk E (pc_impl_ProbeHealth fu) msk_impl_ProbeHealth (lp_impl_ProbeHealth fu) (loops 0 body_impl_ProbeHealth) := by
  have h : loops 0 body_impl_ProbeHealth = [] := by kernel_rfl
  rw [h]; intro p hp; cases hp
def S_impl_ProbeHealth (fu : Nat) (xs : List (D RT den)) : Option (Out RT den) := match xs with | [.agg [.int .i64 a0_1, .bool a0_2, .int .i64 a0_3], .bool a1_0] => some ⟨S_impl_HealthResult, F_impl_ProbeHealth fu (⟨a0_1, a0_2, a0_3⟩ : S_impl_Health) a1_0, enc_impl_HealthResult, fun _ => true⟩ | _ => none
theorem hpc_impl_ProbeHealth (fu : Nat) : ∀ f xs o, pcf_impl_ProbeHealth fu f xs = some o → ∀ y, o.x = some y → Good E Try.prog f xs (o.g y) := by
  intro f xs o h
  unfold pcf_impl_ProbeHealth at h
  split at h
  · exact good_impl_HealthFault fu xs o h
  · exact good_impl_Health_probe fu xs o h
  · cases h
theorem hpx_impl_ProbeHealth (fu : Nat) : ∀ f xs ins o, pcx_impl_ProbeHealth fu f xs ins = some o → ∀ y, o.x = some y → GoodX E Try.prog f xs ins (o.g y).1 (o.g y).2 := by
  intro f xs ins o h
  cases h
theorem goodv_impl_ProbeHealth (fu : Nat) (h_0 : S_impl_Health) (ok_1 : Bool) (y : S_impl_HealthResult) (hy : F_impl_ProbeHealth fu h_0 ok_1 = some y) : Good E Try.prog 7 [(.agg [(.int .i64 h_0.Name), (.bool h_0.Up), (.int .i64 h_0.Run)]), (.bool ok_1)] (enc_impl_HealthResult y) :=
  fun_good E_ok (pc_good (pc := pc_impl_ProbeHealth fu) (hpc_impl_ProbeHealth fu) (hpx_impl_ProbeHealth fu)) (fn := Try.f7) (c := body_impl_ProbeHealth) (out := out_impl_HealthResult) (y := y) (by kernel_rfl) (by kernel_rfl) (by kernel_rfl) (lpok_impl_ProbeHealth fu) (fun d hd => out_impl_HealthResult_enc d _ hd) ((ev_impl_ProbeHealth fu h_0 ok_1).trans hy)
theorem good_impl_ProbeHealth (fu : Nat) : ∀ xs o, S_impl_ProbeHealth fu xs = some o → ∀ y, o.x = some y → Good E Try.prog 7 xs (o.g y) := by
  intro xs o h y hy
  unfold S_impl_ProbeHealth at h
  split at h
  · rename_i a0_1 a0_2 a0_3 a1_0
    cases h
    exact goodv_impl_ProbeHealth fu (⟨a0_1, a0_2, a0_3⟩ : S_impl_Health) a1_0 y hy
  · cases h

/-! spec.l1In -/
def F_spec_l1In (fu : Nat) (v_0 : Int) (low_1 : Int) (high_2 : Int) : Option (Bool) :=
  (((bif (decide (v_0 ≥ low_1)) then (some (decide (v_0 ≤ high_2))) else (some false)) : Option Bool).bind fun m49 => (some m49))
def pcf_spec_l1In (fu : Nat) (f : Nat) (xs : List (D RT den)) : Option (Out RT den) := none
def pcx_spec_l1In (fu : Nat) (f : Nat) (xs : List (D RT den)) (ins : List (Ob RT den)) : Option (OutX RT den) := none
def pc_spec_l1In (fu : Nat) : Pc RT den := ⟨pcf_spec_l1In fu, fun _ => false, fun _ => false, pcx_spec_l1In fu⟩
def msk_spec_l1In (b : Nat) : List Nat := match b with | 200001 => [6] | _ => []
def lp_spec_l1In (fu : Nat) : Lp RT den (Bool) := fun b s k => none
theorem ev_spec_l1In (fu : Nat) (v_0 : Int) (low_1 : Int) (high_2 : Int) : evFun E (pc_spec_l1In fu) msk_spec_l1In (lp_spec_l1In fu) out_bo 30 [(.int .i64 v_0), (.int .i64 low_1), (.int .i64 high_2)] = F_spec_l1In fu v_0 low_1 high_2 := by kernel_rfl
noncomputable def body_spec_l1In : Code := Try.f30.body.getD .skip
theorem lpok_spec_l1In (fu : Nat) : LpOk E (pc_spec_l1In fu) msk_spec_l1In (lp_spec_l1In fu) (loops 0 body_spec_l1In) := by
  have h : loops 0 body_spec_l1In = [] := by kernel_rfl
  rw [h]; intro p hp; cases hp
def S_spec_l1In (fu : Nat) (xs : List (D RT den)) : Option (Out RT den) := match xs with | [.int .i64 a0_0, .int .i64 a1_0, .int .i64 a2_0] => some ⟨Bool, F_spec_l1In fu a0_0 a1_0 a2_0, enc_bo, fun _ => true⟩ | _ => none
theorem hpc_spec_l1In (fu : Nat) : ∀ f xs o, pcf_spec_l1In fu f xs = some o → ∀ y, o.x = some y → Good E Try.prog f xs (o.g y) := by
  intro f xs o h
  cases h
theorem hpx_spec_l1In (fu : Nat) : ∀ f xs ins o, pcx_spec_l1In fu f xs ins = some o → ∀ y, o.x = some y → GoodX E Try.prog f xs ins (o.g y).1 (o.g y).2 := by
  intro f xs ins o h
  cases h
theorem goodv_spec_l1In (fu : Nat) (v_0 : Int) (low_1 : Int) (high_2 : Int) (y : Bool) (hy : F_spec_l1In fu v_0 low_1 high_2 = some y) : Good E Try.prog 30 [(.int .i64 v_0), (.int .i64 low_1), (.int .i64 high_2)] (enc_bo y) :=
  fun_good E_ok (pc_good (pc := pc_spec_l1In fu) (hpc_spec_l1In fu) (hpx_spec_l1In fu)) (fn := Try.f30) (c := body_spec_l1In) (out := out_bo) (y := y) (by kernel_rfl) (by kernel_rfl) (by kernel_rfl) (lpok_spec_l1In fu) (fun d hd => out_bo_enc d _ hd) ((ev_spec_l1In fu v_0 low_1 high_2).trans hy)
theorem good_spec_l1In (fu : Nat) : ∀ xs o, S_spec_l1In fu xs = some o → ∀ y, o.x = some y → Good E Try.prog 30 xs (o.g y) := by
  intro xs o h y hy
  unfold S_spec_l1In at h
  split at h
  · rename_i a0_0 a1_0 a2_0
    cases h
    exact goodv_spec_l1In fu a0_0 a1_0 a2_0 y hy
  · cases h

/-! spec.l3Name -/
def F_spec_l3Name (fu : Nat) (name_0 : Int) : Option (Bool) :=
  ((F_spec_l1In fu name_0 1 999).bind fun y48 => (some y48))
def pcf_spec_l3Name (fu : Nat) (f : Nat) (xs : List (D RT den)) : Option (Out RT den) := match f with | 30 => S_spec_l1In fu xs | _ => none
def pcx_spec_l3Name (fu : Nat) (f : Nat) (xs : List (D RT den)) (ins : List (Ob RT den)) : Option (OutX RT den) := none
def pc_spec_l3Name (fu : Nat) : Pc RT den := ⟨pcf_spec_l3Name fu, fun _ => false, fun _ => false, pcx_spec_l3Name fu⟩
def msk_spec_l3Name (b : Nat) : List Nat := []
def lp_spec_l3Name (fu : Nat) : Lp RT den (Bool) := fun b s k => none
theorem ev_spec_l3Name (fu : Nat) (name_0 : Int) : evFun E (pc_spec_l3Name fu) msk_spec_l3Name (lp_spec_l3Name fu) out_bo 45 [(.int .i64 name_0)] = F_spec_l3Name fu name_0 := by kernel_rfl
noncomputable def body_spec_l3Name : Code := Try.f45.body.getD .skip
theorem lpok_spec_l3Name (fu : Nat) : LpOk E (pc_spec_l3Name fu) msk_spec_l3Name (lp_spec_l3Name fu) (loops 0 body_spec_l3Name) := by
  have h : loops 0 body_spec_l3Name = [] := by kernel_rfl
  rw [h]; intro p hp; cases hp
def S_spec_l3Name (fu : Nat) (xs : List (D RT den)) : Option (Out RT den) := match xs with | [.int .i64 a0_0] => some ⟨Bool, F_spec_l3Name fu a0_0, enc_bo, fun _ => true⟩ | _ => none
theorem hpc_spec_l3Name (fu : Nat) : ∀ f xs o, pcf_spec_l3Name fu f xs = some o → ∀ y, o.x = some y → Good E Try.prog f xs (o.g y) := by
  intro f xs o h
  unfold pcf_spec_l3Name at h
  split at h
  · exact good_spec_l1In fu xs o h
  · cases h
theorem hpx_spec_l3Name (fu : Nat) : ∀ f xs ins o, pcx_spec_l3Name fu f xs ins = some o → ∀ y, o.x = some y → GoodX E Try.prog f xs ins (o.g y).1 (o.g y).2 := by
  intro f xs ins o h
  cases h
theorem goodv_spec_l3Name (fu : Nat) (name_0 : Int) (y : Bool) (hy : F_spec_l3Name fu name_0 = some y) : Good E Try.prog 45 [(.int .i64 name_0)] (enc_bo y) :=
  fun_good E_ok (pc_good (pc := pc_spec_l3Name fu) (hpc_spec_l3Name fu) (hpx_spec_l3Name fu)) (fn := Try.f45) (c := body_spec_l3Name) (out := out_bo) (y := y) (by kernel_rfl) (by kernel_rfl) (by kernel_rfl) (lpok_spec_l3Name fu) (fun d hd => out_bo_enc d _ hd) ((ev_spec_l3Name fu name_0).trans hy)
theorem good_spec_l3Name (fu : Nat) : ∀ xs o, S_spec_l3Name fu xs = some o → ∀ y, o.x = some y → Good E Try.prog 45 xs (o.g y) := by
  intro xs o h y hy
  unfold S_spec_l3Name at h
  split at h
  · rename_i a0_0
    cases h
    exact goodv_spec_l3Name fu a0_0 y hy
  · cases h

/-! spec.HealthFault -/
def F_spec_HealthFault (fu : Nat) (h_0 : S_impl_Health) : Option (Int) :=
  ((((F_spec_l3Name fu h_0.Name).bind fun y44 => (bif (!y44) then (some true) else ((F_spec_l12Bound fu h_0).bind fun y45 => ((F_spec_l1In fu h_0.Run 0 (IntKind.wrap .i64 (y45 - 1))).bind fun y46 =>
    (some (!y46)))))) : Option Bool).bind fun m47 => (bif m47 then (some 3) else (some 0)))
def pcf_spec_HealthFault (fu : Nat) (f : Nat) (xs : List (D RT den)) : Option (Out RT den) := match f with | 30 => S_spec_l1In fu xs | 43 => S_spec_l12Bound fu xs | 45 => S_spec_l3Name fu xs | _ => none
def pcx_spec_HealthFault (fu : Nat) (f : Nat) (xs : List (D RT den)) (ins : List (Ob RT den)) : Option (OutX RT den) := none
def pc_spec_HealthFault (fu : Nat) : Pc RT den := ⟨pcf_spec_HealthFault fu, fun _ => false, fun _ => false, pcx_spec_HealthFault fu⟩
def msk_spec_HealthFault (b : Nat) : List Nat := match b with | 200001 => [15] | _ => []
def lp_spec_HealthFault (fu : Nat) : Lp RT den (Int) := fun b s k => none
theorem ev_spec_HealthFault (fu : Nat) (h_0 : S_impl_Health) : evFun E (pc_spec_HealthFault fu) msk_spec_HealthFault (lp_spec_HealthFault fu) out_i64 24 [(.agg [(.int .i64 h_0.Name), (.bool h_0.Up), (.int .i64 h_0.Run)])] = F_spec_HealthFault fu h_0 := by kernel_rfl
noncomputable def body_spec_HealthFault : Code := Try.f24.body.getD .skip
theorem lpok_spec_HealthFault (fu : Nat) : LpOk E (pc_spec_HealthFault fu) msk_spec_HealthFault (lp_spec_HealthFault fu) (loops 0 body_spec_HealthFault) := by
  have h : loops 0 body_spec_HealthFault = [] := by kernel_rfl
  rw [h]; intro p hp; cases hp
def S_spec_HealthFault (fu : Nat) (xs : List (D RT den)) : Option (Out RT den) := match xs with | [.agg [.int .i64 a0_1, .bool a0_2, .int .i64 a0_3]] => some ⟨Int, F_spec_HealthFault fu (⟨a0_1, a0_2, a0_3⟩ : S_impl_Health), enc_i64, fun _ => true⟩ | _ => none
theorem hpc_spec_HealthFault (fu : Nat) : ∀ f xs o, pcf_spec_HealthFault fu f xs = some o → ∀ y, o.x = some y → Good E Try.prog f xs (o.g y) := by
  intro f xs o h
  unfold pcf_spec_HealthFault at h
  split at h
  · exact good_spec_l1In fu xs o h
  · exact good_spec_l12Bound fu xs o h
  · exact good_spec_l3Name fu xs o h
  · cases h
theorem hpx_spec_HealthFault (fu : Nat) : ∀ f xs ins o, pcx_spec_HealthFault fu f xs ins = some o → ∀ y, o.x = some y → GoodX E Try.prog f xs ins (o.g y).1 (o.g y).2 := by
  intro f xs ins o h
  cases h
theorem goodv_spec_HealthFault (fu : Nat) (h_0 : S_impl_Health) (y : Int) (hy : F_spec_HealthFault fu h_0 = some y) : Good E Try.prog 24 [(.agg [(.int .i64 h_0.Name), (.bool h_0.Up), (.int .i64 h_0.Run)])] (enc_i64 y) :=
  fun_good E_ok (pc_good (pc := pc_spec_HealthFault fu) (hpc_spec_HealthFault fu) (hpx_spec_HealthFault fu)) (fn := Try.f24) (c := body_spec_HealthFault) (out := out_i64) (y := y) (by kernel_rfl) (by kernel_rfl) (by kernel_rfl) (lpok_spec_HealthFault fu) (fun d hd => out_i64_enc d _ hd) ((ev_spec_HealthFault fu h_0).trans hy)
theorem good_spec_HealthFault (fu : Nat) : ∀ xs o, S_spec_HealthFault fu xs = some o → ∀ y, o.x = some y → Good E Try.prog 24 xs (o.g y) := by
  intro xs o h y hy
  unfold S_spec_HealthFault at h
  split at h
  · rename_i a0_1 a0_2 a0_3
    cases h
    exact goodv_spec_HealthFault fu (⟨a0_1, a0_2, a0_3⟩ : S_impl_Health) y hy
  · cases h

/-! spec.l12Probe -/
def F_spec_l12Probe (fu : Nat) (h_0 : S_impl_Health) (ok_1 : Bool) : Option (S_impl_Health × Bool) :=
  (bif (ok_1 == h_0.Up) then (some ((⟨h_0.Name, h_0.Up, 0⟩ : S_impl_Health), false)) else ((F_spec_l12Bound fu h_0).bind fun y50 => (bif ((IntKind.wrap .i64 (h_0.Run + 1)) == y50) then
    (some ((⟨h_0.Name, (!h_0.Up), 0⟩ : S_impl_Health), true)) else (some ((⟨h_0.Name, h_0.Up, (IntKind.wrap .i64 (h_0.Run + 1))⟩ : S_impl_Health), false)))))
def pcf_spec_l12Probe (fu : Nat) (f : Nat) (xs : List (D RT den)) : Option (Out RT den) := match f with | 43 => S_spec_l12Bound fu xs | _ => none
def pcx_spec_l12Probe (fu : Nat) (f : Nat) (xs : List (D RT den)) (ins : List (Ob RT den)) : Option (OutX RT den) := none
def pc_spec_l12Probe (fu : Nat) : Pc RT den := ⟨pcf_spec_l12Probe fu, fun _ => false, fun _ => false, pcx_spec_l12Probe fu⟩
def msk_spec_l12Probe (b : Nat) : List Nat := []
def lp_spec_l12Probe (fu : Nat) : Lp RT den (S_impl_Health × Bool) := fun b s k => none
theorem ev_spec_l12Probe (fu : Nat) (h_0 : S_impl_Health) (ok_1 : Bool) : evFun E (pc_spec_l12Probe fu) msk_spec_l12Probe (lp_spec_l12Probe fu) out_impl_Health_bo 25 [(.agg [(.int .i64 h_0.Name), (.bool h_0.Up), (.int .i64 h_0.Run)]), (.bool ok_1)] = F_spec_l12Probe fu h_0 ok_1 := by kernel_rfl
noncomputable def body_spec_l12Probe : Code := Try.f25.body.getD .skip
theorem lpok_spec_l12Probe (fu : Nat) : LpOk E (pc_spec_l12Probe fu) msk_spec_l12Probe (lp_spec_l12Probe fu) (loops 0 body_spec_l12Probe) := by
  have h : loops 0 body_spec_l12Probe = [] := by kernel_rfl
  rw [h]; intro p hp; cases hp
def S_spec_l12Probe (fu : Nat) (xs : List (D RT den)) : Option (Out RT den) := match xs with | [.agg [.int .i64 a0_1, .bool a0_2, .int .i64 a0_3], .bool a1_0] => some ⟨S_impl_Health × Bool, F_spec_l12Probe fu (⟨a0_1, a0_2, a0_3⟩ : S_impl_Health) a1_0, enc_impl_Health_bo, fun _ => true⟩ | _ => none
theorem hpc_spec_l12Probe (fu : Nat) : ∀ f xs o, pcf_spec_l12Probe fu f xs = some o → ∀ y, o.x = some y → Good E Try.prog f xs (o.g y) := by
  intro f xs o h
  unfold pcf_spec_l12Probe at h
  split at h
  · exact good_spec_l12Bound fu xs o h
  · cases h
theorem hpx_spec_l12Probe (fu : Nat) : ∀ f xs ins o, pcx_spec_l12Probe fu f xs ins = some o → ∀ y, o.x = some y → GoodX E Try.prog f xs ins (o.g y).1 (o.g y).2 := by
  intro f xs ins o h
  cases h
theorem goodv_spec_l12Probe (fu : Nat) (h_0 : S_impl_Health) (ok_1 : Bool) (y : S_impl_Health × Bool) (hy : F_spec_l12Probe fu h_0 ok_1 = some y) : Good E Try.prog 25 [(.agg [(.int .i64 h_0.Name), (.bool h_0.Up), (.int .i64 h_0.Run)]), (.bool ok_1)] (enc_impl_Health_bo y) :=
  fun_good E_ok (pc_good (pc := pc_spec_l12Probe fu) (hpc_spec_l12Probe fu) (hpx_spec_l12Probe fu)) (fn := Try.f25) (c := body_spec_l12Probe) (out := out_impl_Health_bo) (y := y) (by kernel_rfl) (by kernel_rfl) (by kernel_rfl) (lpok_spec_l12Probe fu) (fun d hd => out_impl_Health_bo_enc d _ hd) ((ev_spec_l12Probe fu h_0 ok_1).trans hy)
theorem good_spec_l12Probe (fu : Nat) : ∀ xs o, S_spec_l12Probe fu xs = some o → ∀ y, o.x = some y → Good E Try.prog 25 xs (o.g y) := by
  intro xs o h y hy
  unfold S_spec_l12Probe at h
  split at h
  · rename_i a0_1 a0_2 a0_3 a1_0
    cases h
    exact goodv_spec_l12Probe fu (⟨a0_1, a0_2, a0_3⟩ : S_impl_Health) a1_0 y hy
  · cases h

/-! spec.ProbeHealth -/
def F_spec_ProbeHealth (fu : Nat) (h_0 : S_impl_Health) (ok_1 : Bool) : Option (S_impl_HealthResult) :=
  ((F_spec_HealthFault fu h_0).bind fun y42 => (bif (y42 != 0) then (some (⟨y42, false, (⟨0, false, 0⟩ : S_impl_Health)⟩ : S_impl_HealthResult)) else ((F_spec_l12Probe fu h_0 ok_1).bind fun y43 =>
    (some (⟨0, y43.2, y43.1⟩ : S_impl_HealthResult)))))
def pcf_spec_ProbeHealth (fu : Nat) (f : Nat) (xs : List (D RT den)) : Option (Out RT den) := match f with | 24 => S_spec_HealthFault fu xs | 25 => S_spec_l12Probe fu xs | _ => none
def pcx_spec_ProbeHealth (fu : Nat) (f : Nat) (xs : List (D RT den)) (ins : List (Ob RT den)) : Option (OutX RT den) := none
def pc_spec_ProbeHealth (fu : Nat) : Pc RT den := ⟨pcf_spec_ProbeHealth fu, fun _ => false, fun _ => false, pcx_spec_ProbeHealth fu⟩
def msk_spec_ProbeHealth (b : Nat) : List Nat := []
def lp_spec_ProbeHealth (fu : Nat) : Lp RT den (S_impl_HealthResult) := fun b s k => none
theorem ev_spec_ProbeHealth (fu : Nat) (h_0 : S_impl_Health) (ok_1 : Bool) : evFun E (pc_spec_ProbeHealth fu) msk_spec_ProbeHealth (lp_spec_ProbeHealth fu) out_impl_HealthResult 8 [(.agg [(.int .i64 h_0.Name), (.bool h_0.Up), (.int .i64 h_0.Run)]), (.bool ok_1)] = F_spec_ProbeHealth fu h_0 ok_1 := by kernel_rfl
noncomputable def body_spec_ProbeHealth : Code := Try.f8.body.getD .skip
theorem lpok_spec_ProbeHealth (fu : Nat) : LpOk E (pc_spec_ProbeHealth fu) msk_spec_ProbeHealth (lp_spec_ProbeHealth fu) (loops 0 body_spec_ProbeHealth) := by
  have h : loops 0 body_spec_ProbeHealth = [] := by kernel_rfl
  rw [h]; intro p hp; cases hp
def S_spec_ProbeHealth (fu : Nat) (xs : List (D RT den)) : Option (Out RT den) := match xs with | [.agg [.int .i64 a0_1, .bool a0_2, .int .i64 a0_3], .bool a1_0] => some ⟨S_impl_HealthResult, F_spec_ProbeHealth fu (⟨a0_1, a0_2, a0_3⟩ : S_impl_Health) a1_0, enc_impl_HealthResult, fun _ => true⟩ | _ => none
theorem hpc_spec_ProbeHealth (fu : Nat) : ∀ f xs o, pcf_spec_ProbeHealth fu f xs = some o → ∀ y, o.x = some y → Good E Try.prog f xs (o.g y) := by
  intro f xs o h
  unfold pcf_spec_ProbeHealth at h
  split at h
  · exact good_spec_HealthFault fu xs o h
  · exact good_spec_l12Probe fu xs o h
  · cases h
theorem hpx_spec_ProbeHealth (fu : Nat) : ∀ f xs ins o, pcx_spec_ProbeHealth fu f xs ins = some o → ∀ y, o.x = some y → GoodX E Try.prog f xs ins (o.g y).1 (o.g y).2 := by
  intro f xs ins o h
  cases h
theorem goodv_spec_ProbeHealth (fu : Nat) (h_0 : S_impl_Health) (ok_1 : Bool) (y : S_impl_HealthResult) (hy : F_spec_ProbeHealth fu h_0 ok_1 = some y) : Good E Try.prog 8 [(.agg [(.int .i64 h_0.Name), (.bool h_0.Up), (.int .i64 h_0.Run)]), (.bool ok_1)] (enc_impl_HealthResult y) :=
  fun_good E_ok (pc_good (pc := pc_spec_ProbeHealth fu) (hpc_spec_ProbeHealth fu) (hpx_spec_ProbeHealth fu)) (fn := Try.f8) (c := body_spec_ProbeHealth) (out := out_impl_HealthResult) (y := y) (by kernel_rfl) (by kernel_rfl) (by kernel_rfl) (lpok_spec_ProbeHealth fu) (fun d hd => out_impl_HealthResult_enc d _ hd) ((ev_spec_ProbeHealth fu h_0 ok_1).trans hy)
theorem good_spec_ProbeHealth (fu : Nat) : ∀ xs o, S_spec_ProbeHealth fu xs = some o → ∀ y, o.x = some y → Good E Try.prog 8 xs (o.g y) := by
  intro xs o h y hy
  unfold S_spec_ProbeHealth at h
  split at h
  · rename_i a0_1 a0_2 a0_3 a1_0
    cases h
    exact goodv_spec_ProbeHealth fu (⟨a0_1, a0_2, a0_3⟩ : S_impl_Health) a1_0 y hy
  · cases h

/-! impl.ProbeMany -/
def F_impl_ProbeMany_B0 {ρ : Type} (fu : Nat) (t23_0 : (Sl Bool)) (t24_1 : Int) (o0_3 : Int) (o0_4 : Bool) (o0_5 : Int) (o0_6 : Bool) (o0_7 : Int) (o1_8 : Int) (o1_9 : Bool) (o1_10 : Int) (k0 : Int → Bool → Int → Option ρ) (t25_2 : Int) (o2_11 : Int) (o2_12 : Bool) (o2_13 : Int) (go : Int → Int → Bool → Int → Option ρ) : Option ρ :=
  (bif (decide (t25_2 < t24_1)) then ((bif (decide (0 ≤ t25_2) && decide ((Int.toNat t25_2) < t23_0.n)) then some () else none : Option Unit).bind fun _ => ((F_impl_Health_probe fu (⟨o2_11,
    o2_12, o2_13⟩ : S_impl_Health) (t23_0.f (Int.toNat t25_2))).bind fun y53 => (go (IntKind.wrap .i64 (t25_2 + 1)) y53.1.Name y53.1.Up y53.1.Run))) else (k0 o2_11 o2_12 o2_13))
def F_impl_ProbeMany (fu : Nat) (h_0 : S_impl_Health) (list_1 : (Sl Bool)) : Option (S_impl_HealthResult) :=
  ((F_impl_HealthFault fu h_0).bind fun y51 => (((bif (y51 == 0) then (some (decide (((list_1.n : Nat) : Int) > 100))) else (some false)) : Option Bool).bind fun m52 => (bif m52 then
    (some (⟨2, false, (⟨0, false, 0⟩ : S_impl_Health)⟩ : S_impl_HealthResult)) else (bif (y51 != 0) then (some (⟨y51, false, (⟨0, false, 0⟩ : S_impl_Health)⟩ : S_impl_HealthResult)) else
    (L (fun w0 go0 => F_impl_ProbeMany_B0 fu list_1 ((list_1.n : Nat) : Int) 0 false 0 false 0 h_0.Name h_0.Up h_0.Run (fun z54 z55 z56 => (some (⟨0, (!(z55 == h_0.Up)), (⟨z54, z55,
    z56⟩ : S_impl_Health)⟩ : S_impl_HealthResult))) w0.1 w0.2.1 w0.2.2.1 w0.2.2.2 (fun q0 q1 q2 q3 => go0 (q0, q1, q2, q3))) fu ((0, h_0.Name, h_0.Up, h_0.Run) : Int × Int × Bool × Int))))))
def pcf_impl_ProbeMany (fu : Nat) (f : Nat) (xs : List (D RT den)) : Option (Out RT den) := match f with | 10 => S_impl_HealthFault fu xs | 23 => S_impl_Health_probe fu xs | _ => none
def pcx_impl_ProbeMany (fu : Nat) (f : Nat) (xs : List (D RT den)) (ins : List (Ob RT den)) : Option (OutX RT den) := none
def pc_impl_ProbeMany (fu : Nat) : Pc RT den := ⟨pcf_impl_ProbeMany fu, fun _ => false, fun _ => false, pcx_impl_ProbeMany fu⟩
def msk_impl_ProbeMany (b : Nat) : List Nat := match b with | 0 => [0, 1, 3, 5, 7, 8, 9, 10, 11, 12, 13, 14, 15, 16, 17, 18, 19, 20, 21, 22, 26, 27, 28, 29, 30, 31, 32, 33, 34, 35, 36, 37, 38, 39, 40, 41, 42] | 100000 => [0, 1, 3, 5, 7, 8, 9, 10, 11, 12, 13, 14, 15, 16, 17, 18, 19, 20, 21, 22, 23, 24, 25, 26, 27, 28, 29, 30, 31, 32, 33, 34, 35, 36, 37, 38, 39, 40, 41, 42] | 200002 => [17] | _ => []
def ps_impl_ProbeMany_0 : List (Pat RT) := [.flat .dead, .flat .dead, .flat (.ref 1 0), .flat .dead, .flat (.ref 0 0), .flat .dead, .flat (.ref 2 0), .flat .dead, .flat .dead, .flat .dead, .flat .dead, .flat .dead, .flat .dead, .flat .dead, .flat .dead, .flat .dead, .flat .dead, .flat .dead, .flat .dead, .flat .dead, .flat .dead, .flat .dead, .flat .dead, .flat (.rs .bo), .flat (.int .i64), .flat (.int .i64), .flat .dead, .flat .dead, .flat .dead, .flat .dead, .flat .dead, .flat .dead, .flat .dead, .flat .dead, .flat .dead, .flat .dead, .flat .dead, .flat .dead, .flat .dead, .flat .dead, .flat .dead, .flat .dead, .flat .dead]
def os_impl_ProbeMany_0 : List (OP RT) := [.box false [(.int .i64), .bool, (.int .i64), .bool, (.int .i64)], .box false [(.int .i64), .bool, (.int .i64)], .box false [(.int .i64), .bool, (.int .i64)]]
def conv_impl_ProbeMany_0 (r : Raw den ps_impl_ProbeMany_0 os_impl_ProbeMany_0) : ((Sl Bool) × Int × Int × Bool × Int × Bool × Int × Int × Bool × Int) × (Int × Int × Bool × Int) := ((r.1.2.2.2.2.2.2.2.2.2.2.2.2.2.2.2.2.2.2.2.2.2.2.2.1, r.1.2.2.2.2.2.2.2.2.2.2.2.2.2.2.2.2.2.2.2.2.2.2.2.2.1, r.2.1.1, r.2.1.2.1, r.2.1.2.2.1, r.2.1.2.2.2.1, r.2.1.2.2.2.2.1, r.2.2.1.1, r.2.2.1.2.1, r.2.2.1.2.2.1), (r.1.2.2.2.2.2.2.2.2.2.2.2.2.2.2.2.2.2.2.2.2.2.2.2.2.2.1, r.2.2.2.1.1, r.2.2.2.1.2.1, r.2.2.2.1.2.2.1))
def back_impl_ProbeMany_0 (c : (Sl Bool) × Int × Int × Bool × Int × Bool × Int × Int × Bool × Int) (w : Int × Int × Bool × Int) : St RT den := ⟨[.dead, .dead, (.ref 1 0), .dead, (.ref 0 0), .dead, (.ref 2 0), .dead, .dead, .dead, .dead, .dead, .dead, .dead, .dead, .dead, .dead, .dead, .dead, .dead, .dead, .dead, .dead, (.rs c.1.z .bo c.1.n c.1.f), (.int .i64 c.2.1), (.int .i64 w.1), .dead, .dead, .dead, .dead, .dead, .dead, .dead, .dead, .dead, .dead, .dead, .dead, .dead, .dead, .dead, .dead, .dead], [(.box false [(.int .i64 c.2.2.1), (.bool c.2.2.2.1), (.int .i64 c.2.2.2.2.1), (.bool c.2.2.2.2.2.1), (.int .i64 c.2.2.2.2.2.2.1)]), (.box false [(.int .i64 c.2.2.2.2.2.2.2.1), (.bool c.2.2.2.2.2.2.2.2.1), (.int .i64 c.2.2.2.2.2.2.2.2.2)]), (.box false [(.int .i64 w.2.1), (.bool w.2.2.1), (.int .i64 w.2.2.2)])]⟩
def Bk_impl_ProbeMany_0 {ρ : Type} (fu : Nat) (c : (Sl Bool) × Int × Int × Bool × Int × Bool × Int × Int × Bool × Int) (k : Ex → St RT den → Option ρ) (w : Int × Int × Bool × Int) (go : (Int × Int × Bool × Int) → Option ρ) : Option ρ := F_impl_ProbeMany_B0 fu c.1 c.2.1 c.2.2.1 c.2.2.2.1 c.2.2.2.2.1 c.2.2.2.2.2.1 c.2.2.2.2.2.2.1 c.2.2.2.2.2.2.2.1 c.2.2.2.2.2.2.2.2.1 c.2.2.2.2.2.2.2.2.2 (fun a0 a1 a2 => k (.exit 0) ⟨[.dead, .dead, (.ref 1 0), .dead, (.ref 0 0), .dead, (.ref 2 0), .dead, .dead, .dead, .dead, .dead, .dead, .dead, .dead, .dead, .dead, .dead, .dead, .dead, .dead, .dead, .dead, .dead, .dead, .dead, .dead, .dead, .dead, .dead, .dead, .dead, .dead, .dead, .dead, .dead, .dead, .dead, .dead, .dead, .dead, .dead, .dead], [(.box false [(.int .i64 c.2.2.1), (.bool c.2.2.2.1), (.int .i64 c.2.2.2.2.1), (.bool c.2.2.2.2.2.1), (.int .i64 c.2.2.2.2.2.2.1)]), (.box false [(.int .i64 c.2.2.2.2.2.2.2.1), (.bool c.2.2.2.2.2.2.2.2.1), (.int .i64 c.2.2.2.2.2.2.2.2.2)]), (.box false [(.int .i64 a0), (.bool a1), (.int .i64 a2)])]⟩) w.1 w.2.1 w.2.2.1 w.2.2.2 (fun q0 q1 q2 q3 => go (q0, q1, q2, q3))
def lp_impl_ProbeMany (fu : Nat) : Lp RT den (S_impl_HealthResult) := fun b s k => match b with | 0 => handle ps_impl_ProbeMany_0 os_impl_ProbeMany_0 conv_impl_ProbeMany_0 (Bk_impl_ProbeMany_0 fu) fu s k | _ => none
theorem ev_impl_ProbeMany (fu : Nat) (h_0 : S_impl_Health) (list_1 : (Sl Bool)) : evFun E (pc_impl_ProbeMany fu) msk_impl_ProbeMany (lp_impl_ProbeMany fu) out_impl_HealthResult 9 [(.agg [(.int .i64 h_0.Name), (.bool h_0.Up), (.int .i64 h_0.Run)]), (.rs list_1.z .bo list_1.n list_1.f)] = F_impl_ProbeMany fu h_0 list_1 := by kernel_rfl
noncomputable def body_impl_ProbeMany : Code := Try.f9.body.getD .skip
noncomputable def lc_impl_ProbeMany_0 : Code := ((loops 0 body_impl_ProbeMany).getD 0 (0, .skip)).2
theorem round_impl_ProbeMany_0 (fu : Nat) (it : St RT den → Option (S_impl_HealthResult)) (k : Ex → St RT den → Option (S_impl_HealthResult)) c w : evCode E (pc_impl_ProbeMany fu) msk_impl_ProbeMany (lp_impl_ProbeMany fu) 0 lc_impl_ProbeMany_0 (back_impl_ProbeMany_0 c w) (after (msk_impl_ProbeMany 0) (msk_impl_ProbeMany 100000) 3 it k) = Bk_impl_ProbeMany_0 fu c k w (fun w => it (back_impl_ProbeMany_0 c w)) := by kernel_rfl
theorem lpok_impl_ProbeMany_0 (fu : Nat) : ∀ s k r, lp_impl_ProbeMany fu 0 s k = some r → ∃ fuel, iter (msk_impl_ProbeMany 0) (msk_impl_ProbeMany 100000) s.objs.length (evCode E (pc_impl_ProbeMany fu) msk_impl_ProbeMany (lp_impl_ProbeMany fu) 0 lc_impl_ProbeMany_0) fuel s k = some r :=
  handle_ok (ps := ps_impl_ProbeMany_0) (os := os_impl_ProbeMany_0) (conv := conv_impl_ProbeMany_0) (B := Bk_impl_ProbeMany_0 fu) (fu := fu) back_impl_ProbeMany_0 (fun raw => by kernel_rfl) 3 (fun c w => by kernel_rfl) (round_impl_ProbeMany_0 fu)
theorem lpok_impl_ProbeMany (fu : Nat) : LpOk E (pc_impl_ProbeMany fu) msk_impl_ProbeMany (lp_impl_ProbeMany fu) (loops 0 body_impl_ProbeMany) := loop_all 1 (by kernel_rfl) fun i hi => match i, hi with
  | 0, _ => by
    have h : (loops 0 body_impl_ProbeMany).getD 0 (0, .skip) = (0, lc_impl_ProbeMany_0) := by kernel_rfl
    rw [h]; exact lpok_impl_ProbeMany_0 fu
  | i + 1, hi => absurd hi (by omega)
def S_impl_ProbeMany (fu : Nat) (xs : List (D RT den)) : Option (Out RT den) := match xs with | [.agg [.int .i64 a0_1, .bool a0_2, .int .i64 a0_3], .rs za1_0 .bo na1_0 fa1_0] => some ⟨S_impl_HealthResult, F_impl_ProbeMany fu (⟨a0_1, a0_2, a0_3⟩ : S_impl_Health) (⟨za1_0, na1_0, fa1_0⟩ : (Sl Bool)), enc_impl_HealthResult, fun _ => true⟩ | _ => none
theorem hpc_impl_ProbeMany (fu : Nat) : ∀ f xs o, pcf_impl_ProbeMany fu f xs = some o → ∀ y, o.x = some y → Good E Try.prog f xs (o.g y) := by
  intro f xs o h
  unfold pcf_impl_ProbeMany at h
  split at h
  · exact good_impl_HealthFault fu xs o h
  · exact good_impl_Health_probe fu xs o h
  · cases h
theorem hpx_impl_ProbeMany (fu : Nat) : ∀ f xs ins o, pcx_impl_ProbeMany fu f xs ins = some o → ∀ y, o.x = some y → GoodX E Try.prog f xs ins (o.g y).1 (o.g y).2 := by
  intro f xs ins o h
  cases h
theorem goodv_impl_ProbeMany (fu : Nat) (h_0 : S_impl_Health) (list_1 : (Sl Bool)) (y : S_impl_HealthResult) (hy : F_impl_ProbeMany fu h_0 list_1 = some y) : Good E Try.prog 9 [(.agg [(.int .i64 h_0.Name), (.bool h_0.Up), (.int .i64 h_0.Run)]), (.rs list_1.z .bo list_1.n list_1.f)] (enc_impl_HealthResult y) :=
  fun_good E_ok (pc_good (pc := pc_impl_ProbeMany fu) (hpc_impl_ProbeMany fu) (hpx_impl_ProbeMany fu)) (fn := Try.f9) (c := body_impl_ProbeMany) (out := out_impl_HealthResult) (y := y) (by kernel_rfl) (by kernel_rfl) (by kernel_rfl) (lpok_impl_ProbeMany fu) (fun d hd => out_impl_HealthResult_enc d _ hd) ((ev_impl_ProbeMany fu h_0 list_1).trans hy)
theorem good_impl_ProbeMany (fu : Nat) : ∀ xs o, S_impl_ProbeMany fu xs = some o → ∀ y, o.x = some y → Good E Try.prog 9 xs (o.g y) := by
  intro xs o h y hy
  unfold S_impl_ProbeMany at h
  split at h
  · rename_i a0_1 a0_2 a0_3 za1_0 na1_0 fa1_0
    cases h
    exact goodv_impl_ProbeMany fu (⟨a0_1, a0_2, a0_3⟩ : S_impl_Health) (⟨za1_0, na1_0, fa1_0⟩ : (Sl Bool)) y hy
  · cases h

/-! laws.FnHealths -/
def F_laws_FnHealths (fu : Nat) (code_0 : (Sl Int)) : Option (Bool) :=
  ((F_laws_lwBig fu code_0).bind fun y1 => (bif y1 then (some true) else ((F_spec_DrawProbeHealth fu code_0).bind fun y2 => ((F_impl_ProbeHealth fu y2.1 y2.2).bind fun y3 => (bif (y3.Code != 0) then
    ((F_spec_ProbeHealth fu y2.1 y2.2).bind fun y4 => (some (y4.Code == y3.Code))) else ((F_impl_ProbeMany fu y2.1 (⟨(some false), 3, (fun i => [y2.2, y2.2, y2.2].getD i (dflt .bo))⟩ : (Sl Bool))).bind fun y5 =>
    ((F_impl_ProbeHealth fu y3.Health (!y2.2)).bind fun y6 => ((((F_impl_HealthFault fu y3.Health).bind fun y7 => (bif (y7 == 0) then (bif (y3.Turned == (!(y3.Health.Up == y2.1.Up))) then
    (bif (!y3.Turned) then (bif (y5.Code == 0) then (bif (y5.Health.Up == y2.2) then (bif (y5.Health.Run == 0) then (bif (y6.Code == 0) then (bif y3.Turned then (some true) else
    (bif (!(y2.1.Up == y2.2)) then (some true) else (some (!y6.Turned)))) else (some false)) else (some false)) else (some false)) else (some false)) else (bif (decide (y2.1.Run > 0)) then
    (bif (y5.Code == 0) then (bif (y5.Health.Up == y2.2) then (bif (y5.Health.Run == 0) then (bif (y6.Code == 0) then (bif y3.Turned then (some true) else (bif (!(y2.1.Up == y2.2)) then
    (some true) else (some (!y6.Turned)))) else (some false)) else (some false)) else (some false)) else (some false)) else (some false))) else (some false)) else (some false))) : Option Bool).bind fun m8 =>
    (some m8)))))))))
def pcf_laws_FnHealths (fu : Nat) (f : Nat) (xs : List (D RT den)) : Option (Out RT den) := match f with | 5 => S_laws_lwBig fu xs | 6 => S_spec_DrawProbeHealth fu xs | 7 => S_impl_ProbeHealth fu xs | 8 => S_spec_ProbeHealth fu xs | 9 => S_impl_ProbeMany fu xs | 10 => S_impl_HealthFault fu xs | _ => none
def pcx_laws_FnHealths (fu : Nat) (f : Nat) (xs : List (D RT den)) (ins : List (Ob RT den)) : Option (OutX RT den) := none
def pc_laws_FnHealths (fu : Nat) : Pc RT den := ⟨pcf_laws_FnHealths fu, fun _ => false, fun _ => false, pcx_laws_FnHealths fu⟩
def msk_laws_FnHealths (b : Nat) : List Nat := match b with | 200009 => [2] | _ => []
def lp_laws_FnHealths (fu : Nat) : Lp RT den (Bool) := fun b s k => none
theorem ev_laws_FnHealths (fu : Nat) (code_0 : (Sl Int)) : evFun E (pc_laws_FnHealths fu) msk_laws_FnHealths (lp_laws_FnHealths fu) out_bo 3 [(.rs code_0.z .u8 code_0.n code_0.f)] = F_laws_FnHealths fu code_0 := by kernel_rfl
noncomputable def body_laws_FnHealths : Code := Try.f3.body.getD .skip
theorem lpok_laws_FnHealths (fu : Nat) : LpOk E (pc_laws_FnHealths fu) msk_laws_FnHealths (lp_laws_FnHealths fu) (loops 0 body_laws_FnHealths) := by
  have h : loops 0 body_laws_FnHealths = [] := by kernel_rfl
  rw [h]; intro p hp; cases hp
def S_laws_FnHealths (fu : Nat) (xs : List (D RT den)) : Option (Out RT den) := match xs with | [.rs za0_0 .u8 na0_0 fa0_0] => some ⟨Bool, F_laws_FnHealths fu (⟨za0_0, na0_0, fa0_0⟩ : (Sl Int)), enc_bo, fun _ => true⟩ | _ => none
theorem hpc_laws_FnHealths (fu : Nat) : ∀ f xs o, pcf_laws_FnHealths fu f xs = some o → ∀ y, o.x = some y → Good E Try.prog f xs (o.g y) := by
  intro f xs o h
  unfold pcf_laws_FnHealths at h
  split at h
  · exact good_laws_lwBig fu xs o h
  · exact good_spec_DrawProbeHealth fu xs o h
  · exact good_impl_ProbeHealth fu xs o h
  · exact good_spec_ProbeHealth fu xs o h
  · exact good_impl_ProbeMany fu xs o h
  · exact good_impl_HealthFault fu xs o h
  · cases h
theorem hpx_laws_FnHealths (fu : Nat) : ∀ f xs ins o, pcx_laws_FnHealths fu f xs ins = some o → ∀ y, o.x = some y → GoodX E Try.prog f xs ins (o.g y).1 (o.g y).2 := by
  intro f xs ins o h
  cases h
theorem goodv_laws_FnHealths (fu : Nat) (code_0 : (Sl Int)) (y : Bool) (hy : F_laws_FnHealths fu code_0 = some y) : Good E Try.prog 3 [(.rs code_0.z .u8 code_0.n code_0.f)] (enc_bo y) :=
  fun_good E_ok (pc_good (pc := pc_laws_FnHealths fu) (hpc_laws_FnHealths fu) (hpx_laws_FnHealths fu)) (fn := Try.f3) (c := body_laws_FnHealths) (out := out_bo) (y := y) (by kernel_rfl) (by kernel_rfl) (by kernel_rfl) (lpok_laws_FnHealths fu) (fun d hd => out_bo_enc d _ hd) ((ev_laws_FnHealths fu code_0).trans hy)
theorem good_laws_FnHealths (fu : Nat) : ∀ xs o, S_laws_FnHealths fu xs = some o → ∀ y, o.x = some y → Good E Try.prog 3 xs (o.g y) := by
  intro xs o h y hy
  unfold S_laws_FnHealths at h
  split at h
  · rename_i za0_0 na0_0 fa0_0
    cases h
    exact goodv_laws_FnHealths fu (⟨za0_0, na0_0, fa0_0⟩ : (Sl Int)) y hy
  · cases h
end Go.Proofs.Ytokpamekcpbkaaa.Pc
