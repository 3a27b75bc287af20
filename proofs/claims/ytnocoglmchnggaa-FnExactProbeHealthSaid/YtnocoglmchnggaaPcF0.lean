/- The functions' evaluated forms, each a proved summary. Conditions: none. -/
import Derived.Test.YtnocoglmchnggaaPcT
namespace Go.Proofs.Ytnocoglmchnggaa.Pc
open Go Go.RowKit Go.Proofs Vm
set_option linter.unusedVariables false
set_option linter.unusedSimpArgs false
set_option maxRecDepth 100000
/-! laws.toHealth -/
def F_laws_toHealth (fu : Nat) (a_0 : S_impl_Health) : Option (S_impl_Health) :=
  (some a_0)
def pc_laws_toHealth (fu : Nat) : Pc RT den := fun f xs => none
def msk_laws_toHealth (b : Nat) : List Nat := []
def lp_laws_toHealth (fu : Nat) : Lp RT den (S_impl_Health) := fun b s k => none
theorem ev_laws_toHealth (fu : Nat) (a_0 : S_impl_Health) : evFun E (pc_laws_toHealth fu) msk_laws_toHealth (lp_laws_toHealth fu) out_impl_Health 10 [(.agg [(.int .i64 a_0.Name), (.bool a_0.Up), (.int .i64 a_0.Run)])] = F_laws_toHealth fu a_0 := by kernel_rfl
noncomputable def body_laws_toHealth : Code := Try.f10.body.getD .skip
theorem lpok_laws_toHealth (fu : Nat) : LpOk E (pc_laws_toHealth fu) msk_laws_toHealth (lp_laws_toHealth fu) (loops 0 body_laws_toHealth) := by
  have h : loops 0 body_laws_toHealth = [] := by kernel_rfl
  rw [h]; intro p hp; cases hp
def S_laws_toHealth (fu : Nat) (xs : List (D RT den)) : Option (Out RT den) := match xs with | [.agg [.int .i64 a0_1, .bool a0_2, .int .i64 a0_3]] => some ⟨S_impl_Health, F_laws_toHealth fu (⟨a0_1, a0_2, a0_3⟩ : S_impl_Health), enc_impl_Health, fun _ => true⟩ | _ => none
theorem hpc_laws_toHealth (fu : Nat) : ∀ f xs o, pc_laws_toHealth fu f xs = some o → ∀ y, o.x = some y → Good E Try.prog f xs (o.g y) := by
  intro f xs o h
  cases h
theorem goodv_laws_toHealth (fu : Nat) (a_0 : S_impl_Health) (y : S_impl_Health) (hy : F_laws_toHealth fu a_0 = some y) : Good E Try.prog 10 [(.agg [(.int .i64 a_0.Name), (.bool a_0.Up), (.int .i64 a_0.Run)])] (enc_impl_Health y) :=
  fun_good E_ok (pc_good (hpc_laws_toHealth fu)) (fn := Try.f10) (c := body_laws_toHealth) (out := out_impl_Health) (y := y) (by kernel_rfl) (by kernel_rfl) (by kernel_rfl) (lpok_laws_toHealth fu) (fun d hd => out_impl_Health_enc d _ hd) ((ev_laws_toHealth fu a_0).trans hy)
theorem good_laws_toHealth (fu : Nat) : ∀ xs o, S_laws_toHealth fu xs = some o → ∀ y, o.x = some y → Good E Try.prog 10 xs (o.g y) := by
  intro xs o h y hy
  unfold S_laws_toHealth at h
  split at h
  · rename_i a0_1 a0_2 a0_3
    cases h
    exact goodv_laws_toHealth fu (⟨a0_1, a0_2, a0_3⟩ : S_impl_Health) y hy
  · cases h

/-! spec.l1In -/
def F_spec_l1In (fu : Nat) (v_0 : Int) (low_1 : Int) (high_2 : Int) : Option (Bool) :=
  (((bif (decide (v_0 ≥ low_1)) then (some (decide (v_0 ≤ high_2))) else (some false)) : Option Bool).bind fun m13 => (some m13))
def pc_spec_l1In (fu : Nat) : Pc RT den := fun f xs => none
def msk_spec_l1In (b : Nat) : List Nat := match b with | 200001 => [6] | _ => []
def lp_spec_l1In (fu : Nat) : Lp RT den (Bool) := fun b s k => none
theorem ev_spec_l1In (fu : Nat) (v_0 : Int) (low_1 : Int) (high_2 : Int) : evFun E (pc_spec_l1In fu) msk_spec_l1In (lp_spec_l1In fu) out_bo 47 [(.int .i64 v_0), (.int .i64 low_1), (.int .i64 high_2)] = F_spec_l1In fu v_0 low_1 high_2 := by kernel_rfl
noncomputable def body_spec_l1In : Code := Try.f47.body.getD .skip
theorem lpok_spec_l1In (fu : Nat) : LpOk E (pc_spec_l1In fu) msk_spec_l1In (lp_spec_l1In fu) (loops 0 body_spec_l1In) := by
  have h : loops 0 body_spec_l1In = [] := by kernel_rfl
  rw [h]; intro p hp; cases hp
def S_spec_l1In (fu : Nat) (xs : List (D RT den)) : Option (Out RT den) := match xs with | [.int .i64 a0_0, .int .i64 a1_0, .int .i64 a2_0] => some ⟨Bool, F_spec_l1In fu a0_0 a1_0 a2_0, enc_bo, fun _ => true⟩ | _ => none
theorem hpc_spec_l1In (fu : Nat) : ∀ f xs o, pc_spec_l1In fu f xs = some o → ∀ y, o.x = some y → Good E Try.prog f xs (o.g y) := by
  intro f xs o h
  cases h
theorem goodv_spec_l1In (fu : Nat) (v_0 : Int) (low_1 : Int) (high_2 : Int) (y : Bool) (hy : F_spec_l1In fu v_0 low_1 high_2 = some y) : Good E Try.prog 47 [(.int .i64 v_0), (.int .i64 low_1), (.int .i64 high_2)] (enc_bo y) :=
  fun_good E_ok (pc_good (hpc_spec_l1In fu)) (fn := Try.f47) (c := body_spec_l1In) (out := out_bo) (y := y) (by kernel_rfl) (by kernel_rfl) (by kernel_rfl) (lpok_spec_l1In fu) (fun d hd => out_bo_enc d _ hd) ((ev_spec_l1In fu v_0 low_1 high_2).trans hy)
theorem good_spec_l1In (fu : Nat) : ∀ xs o, S_spec_l1In fu xs = some o → ∀ y, o.x = some y → Good E Try.prog 47 xs (o.g y) := by
  intro xs o h y hy
  unfold S_spec_l1In at h
  split at h
  · rename_i a0_0 a1_0 a2_0
    cases h
    exact goodv_spec_l1In fu a0_0 a1_0 a2_0 y hy
  · cases h

/-! spec.l3Name -/
def F_spec_l3Name (fu : Nat) (name_0 : Int) : Option (Bool) :=
  ((F_spec_l1In fu name_0 1 999).bind fun y12 => (some y12))
def pc_spec_l3Name (fu : Nat) : Pc RT den := fun f xs => match f with | 47 => S_spec_l1In fu xs | _ => none
def msk_spec_l3Name (b : Nat) : List Nat := []
def lp_spec_l3Name (fu : Nat) : Lp RT den (Bool) := fun b s k => none
theorem ev_spec_l3Name (fu : Nat) (name_0 : Int) : evFun E (pc_spec_l3Name fu) msk_spec_l3Name (lp_spec_l3Name fu) out_bo 46 [(.int .i64 name_0)] = F_spec_l3Name fu name_0 := by kernel_rfl
noncomputable def body_spec_l3Name : Code := Try.f46.body.getD .skip
theorem lpok_spec_l3Name (fu : Nat) : LpOk E (pc_spec_l3Name fu) msk_spec_l3Name (lp_spec_l3Name fu) (loops 0 body_spec_l3Name) := by
  have h : loops 0 body_spec_l3Name = [] := by kernel_rfl
  rw [h]; intro p hp; cases hp
def S_spec_l3Name (fu : Nat) (xs : List (D RT den)) : Option (Out RT den) := match xs with | [.int .i64 a0_0] => some ⟨Bool, F_spec_l3Name fu a0_0, enc_bo, fun _ => true⟩ | _ => none
theorem hpc_spec_l3Name (fu : Nat) : ∀ f xs o, pc_spec_l3Name fu f xs = some o → ∀ y, o.x = some y → Good E Try.prog f xs (o.g y) := by
  intro f xs o h
  unfold pc_spec_l3Name at h
  split at h
  · exact good_spec_l1In fu xs o h
  · cases h
theorem goodv_spec_l3Name (fu : Nat) (name_0 : Int) (y : Bool) (hy : F_spec_l3Name fu name_0 = some y) : Good E Try.prog 46 [(.int .i64 name_0)] (enc_bo y) :=
  fun_good E_ok (pc_good (hpc_spec_l3Name fu)) (fn := Try.f46) (c := body_spec_l3Name) (out := out_bo) (y := y) (by kernel_rfl) (by kernel_rfl) (by kernel_rfl) (lpok_spec_l3Name fu) (fun d hd => out_bo_enc d _ hd) ((ev_spec_l3Name fu name_0).trans hy)
theorem good_spec_l3Name (fu : Nat) : ∀ xs o, S_spec_l3Name fu xs = some o → ∀ y, o.x = some y → Good E Try.prog 46 xs (o.g y) := by
  intro xs o h y hy
  unfold S_spec_l3Name at h
  split at h
  · rename_i a0_0
    cases h
    exact goodv_spec_l3Name fu a0_0 y hy
  · cases h

/-! spec.l12Bound -/
def F_spec_l12Bound (fu : Nat) (h_0 : S_impl_Health) : Option (Int) :=
  (bif h_0.Up then (some 3) else (some 2))
def pc_spec_l12Bound (fu : Nat) : Pc RT den := fun f xs => none
def msk_spec_l12Bound (b : Nat) : List Nat := []
def lp_spec_l12Bound (fu : Nat) : Lp RT den (Int) := fun b s k => none
theorem ev_spec_l12Bound (fu : Nat) (h_0 : S_impl_Health) : evFun E (pc_spec_l12Bound fu) msk_spec_l12Bound (lp_spec_l12Bound fu) out_i64 66 [(.agg [(.int .i64 h_0.Name), (.bool h_0.Up), (.int .i64 h_0.Run)])] = F_spec_l12Bound fu h_0 := by kernel_rfl
noncomputable def body_spec_l12Bound : Code := Try.f66.body.getD .skip
theorem lpok_spec_l12Bound (fu : Nat) : LpOk E (pc_spec_l12Bound fu) msk_spec_l12Bound (lp_spec_l12Bound fu) (loops 0 body_spec_l12Bound) := by
  have h : loops 0 body_spec_l12Bound = [] := by kernel_rfl
  rw [h]; intro p hp; cases hp
def S_spec_l12Bound (fu : Nat) (xs : List (D RT den)) : Option (Out RT den) := match xs with | [.agg [.int .i64 a0_1, .bool a0_2, .int .i64 a0_3]] => some ⟨Int, F_spec_l12Bound fu (⟨a0_1, a0_2, a0_3⟩ : S_impl_Health), enc_i64, fun _ => true⟩ | _ => none
theorem hpc_spec_l12Bound (fu : Nat) : ∀ f xs o, pc_spec_l12Bound fu f xs = some o → ∀ y, o.x = some y → Good E Try.prog f xs (o.g y) := by
  intro f xs o h
  cases h
theorem goodv_spec_l12Bound (fu : Nat) (h_0 : S_impl_Health) (y : Int) (hy : F_spec_l12Bound fu h_0 = some y) : Good E Try.prog 66 [(.agg [(.int .i64 h_0.Name), (.bool h_0.Up), (.int .i64 h_0.Run)])] (enc_i64 y) :=
  fun_good E_ok (pc_good (hpc_spec_l12Bound fu)) (fn := Try.f66) (c := body_spec_l12Bound) (out := out_i64) (y := y) (by kernel_rfl) (by kernel_rfl) (by kernel_rfl) (lpok_spec_l12Bound fu) (fun d hd => out_i64_enc d _ hd) ((ev_spec_l12Bound fu h_0).trans hy)
theorem good_spec_l12Bound (fu : Nat) : ∀ xs o, S_spec_l12Bound fu xs = some o → ∀ y, o.x = some y → Good E Try.prog 66 xs (o.g y) := by
  intro xs o h y hy
  unfold S_spec_l12Bound at h
  split at h
  · rename_i a0_1 a0_2 a0_3
    cases h
    exact goodv_spec_l12Bound fu (⟨a0_1, a0_2, a0_3⟩ : S_impl_Health) y hy
  · cases h

/-! spec.HealthFault -/
def F_spec_HealthFault (fu : Nat) (h_0 : S_impl_Health) : Option (Int) :=
  ((((F_spec_l3Name fu h_0.Name).bind fun y8 => (bif (!y8) then (some true) else ((F_spec_l12Bound fu h_0).bind fun y9 => ((F_spec_l1In fu h_0.Run 0 (IntKind.wrap .i64 (y9 - 1))).bind fun y10 =>
    (some (!y10)))))) : Option Bool).bind fun m11 => (bif m11 then (some 3) else (some 0)))
def pc_spec_HealthFault (fu : Nat) : Pc RT den := fun f xs => match f with | 46 => S_spec_l3Name fu xs | 47 => S_spec_l1In fu xs | 66 => S_spec_l12Bound fu xs | _ => none
def msk_spec_HealthFault (b : Nat) : List Nat := match b with | 200001 => [15] | _ => []
def lp_spec_HealthFault (fu : Nat) : Lp RT den (Int) := fun b s k => none
theorem ev_spec_HealthFault (fu : Nat) (h_0 : S_impl_Health) : evFun E (pc_spec_HealthFault fu) msk_spec_HealthFault (lp_spec_HealthFault fu) out_i64 36 [(.agg [(.int .i64 h_0.Name), (.bool h_0.Up), (.int .i64 h_0.Run)])] = F_spec_HealthFault fu h_0 := by kernel_rfl
noncomputable def body_spec_HealthFault : Code := Try.f36.body.getD .skip
theorem lpok_spec_HealthFault (fu : Nat) : LpOk E (pc_spec_HealthFault fu) msk_spec_HealthFault (lp_spec_HealthFault fu) (loops 0 body_spec_HealthFault) := by
  have h : loops 0 body_spec_HealthFault = [] := by kernel_rfl
  rw [h]; intro p hp; cases hp
def S_spec_HealthFault (fu : Nat) (xs : List (D RT den)) : Option (Out RT den) := match xs with | [.agg [.int .i64 a0_1, .bool a0_2, .int .i64 a0_3]] => some ⟨Int, F_spec_HealthFault fu (⟨a0_1, a0_2, a0_3⟩ : S_impl_Health), enc_i64, fun _ => true⟩ | _ => none
theorem hpc_spec_HealthFault (fu : Nat) : ∀ f xs o, pc_spec_HealthFault fu f xs = some o → ∀ y, o.x = some y → Good E Try.prog f xs (o.g y) := by
  intro f xs o h
  unfold pc_spec_HealthFault at h
  split at h
  · exact good_spec_l3Name fu xs o h
  · exact good_spec_l1In fu xs o h
  · exact good_spec_l12Bound fu xs o h
  · cases h
theorem goodv_spec_HealthFault (fu : Nat) (h_0 : S_impl_Health) (y : Int) (hy : F_spec_HealthFault fu h_0 = some y) : Good E Try.prog 36 [(.agg [(.int .i64 h_0.Name), (.bool h_0.Up), (.int .i64 h_0.Run)])] (enc_i64 y) :=
  fun_good E_ok (pc_good (hpc_spec_HealthFault fu)) (fn := Try.f36) (c := body_spec_HealthFault) (out := out_i64) (y := y) (by kernel_rfl) (by kernel_rfl) (by kernel_rfl) (lpok_spec_HealthFault fu) (fun d hd => out_i64_enc d _ hd) ((ev_spec_HealthFault fu h_0).trans hy)
theorem good_spec_HealthFault (fu : Nat) : ∀ xs o, S_spec_HealthFault fu xs = some o → ∀ y, o.x = some y → Good E Try.prog 36 xs (o.g y) := by
  intro xs o h y hy
  unfold S_spec_HealthFault at h
  split at h
  · rename_i a0_1 a0_2 a0_3
    cases h
    exact goodv_spec_HealthFault fu (⟨a0_1, a0_2, a0_3⟩ : S_impl_Health) y hy
  · cases h

/-! spec.l12Probe -/
def F_spec_l12Probe (fu : Nat) (h_0 : S_impl_Health) (ok_1 : Bool) : Option (S_impl_Health × Bool) :=
  (bif (ok_1 == h_0.Up) then (some ((⟨h_0.Name, h_0.Up, 0⟩ : S_impl_Health), false)) else ((F_spec_l12Bound fu h_0).bind fun y14 => (bif ((IntKind.wrap .i64 (h_0.Run + 1)) == y14) then
    (some ((⟨h_0.Name, (!h_0.Up), 0⟩ : S_impl_Health), true)) else (some ((⟨h_0.Name, h_0.Up, (IntKind.wrap .i64 (h_0.Run + 1))⟩ : S_impl_Health), false)))))
def pc_spec_l12Probe (fu : Nat) : Pc RT den := fun f xs => match f with | 66 => S_spec_l12Bound fu xs | _ => none
def msk_spec_l12Probe (b : Nat) : List Nat := []
def lp_spec_l12Probe (fu : Nat) : Lp RT den (S_impl_Health × Bool) := fun b s k => none
theorem ev_spec_l12Probe (fu : Nat) (h_0 : S_impl_Health) (ok_1 : Bool) : evFun E (pc_spec_l12Probe fu) msk_spec_l12Probe (lp_spec_l12Probe fu) out_impl_Health_bo 37 [(.agg [(.int .i64 h_0.Name), (.bool h_0.Up), (.int .i64 h_0.Run)]), (.bool ok_1)] = F_spec_l12Probe fu h_0 ok_1 := by kernel_rfl
noncomputable def body_spec_l12Probe : Code := Try.f37.body.getD .skip
theorem lpok_spec_l12Probe (fu : Nat) : LpOk E (pc_spec_l12Probe fu) msk_spec_l12Probe (lp_spec_l12Probe fu) (loops 0 body_spec_l12Probe) := by
  have h : loops 0 body_spec_l12Probe = [] := by kernel_rfl
  rw [h]; intro p hp; cases hp
def S_spec_l12Probe (fu : Nat) (xs : List (D RT den)) : Option (Out RT den) := match xs with | [.agg [.int .i64 a0_1, .bool a0_2, .int .i64 a0_3], .bool a1_0] => some ⟨S_impl_Health × Bool, F_spec_l12Probe fu (⟨a0_1, a0_2, a0_3⟩ : S_impl_Health) a1_0, enc_impl_Health_bo, fun _ => true⟩ | _ => none
theorem hpc_spec_l12Probe (fu : Nat) : ∀ f xs o, pc_spec_l12Probe fu f xs = some o → ∀ y, o.x = some y → Good E Try.prog f xs (o.g y) := by
  intro f xs o h
  unfold pc_spec_l12Probe at h
  split at h
  · exact good_spec_l12Bound fu xs o h
  · cases h
theorem goodv_spec_l12Probe (fu : Nat) (h_0 : S_impl_Health) (ok_1 : Bool) (y : S_impl_Health × Bool) (hy : F_spec_l12Probe fu h_0 ok_1 = some y) : Good E Try.prog 37 [(.agg [(.int .i64 h_0.Name), (.bool h_0.Up), (.int .i64 h_0.Run)]), (.bool ok_1)] (enc_impl_Health_bo y) :=
  fun_good E_ok (pc_good (hpc_spec_l12Probe fu)) (fn := Try.f37) (c := body_spec_l12Probe) (out := out_impl_Health_bo) (y := y) (by kernel_rfl) (by kernel_rfl) (by kernel_rfl) (lpok_spec_l12Probe fu) (fun d hd => out_impl_Health_bo_enc d _ hd) ((ev_spec_l12Probe fu h_0 ok_1).trans hy)
theorem good_spec_l12Probe (fu : Nat) : ∀ xs o, S_spec_l12Probe fu xs = some o → ∀ y, o.x = some y → Good E Try.prog 37 xs (o.g y) := by
  intro xs o h y hy
  unfold S_spec_l12Probe at h
  split at h
  · rename_i a0_1 a0_2 a0_3 a1_0
    cases h
    exact goodv_spec_l12Probe fu (⟨a0_1, a0_2, a0_3⟩ : S_impl_Health) a1_0 y hy
  · cases h

/-! spec.ProbeHealth -/
def F_spec_ProbeHealth (fu : Nat) (h_0 : S_impl_Health) (ok_1 : Bool) : Option (S_impl_HealthResult) :=
  ((F_spec_HealthFault fu h_0).bind fun y6 => (bif (y6 != 0) then (some (⟨y6, false, (⟨0, false, 0⟩ : S_impl_Health)⟩ : S_impl_HealthResult)) else ((F_spec_l12Probe fu h_0 ok_1).bind fun y7 =>
    (some (⟨0, y7.2, y7.1⟩ : S_impl_HealthResult)))))
def pc_spec_ProbeHealth (fu : Nat) : Pc RT den := fun f xs => match f with | 36 => S_spec_HealthFault fu xs | 37 => S_spec_l12Probe fu xs | _ => none
def msk_spec_ProbeHealth (b : Nat) : List Nat := []
def lp_spec_ProbeHealth (fu : Nat) : Lp RT den (S_impl_HealthResult) := fun b s k => none
theorem ev_spec_ProbeHealth (fu : Nat) (h_0 : S_impl_Health) (ok_1 : Bool) : evFun E (pc_spec_ProbeHealth fu) msk_spec_ProbeHealth (lp_spec_ProbeHealth fu) out_impl_HealthResult 9 [(.agg [(.int .i64 h_0.Name), (.bool h_0.Up), (.int .i64 h_0.Run)]), (.bool ok_1)] = F_spec_ProbeHealth fu h_0 ok_1 := by kernel_rfl
noncomputable def body_spec_ProbeHealth : Code := Try.f9.body.getD .skip
theorem lpok_spec_ProbeHealth (fu : Nat) : LpOk E (pc_spec_ProbeHealth fu) msk_spec_ProbeHealth (lp_spec_ProbeHealth fu) (loops 0 body_spec_ProbeHealth) := by
  have h : loops 0 body_spec_ProbeHealth = [] := by kernel_rfl
  rw [h]; intro p hp; cases hp
def S_spec_ProbeHealth (fu : Nat) (xs : List (D RT den)) : Option (Out RT den) := match xs with | [.agg [.int .i64 a0_1, .bool a0_2, .int .i64 a0_3], .bool a1_0] => some ⟨S_impl_HealthResult, F_spec_ProbeHealth fu (⟨a0_1, a0_2, a0_3⟩ : S_impl_Health) a1_0, enc_impl_HealthResult, fun _ => true⟩ | _ => none
theorem hpc_spec_ProbeHealth (fu : Nat) : ∀ f xs o, pc_spec_ProbeHealth fu f xs = some o → ∀ y, o.x = some y → Good E Try.prog f xs (o.g y) := by
  intro f xs o h
  unfold pc_spec_ProbeHealth at h
  split at h
  · exact good_spec_HealthFault fu xs o h
  · exact good_spec_l12Probe fu xs o h
  · cases h
theorem goodv_spec_ProbeHealth (fu : Nat) (h_0 : S_impl_Health) (ok_1 : Bool) (y : S_impl_HealthResult) (hy : F_spec_ProbeHealth fu h_0 ok_1 = some y) : Good E Try.prog 9 [(.agg [(.int .i64 h_0.Name), (.bool h_0.Up), (.int .i64 h_0.Run)]), (.bool ok_1)] (enc_impl_HealthResult y) :=
  fun_good E_ok (pc_good (hpc_spec_ProbeHealth fu)) (fn := Try.f9) (c := body_spec_ProbeHealth) (out := out_impl_HealthResult) (y := y) (by kernel_rfl) (by kernel_rfl) (by kernel_rfl) (lpok_spec_ProbeHealth fu) (fun d hd => out_impl_HealthResult_enc d _ hd) ((ev_spec_ProbeHealth fu h_0 ok_1).trans hy)
theorem good_spec_ProbeHealth (fu : Nat) : ∀ xs o, S_spec_ProbeHealth fu xs = some o → ∀ y, o.x = some y → Good E Try.prog 9 xs (o.g y) := by
  intro xs o h y hy
  unfold S_spec_ProbeHealth at h
  split at h
  · rename_i a0_1 a0_2 a0_3 a1_0
    cases h
    exact goodv_spec_ProbeHealth fu (⟨a0_1, a0_2, a0_3⟩ : S_impl_Health) a1_0 y hy
  · cases h

/-! impl.in -/
def F_impl_in (fu : Nat) (n_0 : Int) (low_1 : Int) (high_2 : Int) : Option (Bool) :=
  (((bif (decide (n_0 ≥ low_1)) then (some (decide (n_0 ≤ high_2))) else (some false)) : Option Bool).bind fun m24 => (some m24))
def pc_impl_in (fu : Nat) : Pc RT den := fun f xs => none
def msk_impl_in (b : Nat) : List Nat := match b with | 200001 => [6] | _ => []
def lp_impl_in (fu : Nat) : Lp RT den (Bool) := fun b s k => none
theorem ev_impl_in (fu : Nat) (n_0 : Int) (low_1 : Int) (high_2 : Int) : evFun E (pc_impl_in fu) msk_impl_in (lp_impl_in fu) out_bo 44 [(.int .i64 n_0), (.int .i64 low_1), (.int .i64 high_2)] = F_impl_in fu n_0 low_1 high_2 := by kernel_rfl
noncomputable def body_impl_in : Code := Try.f44.body.getD .skip
theorem lpok_impl_in (fu : Nat) : LpOk E (pc_impl_in fu) msk_impl_in (lp_impl_in fu) (loops 0 body_impl_in) := by
  have h : loops 0 body_impl_in = [] := by kernel_rfl
  rw [h]; intro p hp; cases hp
def S_impl_in (fu : Nat) (xs : List (D RT den)) : Option (Out RT den) := match xs with | [.int .i64 a0_0, .int .i64 a1_0, .int .i64 a2_0] => some ⟨Bool, F_impl_in fu a0_0 a1_0 a2_0, enc_bo, fun _ => true⟩ | _ => none
theorem hpc_impl_in (fu : Nat) : ∀ f xs o, pc_impl_in fu f xs = some o → ∀ y, o.x = some y → Good E Try.prog f xs (o.g y) := by
  intro f xs o h
  cases h
theorem goodv_impl_in (fu : Nat) (n_0 : Int) (low_1 : Int) (high_2 : Int) (y : Bool) (hy : F_impl_in fu n_0 low_1 high_2 = some y) : Good E Try.prog 44 [(.int .i64 n_0), (.int .i64 low_1), (.int .i64 high_2)] (enc_bo y) :=
  fun_good E_ok (pc_good (hpc_impl_in fu)) (fn := Try.f44) (c := body_impl_in) (out := out_bo) (y := y) (by kernel_rfl) (by kernel_rfl) (by kernel_rfl) (lpok_impl_in fu) (fun d hd => out_bo_enc d _ hd) ((ev_impl_in fu n_0 low_1 high_2).trans hy)
theorem good_impl_in (fu : Nat) : ∀ xs o, S_impl_in fu xs = some o → ∀ y, o.x = some y → Good E Try.prog 44 xs (o.g y) := by
  intro xs o h y hy
  unfold S_impl_in at h
  split at h
  · rename_i a0_0 a1_0 a2_0
    cases h
    exact goodv_impl_in fu a0_0 a1_0 a2_0 y hy
  · cases h

/-! impl.isName -/
def F_impl_isName (fu : Nat) (name_0 : Int) : Option (Bool) :=
  ((F_impl_in fu name_0 1 999).bind fun y23 => (some y23))
def pc_impl_isName (fu : Nat) : Pc RT den := fun f xs => match f with | 44 => S_impl_in fu xs | _ => none
def msk_impl_isName (b : Nat) : List Nat := []
def lp_impl_isName (fu : Nat) : Lp RT den (Bool) := fun b s k => none
theorem ev_impl_isName (fu : Nat) (name_0 : Int) : evFun E (pc_impl_isName fu) msk_impl_isName (lp_impl_isName fu) out_bo 43 [(.int .i64 name_0)] = F_impl_isName fu name_0 := by kernel_rfl
noncomputable def body_impl_isName : Code := Try.f43.body.getD .skip
theorem lpok_impl_isName (fu : Nat) : LpOk E (pc_impl_isName fu) msk_impl_isName (lp_impl_isName fu) (loops 0 body_impl_isName) := by
  have h : loops 0 body_impl_isName = [] := by kernel_rfl
  rw [h]; intro p hp; cases hp
def S_impl_isName (fu : Nat) (xs : List (D RT den)) : Option (Out RT den) := match xs with | [.int .i64 a0_0] => some ⟨Bool, F_impl_isName fu a0_0, enc_bo, fun _ => true⟩ | _ => none
theorem hpc_impl_isName (fu : Nat) : ∀ f xs o, pc_impl_isName fu f xs = some o → ∀ y, o.x = some y → Good E Try.prog f xs (o.g y) := by
  intro f xs o h
  unfold pc_impl_isName at h
  split at h
  · exact good_impl_in fu xs o h
  · cases h
theorem goodv_impl_isName (fu : Nat) (name_0 : Int) (y : Bool) (hy : F_impl_isName fu name_0 = some y) : Good E Try.prog 43 [(.int .i64 name_0)] (enc_bo y) :=
  fun_good E_ok (pc_good (hpc_impl_isName fu)) (fn := Try.f43) (c := body_impl_isName) (out := out_bo) (y := y) (by kernel_rfl) (by kernel_rfl) (by kernel_rfl) (lpok_impl_isName fu) (fun d hd => out_bo_enc d _ hd) ((ev_impl_isName fu name_0).trans hy)
theorem good_impl_isName (fu : Nat) : ∀ xs o, S_impl_isName fu xs = some o → ∀ y, o.x = some y → Good E Try.prog 43 xs (o.g y) := by
  intro xs o h y hy
  unfold S_impl_isName at h
  split at h
  · rename_i a0_0
    cases h
    exact goodv_impl_isName fu a0_0 y hy
  · cases h

/-! impl.HealthFault -/
def F_impl_HealthFault (fu : Nat) (h_0 : S_impl_Health) : Option (Int) :=
  (bif h_0.Up then ((((F_impl_isName fu h_0.Name).bind fun y17 => (bif (!y17) then (some true) else ((F_impl_in fu h_0.Run 0 2).bind fun y18 => (some (!y18))))) : Option Bool).bind fun m19 =>
    (bif m19 then (some 3) else (some 0))) else ((((F_impl_isName fu h_0.Name).bind fun y20 => (bif (!y20) then (some true) else ((F_impl_in fu h_0.Run 0 1).bind fun y21 => (some (!y21))))) : Option Bool).bind fun m22 =>
    (bif m22 then (some 3) else (some 0))))
def pc_impl_HealthFault (fu : Nat) : Pc RT den := fun f xs => match f with | 43 => S_impl_isName fu xs | 44 => S_impl_in fu xs | _ => none
def msk_impl_HealthFault (b : Nat) : List Nat := match b with | 200004 => [16] | _ => []
def lp_impl_HealthFault (fu : Nat) : Lp RT den (Int) := fun b s k => none
theorem ev_impl_HealthFault (fu : Nat) (h_0 : S_impl_Health) : evFun E (pc_impl_HealthFault fu) msk_impl_HealthFault (lp_impl_HealthFault fu) out_i64 16 [(.agg [(.int .i64 h_0.Name), (.bool h_0.Up), (.int .i64 h_0.Run)])] = F_impl_HealthFault fu h_0 := by kernel_rfl
noncomputable def body_impl_HealthFault : Code := Try.f16.body.getD .skip
theorem lpok_impl_HealthFault (fu : Nat) : LpOk E (pc_impl_HealthFault fu) msk_impl_HealthFault (lp_impl_HealthFault fu) (loops 0 body_impl_HealthFault) := by
  have h : loops 0 body_impl_HealthFault = [] := by kernel_rfl
  rw [h]; intro p hp; cases hp
def S_impl_HealthFault (fu : Nat) (xs : List (D RT den)) : Option (Out RT den) := match xs with | [.agg [.int .i64 a0_1, .bool a0_2, .int .i64 a0_3]] => some ⟨Int, F_impl_HealthFault fu (⟨a0_1, a0_2, a0_3⟩ : S_impl_Health), enc_i64, fun _ => true⟩ | _ => none
theorem hpc_impl_HealthFault (fu : Nat) : ∀ f xs o, pc_impl_HealthFault fu f xs = some o → ∀ y, o.x = some y → Good E Try.prog f xs (o.g y) := by
  intro f xs o h
  unfold pc_impl_HealthFault at h
  split at h
  · exact good_impl_isName fu xs o h
  · exact good_impl_in fu xs o h
  · cases h
theorem goodv_impl_HealthFault (fu : Nat) (h_0 : S_impl_Health) (y : Int) (hy : F_impl_HealthFault fu h_0 = some y) : Good E Try.prog 16 [(.agg [(.int .i64 h_0.Name), (.bool h_0.Up), (.int .i64 h_0.Run)])] (enc_i64 y) :=
  fun_good E_ok (pc_good (hpc_impl_HealthFault fu)) (fn := Try.f16) (c := body_impl_HealthFault) (out := out_i64) (y := y) (by kernel_rfl) (by kernel_rfl) (by kernel_rfl) (lpok_impl_HealthFault fu) (fun d hd => out_i64_enc d _ hd) ((ev_impl_HealthFault fu h_0).trans hy)
theorem good_impl_HealthFault (fu : Nat) : ∀ xs o, S_impl_HealthFault fu xs = some o → ∀ y, o.x = some y → Good E Try.prog 16 xs (o.g y) := by
  intro xs o h y hy
  unfold S_impl_HealthFault at h
  split at h
  · rename_i a0_1 a0_2 a0_3
    cases h
    exact goodv_impl_HealthFault fu (⟨a0_1, a0_2, a0_3⟩ : S_impl_Health) y hy
  · cases h

/-! (impl.Health).probe -/
def F_impl_Health_probe (fu : Nat) (h_0 : S_impl_Health) (ok_1 : Bool) : Option (S_impl_Health × Bool) :=
  (bif (ok_1 == h_0.Up) then (some ((⟨h_0.Name, h_0.Up, 0⟩ : S_impl_Health), false)) else (bif h_0.Up then (bif (decide ((IntKind.wrap .i64 (h_0.Run + 1)) < 3)) then (some ((⟨h_0.Name,
    h_0.Up, (IntKind.wrap .i64 (h_0.Run + 1))⟩ : S_impl_Health), false)) else (some ((⟨h_0.Name, ok_1, 0⟩ : S_impl_Health), true))) else (bif (decide ((IntKind.wrap .i64 (h_0.Run + 1)) < 2)) then
    (some ((⟨h_0.Name, h_0.Up, (IntKind.wrap .i64 (h_0.Run + 1))⟩ : S_impl_Health), false)) else (some ((⟨h_0.Name, ok_1, 0⟩ : S_impl_Health), true)))))
def pc_impl_Health_probe (fu : Nat) : Pc RT den := fun f xs => none
def msk_impl_Health_probe (b : Nat) : List Nat := []
def lp_impl_Health_probe (fu : Nat) : Lp RT den (S_impl_Health × Bool) := fun b s k => none
theorem ev_impl_Health_probe (fu : Nat) (h_0 : S_impl_Health) (ok_1 : Bool) : evFun E (pc_impl_Health_probe fu) msk_impl_Health_probe (lp_impl_Health_probe fu) out_impl_Health_bo 38 [(.agg [(.int .i64 h_0.Name), (.bool h_0.Up), (.int .i64 h_0.Run)]), (.bool ok_1)] = F_impl_Health_probe fu h_0 ok_1 := by kernel_rfl
noncomputable def body_impl_Health_probe : Code := Try.f38.body.getD .skip
theorem lpok_impl_Health_probe (fu : Nat) : LpOk E (pc_impl_Health_probe fu) msk_impl_Health_probe (lp_impl_Health_probe fu) (loops 0 body_impl_Health_probe) := by
  have h : loops 0 body_impl_Health_probe = [] := by kernel_rfl
  rw [h]; intro p hp; cases hp
def S_impl_Health_probe (fu : Nat) (xs : List (D RT den)) : Option (Out RT den) := match xs with | [.agg [.int .i64 a0_1, .bool a0_2, .int .i64 a0_3], .bool a1_0] => some ⟨S_impl_Health × Bool, F_impl_Health_probe fu (⟨a0_1, a0_2, a0_3⟩ : S_impl_Health) a1_0, enc_impl_Health_bo, fun _ => true⟩ | _ => none
theorem hpc_impl_Health_probe (fu : Nat) : ∀ f xs o, pc_impl_Health_probe fu f xs = some o → ∀ y, o.x = some y → Good E Try.prog f xs (o.g y) := by
  intro f xs o h
  cases h
theorem goodv_impl_Health_probe (fu : Nat) (h_0 : S_impl_Health) (ok_1 : Bool) (y : S_impl_Health × Bool) (hy : F_impl_Health_probe fu h_0 ok_1 = some y) : Good E Try.prog 38 [(.agg [(.int .i64 h_0.Name), (.bool h_0.Up), (.int .i64 h_0.Run)]), (.bool ok_1)] (enc_impl_Health_bo y) :=
  fun_good E_ok (pc_good (hpc_impl_Health_probe fu)) (fn := Try.f38) (c := body_impl_Health_probe) (out := out_impl_Health_bo) (y := y) (by kernel_rfl) (by kernel_rfl) (by kernel_rfl) (lpok_impl_Health_probe fu) (fun d hd => out_impl_Health_bo_enc d _ hd) ((ev_impl_Health_probe fu h_0 ok_1).trans hy)
theorem good_impl_Health_probe (fu : Nat) : ∀ xs o, S_impl_Health_probe fu xs = some o → ∀ y, o.x = some y → Good E Try.prog 38 xs (o.g y) := by
  intro xs o h y hy
  unfold S_impl_Health_probe at h
  split at h
  · rename_i a0_1 a0_2 a0_3 a1_0
    cases h
    exact goodv_impl_Health_probe fu (⟨a0_1, a0_2, a0_3⟩ : S_impl_Health) a1_0 y hy
  · cases h

/-! impl.ProbeHealth -/
def F_impl_ProbeHealth (fu : Nat) (h_0 : S_impl_Health) (ok_1 : Bool) : Option (S_impl_HealthResult) :=
  ((F_impl_HealthFault fu h_0).bind fun y15 => (bif (y15 != 0) then (some (⟨y15, false, (⟨0, false, 0⟩ : S_impl_Health)⟩ : S_impl_HealthResult)) else ((F_impl_Health_probe fu h_0 ok_1).bind fun y16 =>
    (some (⟨0, y16.2, y16.1⟩ : S_impl_HealthResult)))))
def pc_impl_ProbeHealth (fu : Nat) : Pc RT den := fun f xs => match f with | 16 => S_impl_HealthFault fu xs | 38 => S_impl_Health_probe fu xs | _ => none
def msk_impl_ProbeHealth (b : Nat) : List Nat := []
def lp_impl_ProbeHealth (fu : Nat) : Lp RT den (S_impl_HealthResult) := fun b s k => none
theorem ev_impl_ProbeHealth (fu : Nat) (h_0 : S_impl_Health) (ok_1 : Bool) : evFun E (pc_impl_ProbeHealth fu) msk_impl_ProbeHealth (lp_impl_ProbeHealth fu) out_impl_HealthResult 11 [(.agg [(.int .i64 h_0.Name), (.bool h_0.Up), (.int .i64 h_0.Run)]), (.bool ok_1)] = F_impl_ProbeHealth fu h_0 ok_1 := by kernel_rfl
noncomputable def body_impl_ProbeHealth : Code := Try.f11.body.getD .skip
theorem lpok_impl_ProbeHealth (fu : Nat) : LpOk E (pc_impl_ProbeHealth fu) msk_impl_ProbeHealth (lp_impl_ProbeHealth fu) (loops 0 body_impl_ProbeHealth) := by
  have h : loops 0 body_impl_ProbeHealth = [] := by kernel_rfl
  rw [h]; intro p hp; cases hp
def S_impl_ProbeHealth (fu : Nat) (xs : List (D RT den)) : Option (Out RT den) := match xs with | [.agg [.int .i64 a0_1, .bool a0_2, .int .i64 a0_3], .bool a1_0] => some ⟨S_impl_HealthResult, F_impl_ProbeHealth fu (⟨a0_1, a0_2, a0_3⟩ : S_impl_Health) a1_0, enc_impl_HealthResult, fun _ => true⟩ | _ => none
theorem hpc_impl_ProbeHealth (fu : Nat) : ∀ f xs o, pc_impl_ProbeHealth fu f xs = some o → ∀ y, o.x = some y → Good E Try.prog f xs (o.g y) := by
  intro f xs o h
  unfold pc_impl_ProbeHealth at h
  split at h
  · exact good_impl_HealthFault fu xs o h
  · exact good_impl_Health_probe fu xs o h
  · cases h
theorem goodv_impl_ProbeHealth (fu : Nat) (h_0 : S_impl_Health) (ok_1 : Bool) (y : S_impl_HealthResult) (hy : F_impl_ProbeHealth fu h_0 ok_1 = some y) : Good E Try.prog 11 [(.agg [(.int .i64 h_0.Name), (.bool h_0.Up), (.int .i64 h_0.Run)]), (.bool ok_1)] (enc_impl_HealthResult y) :=
  fun_good E_ok (pc_good (hpc_impl_ProbeHealth fu)) (fn := Try.f11) (c := body_impl_ProbeHealth) (out := out_impl_HealthResult) (y := y) (by kernel_rfl) (by kernel_rfl) (by kernel_rfl) (lpok_impl_ProbeHealth fu) (fun d hd => out_impl_HealthResult_enc d _ hd) ((ev_impl_ProbeHealth fu h_0 ok_1).trans hy)
theorem good_impl_ProbeHealth (fu : Nat) : ∀ xs o, S_impl_ProbeHealth fu xs = some o → ∀ y, o.x = some y → Good E Try.prog 11 xs (o.g y) := by
  intro xs o h y hy
  unfold S_impl_ProbeHealth at h
  split at h
  · rename_i a0_1 a0_2 a0_3 a1_0
    cases h
    exact goodv_impl_ProbeHealth fu (⟨a0_1, a0_2, a0_3⟩ : S_impl_Health) a1_0 y hy
  · cases h

/-! laws.eqHealth -/
def F_laws_eqHealth (fu : Nat) (a_0 : S_impl_Health) (b_1 : S_impl_Health) : Option (Bool) :=
  (bif (a_0.Name != b_1.Name) then (some false) else (bif (!(a_0.Up == b_1.Up)) then (some false) else (bif (a_0.Run != b_1.Run) then (some false) else (some true))))
def pc_laws_eqHealth (fu : Nat) : Pc RT den := fun f xs => none
def msk_laws_eqHealth (b : Nat) : List Nat := []
def lp_laws_eqHealth (fu : Nat) : Lp RT den (Bool) := fun b s k => none
theorem ev_laws_eqHealth (fu : Nat) (a_0 : S_impl_Health) (b_1 : S_impl_Health) : evFun E (pc_laws_eqHealth fu) msk_laws_eqHealth (lp_laws_eqHealth fu) out_bo 39 [(.agg [(.int .i64 a_0.Name), (.bool a_0.Up), (.int .i64 a_0.Run)]), (.agg [(.int .i64 b_1.Name), (.bool b_1.Up), (.int .i64 b_1.Run)])] = F_laws_eqHealth fu a_0 b_1 := by kernel_rfl
noncomputable def body_laws_eqHealth : Code := Try.f39.body.getD .skip
theorem lpok_laws_eqHealth (fu : Nat) : LpOk E (pc_laws_eqHealth fu) msk_laws_eqHealth (lp_laws_eqHealth fu) (loops 0 body_laws_eqHealth) := by
  have h : loops 0 body_laws_eqHealth = [] := by kernel_rfl
  rw [h]; intro p hp; cases hp
def S_laws_eqHealth (fu : Nat) (xs : List (D RT den)) : Option (Out RT den) := match xs with | [.agg [.int .i64 a0_1, .bool a0_2, .int .i64 a0_3], .agg [.int .i64 a1_1, .bool a1_2, .int .i64 a1_3]] => some ⟨Bool, F_laws_eqHealth fu (⟨a0_1, a0_2, a0_3⟩ : S_impl_Health) (⟨a1_1, a1_2, a1_3⟩ : S_impl_Health), enc_bo, fun _ => true⟩ | _ => none
theorem hpc_laws_eqHealth (fu : Nat) : ∀ f xs o, pc_laws_eqHealth fu f xs = some o → ∀ y, o.x = some y → Good E Try.prog f xs (o.g y) := by
  intro f xs o h
  cases h
theorem goodv_laws_eqHealth (fu : Nat) (a_0 : S_impl_Health) (b_1 : S_impl_Health) (y : Bool) (hy : F_laws_eqHealth fu a_0 b_1 = some y) : Good E Try.prog 39 [(.agg [(.int .i64 a_0.Name), (.bool a_0.Up), (.int .i64 a_0.Run)]), (.agg [(.int .i64 b_1.Name), (.bool b_1.Up), (.int .i64 b_1.Run)])] (enc_bo y) :=
  fun_good E_ok (pc_good (hpc_laws_eqHealth fu)) (fn := Try.f39) (c := body_laws_eqHealth) (out := out_bo) (y := y) (by kernel_rfl) (by kernel_rfl) (by kernel_rfl) (lpok_laws_eqHealth fu) (fun d hd => out_bo_enc d _ hd) ((ev_laws_eqHealth fu a_0 b_1).trans hy)
theorem good_laws_eqHealth (fu : Nat) : ∀ xs o, S_laws_eqHealth fu xs = some o → ∀ y, o.x = some y → Good E Try.prog 39 xs (o.g y) := by
  intro xs o h y hy
  unfold S_laws_eqHealth at h
  split at h
  · rename_i a0_1 a0_2 a0_3 a1_1 a1_2 a1_3
    cases h
    exact goodv_laws_eqHealth fu (⟨a0_1, a0_2, a0_3⟩ : S_impl_Health) (⟨a1_1, a1_2, a1_3⟩ : S_impl_Health) y hy
  · cases h

/-! laws.eqHealthResult -/
def F_laws_eqHealthResult (fu : Nat) (a_0 : S_impl_HealthResult) (b_1 : S_impl_HealthResult) : Option (Bool) :=
  (bif (a_0.Code != b_1.Code) then (some false) else (bif (!(a_0.Turned == b_1.Turned)) then (some false) else ((F_laws_eqHealth fu a_0.Health b_1.Health).bind fun y25 => (bif (!y25) then
    (some false) else (some true)))))
def pc_laws_eqHealthResult (fu : Nat) : Pc RT den := fun f xs => match f with | 39 => S_laws_eqHealth fu xs | _ => none
def msk_laws_eqHealthResult (b : Nat) : List Nat := []
def lp_laws_eqHealthResult (fu : Nat) : Lp RT den (Bool) := fun b s k => none
theorem ev_laws_eqHealthResult (fu : Nat) (a_0 : S_impl_HealthResult) (b_1 : S_impl_HealthResult) : evFun E (pc_laws_eqHealthResult fu) msk_laws_eqHealthResult (lp_laws_eqHealthResult fu) out_bo 12 [(.agg [(.int .i64 a_0.Code), (.bool a_0.Turned), (.int .i64 a_0.Health.Name), (.bool a_0.Health.Up), (.int .i64 a_0.Health.Run)]), (.agg [(.int .i64 b_1.Code), (.bool b_1.Turned), (.int .i64 b_1.Health.Name), (.bool b_1.Health.Up), (.int .i64 b_1.Health.Run)])] = F_laws_eqHealthResult fu a_0 b_1 := by kernel_rfl
noncomputable def body_laws_eqHealthResult : Code := Try.f12.body.getD .skip
theorem lpok_laws_eqHealthResult (fu : Nat) : LpOk E (pc_laws_eqHealthResult fu) msk_laws_eqHealthResult (lp_laws_eqHealthResult fu) (loops 0 body_laws_eqHealthResult) := by
  have h : loops 0 body_laws_eqHealthResult = [] := by kernel_rfl
  rw [h]; intro p hp; cases hp
def S_laws_eqHealthResult (fu : Nat) (xs : List (D RT den)) : Option (Out RT den) := match xs with | [.agg [.int .i64 a0_1, .bool a0_2, .int .i64 a0_4, .bool a0_5, .int .i64 a0_6], .agg [.int .i64 a1_1, .bool a1_2, .int .i64 a1_4, .bool a1_5, .int .i64 a1_6]] => some ⟨Bool, F_laws_eqHealthResult fu (⟨a0_1, a0_2, (⟨a0_4, a0_5, a0_6⟩ : S_impl_Health)⟩ : S_impl_HealthResult) (⟨a1_1, a1_2, (⟨a1_4, a1_5, a1_6⟩ : S_impl_Health)⟩ : S_impl_HealthResult), enc_bo, fun _ => true⟩ | _ => none
theorem hpc_laws_eqHealthResult (fu : Nat) : ∀ f xs o, pc_laws_eqHealthResult fu f xs = some o → ∀ y, o.x = some y → Good E Try.prog f xs (o.g y) := by
  intro f xs o h
  unfold pc_laws_eqHealthResult at h
  split at h
  · exact good_laws_eqHealth fu xs o h
  · cases h
theorem goodv_laws_eqHealthResult (fu : Nat) (a_0 : S_impl_HealthResult) (b_1 : S_impl_HealthResult) (y : Bool) (hy : F_laws_eqHealthResult fu a_0 b_1 = some y) : Good E Try.prog 12 [(.agg [(.int .i64 a_0.Code), (.bool a_0.Turned), (.int .i64 a_0.Health.Name), (.bool a_0.Health.Up), (.int .i64 a_0.Health.Run)]), (.agg [(.int .i64 b_1.Code), (.bool b_1.Turned), (.int .i64 b_1.Health.Name), (.bool b_1.Health.Up), (.int .i64 b_1.Health.Run)])] (enc_bo y) :=
  fun_good E_ok (pc_good (hpc_laws_eqHealthResult fu)) (fn := Try.f12) (c := body_laws_eqHealthResult) (out := out_bo) (y := y) (by kernel_rfl) (by kernel_rfl) (by kernel_rfl) (lpok_laws_eqHealthResult fu) (fun d hd => out_bo_enc d _ hd) ((ev_laws_eqHealthResult fu a_0 b_1).trans hy)
theorem good_laws_eqHealthResult (fu : Nat) : ∀ xs o, S_laws_eqHealthResult fu xs = some o → ∀ y, o.x = some y → Good E Try.prog 12 xs (o.g y) := by
  intro xs o h y hy
  unfold S_laws_eqHealthResult at h
  split at h
  · rename_i a0_1 a0_2 a0_4 a0_5 a0_6 a1_1 a1_2 a1_4 a1_5 a1_6
    cases h
    exact goodv_laws_eqHealthResult fu (⟨a0_1, a0_2, (⟨a0_4, a0_5, a0_6⟩ : S_impl_Health)⟩ : S_impl_HealthResult) (⟨a1_1, a1_2, (⟨a1_4, a1_5, a1_6⟩ : S_impl_Health)⟩ : S_impl_HealthResult) y hy
  · cases h

/-! laws.FnExactProbeHealth -/
def F_laws_FnExactProbeHealth (fu : Nat) (aH_0 : S_impl_Health) (aOk_1 : Bool) : Option (Bool) :=
  ((F_laws_toHealth fu aH_0).bind fun y1 => ((F_spec_ProbeHealth fu y1 aOk_1).bind fun y2 => ((F_laws_toHealth fu aH_0).bind fun y3 => ((F_impl_ProbeHealth fu y3 aOk_1).bind fun y4 =>
    ((F_laws_eqHealthResult fu y4 y2).bind fun y5 => (bif (!y5) then (some false) else (some true)))))))
def pc_laws_FnExactProbeHealth (fu : Nat) : Pc RT den := fun f xs => match f with | 9 => S_spec_ProbeHealth fu xs | 10 => S_laws_toHealth fu xs | 11 => S_impl_ProbeHealth fu xs | 12 => S_laws_eqHealthResult fu xs | _ => none
def msk_laws_FnExactProbeHealth (b : Nat) : List Nat := []
def lp_laws_FnExactProbeHealth (fu : Nat) : Lp RT den (Bool) := fun b s k => none
theorem ev_laws_FnExactProbeHealth (fu : Nat) (aH_0 : S_impl_Health) (aOk_1 : Bool) : evFun E (pc_laws_FnExactProbeHealth fu) msk_laws_FnExactProbeHealth (lp_laws_FnExactProbeHealth fu) out_bo 3 [(.agg [(.int .i64 aH_0.Name), (.bool aH_0.Up), (.int .i64 aH_0.Run)]), (.bool aOk_1)] = F_laws_FnExactProbeHealth fu aH_0 aOk_1 := by kernel_rfl
noncomputable def body_laws_FnExactProbeHealth : Code := Try.f3.body.getD .skip
theorem lpok_laws_FnExactProbeHealth (fu : Nat) : LpOk E (pc_laws_FnExactProbeHealth fu) msk_laws_FnExactProbeHealth (lp_laws_FnExactProbeHealth fu) (loops 0 body_laws_FnExactProbeHealth) := by
  have h : loops 0 body_laws_FnExactProbeHealth = [] := by kernel_rfl
  rw [h]; intro p hp; cases hp
def S_laws_FnExactProbeHealth (fu : Nat) (xs : List (D RT den)) : Option (Out RT den) := match xs with | [.agg [.int .i64 a0_1, .bool a0_2, .int .i64 a0_3], .bool a1_0] => some ⟨Bool, F_laws_FnExactProbeHealth fu (⟨a0_1, a0_2, a0_3⟩ : S_impl_Health) a1_0, enc_bo, fun _ => true⟩ | _ => none
theorem hpc_laws_FnExactProbeHealth (fu : Nat) : ∀ f xs o, pc_laws_FnExactProbeHealth fu f xs = some o → ∀ y, o.x = some y → Good E Try.prog f xs (o.g y) := by
  intro f xs o h
  unfold pc_laws_FnExactProbeHealth at h
  split at h
  · exact good_spec_ProbeHealth fu xs o h
  · exact good_laws_toHealth fu xs o h
  · exact good_impl_ProbeHealth fu xs o h
  · exact good_laws_eqHealthResult fu xs o h
  · cases h
theorem goodv_laws_FnExactProbeHealth (fu : Nat) (aH_0 : S_impl_Health) (aOk_1 : Bool) (y : Bool) (hy : F_laws_FnExactProbeHealth fu aH_0 aOk_1 = some y) : Good E Try.prog 3 [(.agg [(.int .i64 aH_0.Name), (.bool aH_0.Up), (.int .i64 aH_0.Run)]), (.bool aOk_1)] (enc_bo y) :=
  fun_good E_ok (pc_good (hpc_laws_FnExactProbeHealth fu)) (fn := Try.f3) (c := body_laws_FnExactProbeHealth) (out := out_bo) (y := y) (by kernel_rfl) (by kernel_rfl) (by kernel_rfl) (lpok_laws_FnExactProbeHealth fu) (fun d hd => out_bo_enc d _ hd) ((ev_laws_FnExactProbeHealth fu aH_0 aOk_1).trans hy)
theorem good_laws_FnExactProbeHealth (fu : Nat) : ∀ xs o, S_laws_FnExactProbeHealth fu xs = some o → ∀ y, o.x = some y → Good E Try.prog 3 xs (o.g y) := by
  intro xs o h y hy
  unfold S_laws_FnExactProbeHealth at h
  split at h
  · rename_i a0_1 a0_2 a0_3 a1_0
    cases h
    exact goodv_laws_FnExactProbeHealth fu (⟨a0_1, a0_2, a0_3⟩ : S_impl_Health) a1_0 y hy
  · cases h

/-! laws.toBoolS -/
def F_laws_toBoolS_B0 {ρ : Type} (fu : Nat) (a0_0 : (Sl Bool)) (out3_1 : Nat) (on0_3 : Nat) (k0 : (Nat → Bool) → Option ρ) (i4_2 : Int) (of0_4 : (Nat → Bool)) (go : Int → (Nat → Bool) → Option ρ) : Option ρ :=
  (bif (decide (i4_2 < ((a0_0.n : Nat) : Int))) then ((bif (decide (0 ≤ i4_2) && decide ((Int.toNat i4_2) < a0_0.n)) then some () else none : Option Unit).bind fun _ => ((bif (decide (0 ≤ i4_2) &&
    decide ((Int.toNat i4_2) < out3_1)) then some () else none : Option Unit).bind fun _ => (go (IntKind.wrap .i64 (i4_2 + 1)) (fun j => if j = (Int.toNat i4_2) then (a0_0.f (Int.toNat i4_2)) else
    of0_4 j)))) else (k0 of0_4))
def F_laws_toBoolS (fu : Nat) (a_0 : (Sl Bool)) : Option ((Sl Bool)) :=
  (bif (decide (0 ≤ ((a_0.n : Nat) : Int)) && (decide (((a_0.n : Nat) : Int) = ((a_0.n : Nat) : Int)) && (decide ((1 : Int) * ((a_0.n : Nat) : Int) ≤ 281474976710656) && decide (((a_0.n : Nat) : Int) ≤ 9223372036854775807)))) then
    (L (fun w0 go0 => F_laws_toBoolS_B0 fu a_0 (Int.toNat ((a_0.n : Nat) : Int)) (Int.toNat ((a_0.n : Nat) : Int)) (fun z35 => (some (⟨none, (Int.toNat ((a_0.n : Nat) : Int)), z35⟩ : (Sl Bool)))) w0.1 w0.2 (fun q0 q1 =>
    go0 (q0, q1))) fu ((0, (fun _ => false)) : Int × (Nat → Bool))) else none)
def pc_laws_toBoolS (fu : Nat) : Pc RT den := fun f xs => none
def msk_laws_toBoolS (b : Nat) : List Nat := match b with | 0 => [1, 2, 5, 6, 7, 8, 9, 10, 11, 12, 13, 14, 15, 16, 17, 18, 19, 20, 21] | 100000 => [0, 1, 4, 5, 6, 7, 8, 9, 10, 11, 12, 13, 14, 15, 16, 17, 18, 19, 20, 21] | _ => []
def ps_laws_toBoolS_0 : List (Pat RT) := [.flat (.rs .bo), .flat .dead, .flat .dead, .flat (.os 0), .flat (.int .i64), .flat .dead, .flat .dead, .flat .dead, .flat .dead, .flat .dead, .flat .dead, .flat .dead, .flat .dead, .flat .dead, .flat .dead, .flat .dead, .flat .dead, .flat .dead, .flat .dead, .flat .dead, .flat .dead, .flat .dead]
def os_laws_toBoolS_0 : List (OP RT) := [.row .bo]
def conv_laws_toBoolS_0 (r : Raw den ps_laws_toBoolS_0 os_laws_toBoolS_0) : ((Sl Bool) × Nat × Nat) × (Int × (Nat → Bool)) := ((r.1.1, r.1.2.2.2.1, r.2.1.1), (r.1.2.2.2.2.1, r.2.1.2))
def back_laws_toBoolS_0 (c : (Sl Bool) × Nat × Nat) (w : Int × (Nat → Bool)) : St RT den := ⟨[(.rs c.1.z .bo c.1.n c.1.f), .dead, .dead, (.os 0 c.2.1), (.int .i64 w.1), .dead, .dead, .dead, .dead, .dead, .dead, .dead, .dead, .dead, .dead, .dead, .dead, .dead, .dead, .dead, .dead, .dead], [(.row .bo c.2.2 w.2)]⟩
def Bk_laws_toBoolS_0 {ρ : Type} (fu : Nat) (c : (Sl Bool) × Nat × Nat) (k : Ex → St RT den → Option ρ) (w : Int × (Nat → Bool)) (go : (Int × (Nat → Bool)) → Option ρ) : Option ρ := F_laws_toBoolS_B0 fu c.1 c.2.1 c.2.2 (fun a0 => k (.exit 0) ⟨[.dead, .dead, .dead, (.os 0 c.2.1), .dead, .dead, .dead, .dead, .dead, .dead, .dead, .dead, .dead, .dead, .dead, .dead, .dead, .dead, .dead, .dead, .dead, .dead], [(.row .bo c.2.2 a0)]⟩) w.1 w.2 (fun q0 q1 => go (q0, q1))
def lp_laws_toBoolS (fu : Nat) : Lp RT den ((Sl Bool)) := fun b s k => match b with | 0 => handle ps_laws_toBoolS_0 os_laws_toBoolS_0 conv_laws_toBoolS_0 (Bk_laws_toBoolS_0 fu) fu s k | _ => none
theorem ev_laws_toBoolS (fu : Nat) (a_0 : (Sl Bool)) : evFun E (pc_laws_toBoolS fu) msk_laws_toBoolS (lp_laws_toBoolS fu) out_sl_bo 18 [(.rs a_0.z .bo a_0.n a_0.f)] = F_laws_toBoolS fu a_0 := by kernel_rfl
noncomputable def body_laws_toBoolS : Code := Try.f18.body.getD .skip
noncomputable def lc_laws_toBoolS_0 : Code := ((loops 0 body_laws_toBoolS).getD 0 (0, .skip)).2
theorem round_laws_toBoolS_0 (fu : Nat) (it : St RT den → Option ((Sl Bool))) (k : Ex → St RT den → Option ((Sl Bool))) c w : evCode E (pc_laws_toBoolS fu) msk_laws_toBoolS (lp_laws_toBoolS fu) 0 lc_laws_toBoolS_0 (back_laws_toBoolS_0 c w) (after (msk_laws_toBoolS 0) (msk_laws_toBoolS 100000) 1 it k) = Bk_laws_toBoolS_0 fu c k w (fun w => it (back_laws_toBoolS_0 c w)) := by kernel_rfl
theorem lpok_laws_toBoolS_0 (fu : Nat) : ∀ s k r, lp_laws_toBoolS fu 0 s k = some r → ∃ fuel, iter (msk_laws_toBoolS 0) (msk_laws_toBoolS 100000) s.objs.length (evCode E (pc_laws_toBoolS fu) msk_laws_toBoolS (lp_laws_toBoolS fu) 0 lc_laws_toBoolS_0) fuel s k = some r :=
  handle_ok (ps := ps_laws_toBoolS_0) (os := os_laws_toBoolS_0) (conv := conv_laws_toBoolS_0) (B := Bk_laws_toBoolS_0 fu) (fu := fu) back_laws_toBoolS_0 (fun raw => by kernel_rfl) 1 (fun c w => by kernel_rfl) (round_laws_toBoolS_0 fu)
theorem lpok_laws_toBoolS (fu : Nat) : LpOk E (pc_laws_toBoolS fu) msk_laws_toBoolS (lp_laws_toBoolS fu) (loops 0 body_laws_toBoolS) := loop_all 1 (by kernel_rfl) fun i hi => match i, hi with
  | 0, _ => by
    have h : (loops 0 body_laws_toBoolS).getD 0 (0, .skip) = (0, lc_laws_toBoolS_0) := by kernel_rfl
    rw [h]; exact lpok_laws_toBoolS_0 fu
  | i + 1, hi => absurd hi (by omega)
def S_laws_toBoolS (fu : Nat) (xs : List (D RT den)) : Option (Out RT den) := match xs with | [.rs za0_0 .bo na0_0 fa0_0] => some ⟨(Sl Bool), F_laws_toBoolS fu (⟨za0_0, na0_0, fa0_0⟩ : (Sl Bool)), enc_sl_bo, fun _ => true⟩ | _ => none
theorem hpc_laws_toBoolS (fu : Nat) : ∀ f xs o, pc_laws_toBoolS fu f xs = some o → ∀ y, o.x = some y → Good E Try.prog f xs (o.g y) := by
  intro f xs o h
  cases h
theorem goodv_laws_toBoolS (fu : Nat) (a_0 : (Sl Bool)) (y : (Sl Bool)) (hy : F_laws_toBoolS fu a_0 = some y) : Good E Try.prog 18 [(.rs a_0.z .bo a_0.n a_0.f)] (enc_sl_bo y) :=
  fun_good E_ok (pc_good (hpc_laws_toBoolS fu)) (fn := Try.f18) (c := body_laws_toBoolS) (out := out_sl_bo) (y := y) (by kernel_rfl) (by kernel_rfl) (by kernel_rfl) (lpok_laws_toBoolS fu) (fun d hd => out_sl_bo_enc d _ hd) ((ev_laws_toBoolS fu a_0).trans hy)
theorem good_laws_toBoolS (fu : Nat) : ∀ xs o, S_laws_toBoolS fu xs = some o → ∀ y, o.x = some y → Good E Try.prog 18 xs (o.g y) := by
  intro xs o h y hy
  unfold S_laws_toBoolS at h
  split at h
  · rename_i za0_0 na0_0 fa0_0
    cases h
    exact goodv_laws_toBoolS fu (⟨za0_0, na0_0, fa0_0⟩ : (Sl Bool)) y hy
  · cases h

/-! spec.ProbeMany -/
def F_spec_ProbeMany_B0 {ρ : Type} (fu : Nat) (list1_0 : (Sl Bool)) (o0_2 : Int) (o0_3 : Bool) (o0_4 : Int) (o0_5 : Bool) (o0_6 : Int) (o1_7 : Int) (o1_8 : Bool) (o1_9 : Int) (k0 : Int → Bool → Int → Option ρ) (i7_1 : Int) (o2_10 : Int) (o2_11 : Bool) (o2_12 : Int) (go : Int → Int → Bool → Int → Option ρ) : Option ρ :=
  (bif (decide (i7_1 < ((list1_0.n : Nat) : Int))) then ((bif (decide (0 ≤ i7_1) && decide ((Int.toNat i7_1) < list1_0.n)) then some () else none : Option Unit).bind fun _ =>
    ((F_spec_l12Probe fu (⟨o2_10, o2_11, o2_12⟩ : S_impl_Health) (list1_0.f (Int.toNat i7_1))).bind fun y37 => (go (IntKind.wrap .i64 (i7_1 + 1)) y37.1.Name y37.1.Up y37.1.Run))) else
    (k0 o2_10 o2_11 o2_12))
def F_spec_ProbeMany (fu : Nat) (h_0 : S_impl_Health) (list_1 : (Sl Bool)) : Option (S_impl_HealthResult) :=
  ((F_spec_HealthFault fu h_0).bind fun y36 => (bif (y36 != 0) then (some (⟨y36, false, (⟨0, false, 0⟩ : S_impl_Health)⟩ : S_impl_HealthResult)) else (bif (decide (((list_1.n : Nat) : Int) > 100)) then
    (some (⟨2, false, (⟨0, false, 0⟩ : S_impl_Health)⟩ : S_impl_HealthResult)) else (L (fun w0 go0 => F_spec_ProbeMany_B0 fu list_1 0 false 0 false 0 h_0.Name h_0.Up h_0.Run (fun z38 z39 z40 =>
    (some (⟨0, (!(z39 == h_0.Up)), (⟨z38, z39, z40⟩ : S_impl_Health)⟩ : S_impl_HealthResult))) w0.1 w0.2.1 w0.2.2.1 w0.2.2.2 (fun q0 q1 q2 q3 => go0 (q0, q1, q2, q3))) fu ((0,
    h_0.Name, h_0.Up, h_0.Run) : Int × Int × Bool × Int)))))
def pc_spec_ProbeMany (fu : Nat) : Pc RT den := fun f xs => match f with | 36 => S_spec_HealthFault fu xs | 37 => S_spec_l12Probe fu xs | _ => none
def msk_spec_ProbeMany (b : Nat) : List Nat := match b with | 0 => [0, 3, 5, 8, 9, 10, 11, 12, 13, 14, 15, 16, 17, 18, 19, 20, 21, 22, 23, 24, 25, 26, 27, 28, 29, 30, 31, 32, 33, 34, 35, 36, 37, 38, 39, 40] | 100000 => [0, 1, 3, 5, 7, 8, 9, 10, 11, 12, 13, 14, 15, 16, 17, 18, 19, 20, 21, 22, 23, 24, 25, 26, 27, 28, 29, 30, 31, 32, 33, 34, 35, 36, 37, 38, 39, 40] | _ => []
def ps_spec_ProbeMany_0 : List (Pat RT) := [.flat .dead, .flat (.rs .bo), .flat (.ref 1 0), .flat .dead, .flat (.ref 0 0), .flat .dead, .flat (.ref 2 0), .flat (.int .i64), .flat .dead, .flat .dead, .flat .dead, .flat .dead, .flat .dead, .flat .dead, .flat .dead, .flat .dead, .flat .dead, .flat .dead, .flat .dead, .flat .dead, .flat .dead, .flat .dead, .flat .dead, .flat .dead, .flat .dead, .flat .dead, .flat .dead, .flat .dead, .flat .dead, .flat .dead, .flat .dead, .flat .dead, .flat .dead, .flat .dead, .flat .dead, .flat .dead, .flat .dead, .flat .dead, .flat .dead, .flat .dead, .flat .dead]
def os_spec_ProbeMany_0 : List (OP RT) := [.box [(.int .i64), .bool, (.int .i64), .bool, (.int .i64)], .box [(.int .i64), .bool, (.int .i64)], .box [(.int .i64), .bool, (.int .i64)]]
def conv_spec_ProbeMany_0 (r : Raw den ps_spec_ProbeMany_0 os_spec_ProbeMany_0) : ((Sl Bool) × Int × Bool × Int × Bool × Int × Int × Bool × Int) × (Int × Int × Bool × Int) := ((r.1.2.1, r.2.1.1, r.2.1.2.1, r.2.1.2.2.1, r.2.1.2.2.2.1, r.2.1.2.2.2.2.1, r.2.2.1.1, r.2.2.1.2.1, r.2.2.1.2.2.1), (r.1.2.2.2.2.2.2.2.1, r.2.2.2.1.1, r.2.2.2.1.2.1, r.2.2.2.1.2.2.1))
def back_spec_ProbeMany_0 (c : (Sl Bool) × Int × Bool × Int × Bool × Int × Int × Bool × Int) (w : Int × Int × Bool × Int) : St RT den := ⟨[.dead, (.rs c.1.z .bo c.1.n c.1.f), (.ref 1 0), .dead, (.ref 0 0), .dead, (.ref 2 0), (.int .i64 w.1), .dead, .dead, .dead, .dead, .dead, .dead, .dead, .dead, .dead, .dead, .dead, .dead, .dead, .dead, .dead, .dead, .dead, .dead, .dead, .dead, .dead, .dead, .dead, .dead, .dead, .dead, .dead, .dead, .dead, .dead, .dead, .dead, .dead], [(.box [(.int .i64 c.2.1), (.bool c.2.2.1), (.int .i64 c.2.2.2.1), (.bool c.2.2.2.2.1), (.int .i64 c.2.2.2.2.2.1)]), (.box [(.int .i64 c.2.2.2.2.2.2.1), (.bool c.2.2.2.2.2.2.2.1), (.int .i64 c.2.2.2.2.2.2.2.2)]), (.box [(.int .i64 w.2.1), (.bool w.2.2.1), (.int .i64 w.2.2.2)])]⟩
def Bk_spec_ProbeMany_0 {ρ : Type} (fu : Nat) (c : (Sl Bool) × Int × Bool × Int × Bool × Int × Int × Bool × Int) (k : Ex → St RT den → Option ρ) (w : Int × Int × Bool × Int) (go : (Int × Int × Bool × Int) → Option ρ) : Option ρ := F_spec_ProbeMany_B0 fu c.1 c.2.1 c.2.2.1 c.2.2.2.1 c.2.2.2.2.1 c.2.2.2.2.2.1 c.2.2.2.2.2.2.1 c.2.2.2.2.2.2.2.1 c.2.2.2.2.2.2.2.2 (fun a0 a1 a2 => k (.exit 0) ⟨[.dead, .dead, (.ref 1 0), .dead, (.ref 0 0), .dead, (.ref 2 0), .dead, .dead, .dead, .dead, .dead, .dead, .dead, .dead, .dead, .dead, .dead, .dead, .dead, .dead, .dead, .dead, .dead, .dead, .dead, .dead, .dead, .dead, .dead, .dead, .dead, .dead, .dead, .dead, .dead, .dead, .dead, .dead, .dead, .dead], [(.box [(.int .i64 c.2.1), (.bool c.2.2.1), (.int .i64 c.2.2.2.1), (.bool c.2.2.2.2.1), (.int .i64 c.2.2.2.2.2.1)]), (.box [(.int .i64 c.2.2.2.2.2.2.1), (.bool c.2.2.2.2.2.2.2.1), (.int .i64 c.2.2.2.2.2.2.2.2)]), (.box [(.int .i64 a0), (.bool a1), (.int .i64 a2)])]⟩) w.1 w.2.1 w.2.2.1 w.2.2.2 (fun q0 q1 q2 q3 => go (q0, q1, q2, q3))
def lp_spec_ProbeMany (fu : Nat) : Lp RT den (S_impl_HealthResult) := fun b s k => match b with | 0 => handle ps_spec_ProbeMany_0 os_spec_ProbeMany_0 conv_spec_ProbeMany_0 (Bk_spec_ProbeMany_0 fu) fu s k | _ => none
theorem ev_spec_ProbeMany (fu : Nat) (h_0 : S_impl_Health) (list_1 : (Sl Bool)) : evFun E (pc_spec_ProbeMany fu) msk_spec_ProbeMany (lp_spec_ProbeMany fu) out_impl_HealthResult 17 [(.agg [(.int .i64 h_0.Name), (.bool h_0.Up), (.int .i64 h_0.Run)]), (.rs list_1.z .bo list_1.n list_1.f)] = F_spec_ProbeMany fu h_0 list_1 := by kernel_rfl
noncomputable def body_spec_ProbeMany : Code := Try.f17.body.getD .skip
noncomputable def lc_spec_ProbeMany_0 : Code := ((loops 0 body_spec_ProbeMany).getD 0 (0, .skip)).2
theorem round_spec_ProbeMany_0 (fu : Nat) (it : St RT den → Option (S_impl_HealthResult)) (k : Ex → St RT den → Option (S_impl_HealthResult)) c w : evCode E (pc_spec_ProbeMany fu) msk_spec_ProbeMany (lp_spec_ProbeMany fu) 0 lc_spec_ProbeMany_0 (back_spec_ProbeMany_0 c w) (after (msk_spec_ProbeMany 0) (msk_spec_ProbeMany 100000) 3 it k) = Bk_spec_ProbeMany_0 fu c k w (fun w => it (back_spec_ProbeMany_0 c w)) := by kernel_rfl
theorem lpok_spec_ProbeMany_0 (fu : Nat) : ∀ s k r, lp_spec_ProbeMany fu 0 s k = some r → ∃ fuel, iter (msk_spec_ProbeMany 0) (msk_spec_ProbeMany 100000) s.objs.length (evCode E (pc_spec_ProbeMany fu) msk_spec_ProbeMany (lp_spec_ProbeMany fu) 0 lc_spec_ProbeMany_0) fuel s k = some r :=
  handle_ok (ps := ps_spec_ProbeMany_0) (os := os_spec_ProbeMany_0) (conv := conv_spec_ProbeMany_0) (B := Bk_spec_ProbeMany_0 fu) (fu := fu) back_spec_ProbeMany_0 (fun raw => by kernel_rfl) 3 (fun c w => by kernel_rfl) (round_spec_ProbeMany_0 fu)
theorem lpok_spec_ProbeMany (fu : Nat) : LpOk E (pc_spec_ProbeMany fu) msk_spec_ProbeMany (lp_spec_ProbeMany fu) (loops 0 body_spec_ProbeMany) := loop_all 1 (by kernel_rfl) fun i hi => match i, hi with
  | 0, _ => by
    have h : (loops 0 body_spec_ProbeMany).getD 0 (0, .skip) = (0, lc_spec_ProbeMany_0) := by kernel_rfl
    rw [h]; exact lpok_spec_ProbeMany_0 fu
  | i + 1, hi => absurd hi (by omega)
def S_spec_ProbeMany (fu : Nat) (xs : List (D RT den)) : Option (Out RT den) := match xs with | [.agg [.int .i64 a0_1, .bool a0_2, .int .i64 a0_3], .rs za1_0 .bo na1_0 fa1_0] => some ⟨S_impl_HealthResult, F_spec_ProbeMany fu (⟨a0_1, a0_2, a0_3⟩ : S_impl_Health) (⟨za1_0, na1_0, fa1_0⟩ : (Sl Bool)), enc_impl_HealthResult, fun _ => true⟩ | _ => none
theorem hpc_spec_ProbeMany (fu : Nat) : ∀ f xs o, pc_spec_ProbeMany fu f xs = some o → ∀ y, o.x = some y → Good E Try.prog f xs (o.g y) := by
  intro f xs o h
  unfold pc_spec_ProbeMany at h
  split at h
  · exact good_spec_HealthFault fu xs o h
  · exact good_spec_l12Probe fu xs o h
  · cases h
theorem goodv_spec_ProbeMany (fu : Nat) (h_0 : S_impl_Health) (list_1 : (Sl Bool)) (y : S_impl_HealthResult) (hy : F_spec_ProbeMany fu h_0 list_1 = some y) : Good E Try.prog 17 [(.agg [(.int .i64 h_0.Name), (.bool h_0.Up), (.int .i64 h_0.Run)]), (.rs list_1.z .bo list_1.n list_1.f)] (enc_impl_HealthResult y) :=
  fun_good E_ok (pc_good (hpc_spec_ProbeMany fu)) (fn := Try.f17) (c := body_spec_ProbeMany) (out := out_impl_HealthResult) (y := y) (by kernel_rfl) (by kernel_rfl) (by kernel_rfl) (lpok_spec_ProbeMany fu) (fun d hd => out_impl_HealthResult_enc d _ hd) ((ev_spec_ProbeMany fu h_0 list_1).trans hy)
theorem good_spec_ProbeMany (fu : Nat) : ∀ xs o, S_spec_ProbeMany fu xs = some o → ∀ y, o.x = some y → Good E Try.prog 17 xs (o.g y) := by
  intro xs o h y hy
  unfold S_spec_ProbeMany at h
  split at h
  · rename_i a0_1 a0_2 a0_3 za1_0 na1_0 fa1_0
    cases h
    exact goodv_spec_ProbeMany fu (⟨a0_1, a0_2, a0_3⟩ : S_impl_Health) (⟨za1_0, na1_0, fa1_0⟩ : (Sl Bool)) y hy
  · cases h

/-! impl.ProbeMany -/
def F_impl_ProbeMany_B0 {ρ : Type} (fu : Nat) (t23_0 : (Sl Bool)) (t24_1 : Int) (o0_3 : Int) (o0_4 : Bool) (o0_5 : Int) (o0_6 : Bool) (o0_7 : Int) (o1_8 : Int) (o1_9 : Bool) (o1_10 : Int) (k0 : Int → Bool → Int → Option ρ) (t25_2 : Int) (o2_11 : Int) (o2_12 : Bool) (o2_13 : Int) (go : Int → Int → Bool → Int → Option ρ) : Option ρ :=
  (bif (decide (t25_2 < t24_1)) then ((bif (decide (0 ≤ t25_2) && decide ((Int.toNat t25_2) < t23_0.n)) then some () else none : Option Unit).bind fun _ => ((F_impl_Health_probe fu (⟨o2_11,
    o2_12, o2_13⟩ : S_impl_Health) (t23_0.f (Int.toNat t25_2))).bind fun y43 => (go (IntKind.wrap .i64 (t25_2 + 1)) y43.1.Name y43.1.Up y43.1.Run))) else (k0 o2_11 o2_12 o2_13))
def F_impl_ProbeMany (fu : Nat) (h_0 : S_impl_Health) (list_1 : (Sl Bool)) : Option (S_impl_HealthResult) :=
  ((F_impl_HealthFault fu h_0).bind fun y41 => (((bif (y41 == 0) then (some (decide (((list_1.n : Nat) : Int) > 100))) else (some false)) : Option Bool).bind fun m42 => (bif m42 then
    (some (⟨2, false, (⟨0, false, 0⟩ : S_impl_Health)⟩ : S_impl_HealthResult)) else (bif (y41 != 0) then (some (⟨y41, false, (⟨0, false, 0⟩ : S_impl_Health)⟩ : S_impl_HealthResult)) else
    (L (fun w0 go0 => F_impl_ProbeMany_B0 fu list_1 ((list_1.n : Nat) : Int) 0 false 0 false 0 h_0.Name h_0.Up h_0.Run (fun z44 z45 z46 => (some (⟨0, (!(z45 == h_0.Up)), (⟨z44, z45,
    z46⟩ : S_impl_Health)⟩ : S_impl_HealthResult))) w0.1 w0.2.1 w0.2.2.1 w0.2.2.2 (fun q0 q1 q2 q3 => go0 (q0, q1, q2, q3))) fu ((0, h_0.Name, h_0.Up, h_0.Run) : Int × Int × Bool × Int))))))
def pc_impl_ProbeMany (fu : Nat) : Pc RT den := fun f xs => match f with | 16 => S_impl_HealthFault fu xs | 38 => S_impl_Health_probe fu xs | _ => none
def msk_impl_ProbeMany (b : Nat) : List Nat := match b with | 0 => [0, 1, 3, 5, 7, 8, 9, 10, 11, 12, 13, 14, 15, 16, 17, 18, 19, 20, 21, 22, 26, 27, 28, 29, 30, 31, 32, 33, 34, 35, 36, 37, 38, 39, 40, 41, 42] | 100000 => [0, 1, 3, 5, 7, 8, 9, 10, 11, 12, 13, 14, 15, 16, 17, 18, 19, 20, 21, 22, 23, 24, 25, 26, 27, 28, 29, 30, 31, 32, 33, 34, 35, 36, 37, 38, 39, 40, 41, 42] | 200002 => [17] | _ => []
def ps_impl_ProbeMany_0 : List (Pat RT) := [.flat .dead, .flat .dead, .flat (.ref 1 0), .flat .dead, .flat (.ref 0 0), .flat .dead, .flat (.ref 2 0), .flat .dead, .flat .dead, .flat .dead, .flat .dead, .flat .dead, .flat .dead, .flat .dead, .flat .dead, .flat .dead, .flat .dead, .flat .dead, .flat .dead, .flat .dead, .flat .dead, .flat .dead, .flat .dead, .flat (.rs .bo), .flat (.int .i64), .flat (.int .i64), .flat .dead, .flat .dead, .flat .dead, .flat .dead, .flat .dead, .flat .dead, .flat .dead, .flat .dead, .flat .dead, .flat .dead, .flat .dead, .flat .dead, .flat .dead, .flat .dead, .flat .dead, .flat .dead, .flat .dead]
def os_impl_ProbeMany_0 : List (OP RT) := [.box [(.int .i64), .bool, (.int .i64), .bool, (.int .i64)], .box [(.int .i64), .bool, (.int .i64)], .box [(.int .i64), .bool, (.int .i64)]]
def conv_impl_ProbeMany_0 (r : Raw den ps_impl_ProbeMany_0 os_impl_ProbeMany_0) : ((Sl Bool) × Int × Int × Bool × Int × Bool × Int × Int × Bool × Int) × (Int × Int × Bool × Int) := ((r.1.2.2.2.2.2.2.2.2.2.2.2.2.2.2.2.2.2.2.2.2.2.2.2.1, r.1.2.2.2.2.2.2.2.2.2.2.2.2.2.2.2.2.2.2.2.2.2.2.2.2.1, r.2.1.1, r.2.1.2.1, r.2.1.2.2.1, r.2.1.2.2.2.1, r.2.1.2.2.2.2.1, r.2.2.1.1, r.2.2.1.2.1, r.2.2.1.2.2.1), (r.1.2.2.2.2.2.2.2.2.2.2.2.2.2.2.2.2.2.2.2.2.2.2.2.2.2.1, r.2.2.2.1.1, r.2.2.2.1.2.1, r.2.2.2.1.2.2.1))
def back_impl_ProbeMany_0 (c : (Sl Bool) × Int × Int × Bool × Int × Bool × Int × Int × Bool × Int) (w : Int × Int × Bool × Int) : St RT den := ⟨[.dead, .dead, (.ref 1 0), .dead, (.ref 0 0), .dead, (.ref 2 0), .dead, .dead, .dead, .dead, .dead, .dead, .dead, .dead, .dead, .dead, .dead, .dead, .dead, .dead, .dead, .dead, (.rs c.1.z .bo c.1.n c.1.f), (.int .i64 c.2.1), (.int .i64 w.1), .dead, .dead, .dead, .dead, .dead, .dead, .dead, .dead, .dead, .dead, .dead, .dead, .dead, .dead, .dead, .dead, .dead], [(.box [(.int .i64 c.2.2.1), (.bool c.2.2.2.1), (.int .i64 c.2.2.2.2.1), (.bool c.2.2.2.2.2.1), (.int .i64 c.2.2.2.2.2.2.1)]), (.box [(.int .i64 c.2.2.2.2.2.2.2.1), (.bool c.2.2.2.2.2.2.2.2.1), (.int .i64 c.2.2.2.2.2.2.2.2.2)]), (.box [(.int .i64 w.2.1), (.bool w.2.2.1), (.int .i64 w.2.2.2)])]⟩
def Bk_impl_ProbeMany_0 {ρ : Type} (fu : Nat) (c : (Sl Bool) × Int × Int × Bool × Int × Bool × Int × Int × Bool × Int) (k : Ex → St RT den → Option ρ) (w : Int × Int × Bool × Int) (go : (Int × Int × Bool × Int) → Option ρ) : Option ρ := F_impl_ProbeMany_B0 fu c.1 c.2.1 c.2.2.1 c.2.2.2.1 c.2.2.2.2.1 c.2.2.2.2.2.1 c.2.2.2.2.2.2.1 c.2.2.2.2.2.2.2.1 c.2.2.2.2.2.2.2.2.1 c.2.2.2.2.2.2.2.2.2 (fun a0 a1 a2 => k (.exit 0) ⟨[.dead, .dead, (.ref 1 0), .dead, (.ref 0 0), .dead, (.ref 2 0), .dead, .dead, .dead, .dead, .dead, .dead, .dead, .dead, .dead, .dead, .dead, .dead, .dead, .dead, .dead, .dead, .dead, .dead, .dead, .dead, .dead, .dead, .dead, .dead, .dead, .dead, .dead, .dead, .dead, .dead, .dead, .dead, .dead, .dead, .dead, .dead], [(.box [(.int .i64 c.2.2.1), (.bool c.2.2.2.1), (.int .i64 c.2.2.2.2.1), (.bool c.2.2.2.2.2.1), (.int .i64 c.2.2.2.2.2.2.1)]), (.box [(.int .i64 c.2.2.2.2.2.2.2.1), (.bool c.2.2.2.2.2.2.2.2.1), (.int .i64 c.2.2.2.2.2.2.2.2.2)]), (.box [(.int .i64 a0), (.bool a1), (.int .i64 a2)])]⟩) w.1 w.2.1 w.2.2.1 w.2.2.2 (fun q0 q1 q2 q3 => go (q0, q1, q2, q3))
def lp_impl_ProbeMany (fu : Nat) : Lp RT den (S_impl_HealthResult) := fun b s k => match b with | 0 => handle ps_impl_ProbeMany_0 os_impl_ProbeMany_0 conv_impl_ProbeMany_0 (Bk_impl_ProbeMany_0 fu) fu s k | _ => none
theorem ev_impl_ProbeMany (fu : Nat) (h_0 : S_impl_Health) (list_1 : (Sl Bool)) : evFun E (pc_impl_ProbeMany fu) msk_impl_ProbeMany (lp_impl_ProbeMany fu) out_impl_HealthResult 15 [(.agg [(.int .i64 h_0.Name), (.bool h_0.Up), (.int .i64 h_0.Run)]), (.rs list_1.z .bo list_1.n list_1.f)] = F_impl_ProbeMany fu h_0 list_1 := by kernel_rfl
noncomputable def body_impl_ProbeMany : Code := Try.f15.body.getD .skip
noncomputable def lc_impl_ProbeMany_0 : Code := ((loops 0 body_impl_ProbeMany).getD 0 (0, .skip)).2
theorem round_impl_ProbeMany_0 (fu : Nat) (it : St RT den → Option (S_impl_HealthResult)) (k : Ex → St RT den → Option (S_impl_HealthResult)) c w : evCode E (pc_impl_ProbeMany fu) msk_impl_ProbeMany (lp_impl_ProbeMany fu) 0 lc_impl_ProbeMany_0 (back_impl_ProbeMany_0 c w) (after (msk_impl_ProbeMany 0) (msk_impl_ProbeMany 100000) 3 it k) = Bk_impl_ProbeMany_0 fu c k w (fun w => it (back_impl_ProbeMany_0 c w)) := by kernel_rfl
theorem lpok_impl_ProbeMany_0 (fu : Nat) : ∀ s k r, lp_impl_ProbeMany fu 0 s k = some r → ∃ fuel, iter (msk_impl_ProbeMany 0) (msk_impl_ProbeMany 100000) s.objs.length (evCode E (pc_impl_ProbeMany fu) msk_impl_ProbeMany (lp_impl_ProbeMany fu) 0 lc_impl_ProbeMany_0) fuel s k = some r :=
  handle_ok (ps := ps_impl_ProbeMany_0) (os := os_impl_ProbeMany_0) (conv := conv_impl_ProbeMany_0) (B := Bk_impl_ProbeMany_0 fu) (fu := fu) back_impl_ProbeMany_0 (fun raw => by kernel_rfl) 3 (fun c w => by kernel_rfl) (round_impl_ProbeMany_0 fu)
theorem lpok_impl_ProbeMany (fu : Nat) : LpOk E (pc_impl_ProbeMany fu) msk_impl_ProbeMany (lp_impl_ProbeMany fu) (loops 0 body_impl_ProbeMany) := loop_all 1 (by kernel_rfl) fun i hi => match i, hi with
  | 0, _ => by
    have h : (loops 0 body_impl_ProbeMany).getD 0 (0, .skip) = (0, lc_impl_ProbeMany_0) := by kernel_rfl
    rw [h]; exact lpok_impl_ProbeMany_0 fu
  | i + 1, hi => absurd hi (by omega)
def S_impl_ProbeMany (fu : Nat) (xs : List (D RT den)) : Option (Out RT den) := match xs with | [.agg [.int .i64 a0_1, .bool a0_2, .int .i64 a0_3], .rs za1_0 .bo na1_0 fa1_0] => some ⟨S_impl_HealthResult, F_impl_ProbeMany fu (⟨a0_1, a0_2, a0_3⟩ : S_impl_Health) (⟨za1_0, na1_0, fa1_0⟩ : (Sl Bool)), enc_impl_HealthResult, fun _ => true⟩ | _ => none
theorem hpc_impl_ProbeMany (fu : Nat) : ∀ f xs o, pc_impl_ProbeMany fu f xs = some o → ∀ y, o.x = some y → Good E Try.prog f xs (o.g y) := by
  intro f xs o h
  unfold pc_impl_ProbeMany at h
  split at h
  · exact good_impl_HealthFault fu xs o h
  · exact good_impl_Health_probe fu xs o h
  · cases h
theorem goodv_impl_ProbeMany (fu : Nat) (h_0 : S_impl_Health) (list_1 : (Sl Bool)) (y : S_impl_HealthResult) (hy : F_impl_ProbeMany fu h_0 list_1 = some y) : Good E Try.prog 15 [(.agg [(.int .i64 h_0.Name), (.bool h_0.Up), (.int .i64 h_0.Run)]), (.rs list_1.z .bo list_1.n list_1.f)] (enc_impl_HealthResult y) :=
  fun_good E_ok (pc_good (hpc_impl_ProbeMany fu)) (fn := Try.f15) (c := body_impl_ProbeMany) (out := out_impl_HealthResult) (y := y) (by kernel_rfl) (by kernel_rfl) (by kernel_rfl) (lpok_impl_ProbeMany fu) (fun d hd => out_impl_HealthResult_enc d _ hd) ((ev_impl_ProbeMany fu h_0 list_1).trans hy)
theorem good_impl_ProbeMany (fu : Nat) : ∀ xs o, S_impl_ProbeMany fu xs = some o → ∀ y, o.x = some y → Good E Try.prog 15 xs (o.g y) := by
  intro xs o h y hy
  unfold S_impl_ProbeMany at h
  split at h
  · rename_i a0_1 a0_2 a0_3 za1_0 na1_0 fa1_0
    cases h
    exact goodv_impl_ProbeMany fu (⟨a0_1, a0_2, a0_3⟩ : S_impl_Health) (⟨za1_0, na1_0, fa1_0⟩ : (Sl Bool)) y hy
  · cases h

/-! laws.eqBoolS -/
def F_laws_eqBoolS_B0 {ρ : Type} (fu : Nat) (a0_0 : (Sl Bool)) (b1_1 : (Sl Bool)) (k0 : Option ρ) (k1 : Option ρ) (i5_2 : Int) (go : Int → Option ρ) : Option ρ :=
  (bif (decide (i5_2 < ((a0_0.n : Nat) : Int))) then ((bif (decide (0 ≤ i5_2) && decide ((Int.toNat i5_2) < a0_0.n)) then some () else none : Option Unit).bind fun _ => ((bif (decide (0 ≤ i5_2) &&
    decide ((Int.toNat i5_2) < b1_1.n)) then some () else none : Option Unit).bind fun _ => (bif (!((a0_0.f (Int.toNat i5_2)) == (b1_1.f (Int.toNat i5_2)))) then k0 else (go (IntKind.wrap .i64 (i5_2 + 1)))))) else
    k1)
def F_laws_eqBoolS (fu : Nat) (a_0 : (Sl Bool)) (b_1 : (Sl Bool)) : Option (Bool) :=
  (bif (((a_0.n : Nat) : Int) != ((b_1.n : Nat) : Int)) then (some false) else (L (fun w0 go0 => F_laws_eqBoolS_B0 fu a_0 b_1 (some false) (some true) w0 go0) fu (0 : Int)))
def pc_laws_eqBoolS (fu : Nat) : Pc RT den := fun f xs => none
def msk_laws_eqBoolS (b : Nat) : List Nat := match b with | 0 => [2, 3, 4, 6, 7, 8, 9, 10, 11, 12, 13, 14, 15, 16, 17, 18, 19, 20, 21, 22, 23, 24, 25] | 100000 => [0, 1, 2, 3, 5, 6, 7, 8, 9, 10, 11, 12, 13, 14, 15, 16, 17, 18, 19, 20, 21, 22, 23, 24, 25] | _ => []
def ps_laws_eqBoolS_0 : List (Pat RT) := [.flat (.rs .bo), .flat (.rs .bo), .flat .dead, .flat .dead, .flat .dead, .flat (.int .i64), .flat .dead, .flat .dead, .flat .dead, .flat .dead, .flat .dead, .flat .dead, .flat .dead, .flat .dead, .flat .dead, .flat .dead, .flat .dead, .flat .dead, .flat .dead, .flat .dead, .flat .dead, .flat .dead, .flat .dead, .flat .dead, .flat .dead, .flat .dead]
def os_laws_eqBoolS_0 : List (OP RT) := []
def conv_laws_eqBoolS_0 (r : Raw den ps_laws_eqBoolS_0 os_laws_eqBoolS_0) : ((Sl Bool) × (Sl Bool)) × (Int) := ((r.1.1, r.1.2.1), r.1.2.2.2.2.2.1)
def back_laws_eqBoolS_0 (c : (Sl Bool) × (Sl Bool)) (w : Int) : St RT den := ⟨[(.rs c.1.z .bo c.1.n c.1.f), (.rs c.2.z .bo c.2.n c.2.f), .dead, .dead, .dead, (.int .i64 w), .dead, .dead, .dead, .dead, .dead, .dead, .dead, .dead, .dead, .dead, .dead, .dead, .dead, .dead, .dead, .dead, .dead, .dead, .dead, .dead], []⟩
def Bk_laws_eqBoolS_0 {ρ : Type} (fu : Nat) (c : (Sl Bool) × (Sl Bool)) (k : Ex → St RT den → Option ρ) (w : Int) (go : (Int) → Option ρ) : Option ρ := F_laws_eqBoolS_B0 fu c.1 c.2 (k .ret ⟨[.dead, .dead, .dead, .dead, (.bool false), .dead, .dead, .dead, .dead, .dead, .dead, .dead, .dead, .dead, .dead, .dead, .dead, .dead, .dead, .dead, .dead, .dead, .dead, .dead, .dead, .dead], []⟩) (k (.exit 0) ⟨[.dead, .dead, .dead, .dead, .dead, .dead, .dead, .dead, .dead, .dead, .dead, .dead, .dead, .dead, .dead, .dead, .dead, .dead, .dead, .dead, .dead, .dead, .dead, .dead, .dead, .dead], []⟩) w go
def lp_laws_eqBoolS (fu : Nat) : Lp RT den (Bool) := fun b s k => match b with | 0 => handle ps_laws_eqBoolS_0 os_laws_eqBoolS_0 conv_laws_eqBoolS_0 (Bk_laws_eqBoolS_0 fu) fu s k | _ => none
theorem ev_laws_eqBoolS (fu : Nat) (a_0 : (Sl Bool)) (b_1 : (Sl Bool)) : evFun E (pc_laws_eqBoolS fu) msk_laws_eqBoolS (lp_laws_eqBoolS fu) out_bo 19 [(.rs a_0.z .bo a_0.n a_0.f), (.rs b_1.z .bo b_1.n b_1.f)] = F_laws_eqBoolS fu a_0 b_1 := by kernel_rfl
noncomputable def body_laws_eqBoolS : Code := Try.f19.body.getD .skip
noncomputable def lc_laws_eqBoolS_0 : Code := ((loops 0 body_laws_eqBoolS).getD 0 (0, .skip)).2
theorem round_laws_eqBoolS_0 (fu : Nat) (it : St RT den → Option (Bool)) (k : Ex → St RT den → Option (Bool)) c w : evCode E (pc_laws_eqBoolS fu) msk_laws_eqBoolS (lp_laws_eqBoolS fu) 0 lc_laws_eqBoolS_0 (back_laws_eqBoolS_0 c w) (after (msk_laws_eqBoolS 0) (msk_laws_eqBoolS 100000) 0 it k) = Bk_laws_eqBoolS_0 fu c k w (fun w => it (back_laws_eqBoolS_0 c w)) := by kernel_rfl
theorem lpok_laws_eqBoolS_0 (fu : Nat) : ∀ s k r, lp_laws_eqBoolS fu 0 s k = some r → ∃ fuel, iter (msk_laws_eqBoolS 0) (msk_laws_eqBoolS 100000) s.objs.length (evCode E (pc_laws_eqBoolS fu) msk_laws_eqBoolS (lp_laws_eqBoolS fu) 0 lc_laws_eqBoolS_0) fuel s k = some r :=
  handle_ok (ps := ps_laws_eqBoolS_0) (os := os_laws_eqBoolS_0) (conv := conv_laws_eqBoolS_0) (B := Bk_laws_eqBoolS_0 fu) (fu := fu) back_laws_eqBoolS_0 (fun raw => by kernel_rfl) 0 (fun c w => by kernel_rfl) (round_laws_eqBoolS_0 fu)
theorem lpok_laws_eqBoolS (fu : Nat) : LpOk E (pc_laws_eqBoolS fu) msk_laws_eqBoolS (lp_laws_eqBoolS fu) (loops 0 body_laws_eqBoolS) := loop_all 1 (by kernel_rfl) fun i hi => match i, hi with
  | 0, _ => by
    have h : (loops 0 body_laws_eqBoolS).getD 0 (0, .skip) = (0, lc_laws_eqBoolS_0) := by kernel_rfl
    rw [h]; exact lpok_laws_eqBoolS_0 fu
  | i + 1, hi => absurd hi (by omega)
def S_laws_eqBoolS (fu : Nat) (xs : List (D RT den)) : Option (Out RT den) := match xs with | [.rs za0_0 .bo na0_0 fa0_0, .rs za1_0 .bo na1_0 fa1_0] => some ⟨Bool, F_laws_eqBoolS fu (⟨za0_0, na0_0, fa0_0⟩ : (Sl Bool)) (⟨za1_0, na1_0, fa1_0⟩ : (Sl Bool)), enc_bo, fun _ => true⟩ | _ => none
theorem hpc_laws_eqBoolS (fu : Nat) : ∀ f xs o, pc_laws_eqBoolS fu f xs = some o → ∀ y, o.x = some y → Good E Try.prog f xs (o.g y) := by
  intro f xs o h
  cases h
theorem goodv_laws_eqBoolS (fu : Nat) (a_0 : (Sl Bool)) (b_1 : (Sl Bool)) (y : Bool) (hy : F_laws_eqBoolS fu a_0 b_1 = some y) : Good E Try.prog 19 [(.rs a_0.z .bo a_0.n a_0.f), (.rs b_1.z .bo b_1.n b_1.f)] (enc_bo y) :=
  fun_good E_ok (pc_good (hpc_laws_eqBoolS fu)) (fn := Try.f19) (c := body_laws_eqBoolS) (out := out_bo) (y := y) (by kernel_rfl) (by kernel_rfl) (by kernel_rfl) (lpok_laws_eqBoolS fu) (fun d hd => out_bo_enc d _ hd) ((ev_laws_eqBoolS fu a_0 b_1).trans hy)
theorem good_laws_eqBoolS (fu : Nat) : ∀ xs o, S_laws_eqBoolS fu xs = some o → ∀ y, o.x = some y → Good E Try.prog 19 xs (o.g y) := by
  intro xs o h y hy
  unfold S_laws_eqBoolS at h
  split at h
  · rename_i za0_0 na0_0 fa0_0 za1_0 na1_0 fa1_0
    cases h
    exact goodv_laws_eqBoolS fu (⟨za0_0, na0_0, fa0_0⟩ : (Sl Bool)) (⟨za1_0, na1_0, fa1_0⟩ : (Sl Bool)) y hy
  · cases h

/-! laws.FnExactProbeMany -/
def F_laws_FnExactProbeMany (fu : Nat) (aH_0 : S_impl_Health) (aList_1 : (Sl Bool)) : Option (Bool) :=
  (bif (decide (((aList_1.n : Nat) : Int) > 1048576)) then (some true) else ((F_laws_toHealth fu aH_0).bind fun y26 => ((F_laws_toBoolS fu aList_1).bind fun y27 =>
    ((F_spec_ProbeMany fu y26 y27).bind fun y28 => ((F_laws_toBoolS fu aList_1).bind fun y29 => ((F_laws_toHealth fu aH_0).bind fun y30 => ((F_impl_ProbeMany fu y30 y29).bind fun y31 =>
    ((F_laws_eqHealthResult fu y31 y28).bind fun y32 => (bif (!y32) then (some false) else ((F_laws_toBoolS fu aList_1).bind fun y33 => ((F_laws_eqBoolS fu y29 y33).bind fun y34 =>
    (bif (!y34) then (some false) else (some true)))))))))))))
def pc_laws_FnExactProbeMany (fu : Nat) : Pc RT den := fun f xs => match f with | 10 => S_laws_toHealth fu xs | 12 => S_laws_eqHealthResult fu xs | 15 => S_impl_ProbeMany fu xs | 17 => S_spec_ProbeMany fu xs | 18 => S_laws_toBoolS fu xs | 19 => S_laws_eqBoolS fu xs | _ => none
def msk_laws_FnExactProbeMany (b : Nat) : List Nat := []
def lp_laws_FnExactProbeMany (fu : Nat) : Lp RT den (Bool) := fun b s k => none
theorem ev_laws_FnExactProbeMany (fu : Nat) (aH_0 : S_impl_Health) (aList_1 : (Sl Bool)) : evFun E (pc_laws_FnExactProbeMany fu) msk_laws_FnExactProbeMany (lp_laws_FnExactProbeMany fu) out_bo 5 [(.agg [(.int .i64 aH_0.Name), (.bool aH_0.Up), (.int .i64 aH_0.Run)]), (.rs aList_1.z .bo aList_1.n aList_1.f)] = F_laws_FnExactProbeMany fu aH_0 aList_1 := by kernel_rfl
noncomputable def body_laws_FnExactProbeMany : Code := Try.f5.body.getD .skip
theorem lpok_laws_FnExactProbeMany (fu : Nat) : LpOk E (pc_laws_FnExactProbeMany fu) msk_laws_FnExactProbeMany (lp_laws_FnExactProbeMany fu) (loops 0 body_laws_FnExactProbeMany) := by
  have h : loops 0 body_laws_FnExactProbeMany = [] := by kernel_rfl
  rw [h]; intro p hp; cases hp
def S_laws_FnExactProbeMany (fu : Nat) (xs : List (D RT den)) : Option (Out RT den) := match xs with | [.agg [.int .i64 a0_1, .bool a0_2, .int .i64 a0_3], .rs za1_0 .bo na1_0 fa1_0] => some ⟨Bool, F_laws_FnExactProbeMany fu (⟨a0_1, a0_2, a0_3⟩ : S_impl_Health) (⟨za1_0, na1_0, fa1_0⟩ : (Sl Bool)), enc_bo, fun _ => true⟩ | _ => none
theorem hpc_laws_FnExactProbeMany (fu : Nat) : ∀ f xs o, pc_laws_FnExactProbeMany fu f xs = some o → ∀ y, o.x = some y → Good E Try.prog f xs (o.g y) := by
  intro f xs o h
  unfold pc_laws_FnExactProbeMany at h
  split at h
  · exact good_laws_toHealth fu xs o h
  · exact good_laws_eqHealthResult fu xs o h
  · exact good_impl_ProbeMany fu xs o h
  · exact good_spec_ProbeMany fu xs o h
  · exact good_laws_toBoolS fu xs o h
  · exact good_laws_eqBoolS fu xs o h
  · cases h
theorem goodv_laws_FnExactProbeMany (fu : Nat) (aH_0 : S_impl_Health) (aList_1 : (Sl Bool)) (y : Bool) (hy : F_laws_FnExactProbeMany fu aH_0 aList_1 = some y) : Good E Try.prog 5 [(.agg [(.int .i64 aH_0.Name), (.bool aH_0.Up), (.int .i64 aH_0.Run)]), (.rs aList_1.z .bo aList_1.n aList_1.f)] (enc_bo y) :=
  fun_good E_ok (pc_good (hpc_laws_FnExactProbeMany fu)) (fn := Try.f5) (c := body_laws_FnExactProbeMany) (out := out_bo) (y := y) (by kernel_rfl) (by kernel_rfl) (by kernel_rfl) (lpok_laws_FnExactProbeMany fu) (fun d hd => out_bo_enc d _ hd) ((ev_laws_FnExactProbeMany fu aH_0 aList_1).trans hy)
theorem good_laws_FnExactProbeMany (fu : Nat) : ∀ xs o, S_laws_FnExactProbeMany fu xs = some o → ∀ y, o.x = some y → Good E Try.prog 5 xs (o.g y) := by
  intro xs o h y hy
  unfold S_laws_FnExactProbeMany at h
  split at h
  · rename_i a0_1 a0_2 a0_3 za1_0 na1_0 fa1_0
    cases h
    exact goodv_laws_FnExactProbeMany fu (⟨a0_1, a0_2, a0_3⟩ : S_impl_Health) (⟨za1_0, na1_0, fa1_0⟩ : (Sl Bool)) y hy
  · cases h

/-! laws.szVerdictS -/
def F_laws_szVerdictS (fu : Nat) (a_0 : (Sl S_impl_Verdict)) (left_1 : Int) : Option (Int) :=
  (bif (decide ((IntKind.wrap .i64 (left_1 - ((a_0.n : Nat) : Int))) < 0)) then (some (-1)) else (some (IntKind.wrap .i64 (left_1 - ((a_0.n : Nat) : Int)))))
def pc_laws_szVerdictS (fu : Nat) : Pc RT den := fun f xs => none
def msk_laws_szVerdictS (b : Nat) : List Nat := []
def lp_laws_szVerdictS (fu : Nat) : Lp RT den (Int) := fun b s k => none
theorem ev_laws_szVerdictS (fu : Nat) (a_0 : (Sl S_impl_Verdict)) (left_1 : Int) : evFun E (pc_laws_szVerdictS fu) msk_laws_szVerdictS (lp_laws_szVerdictS fu) out_i64 20 [(.rs a_0.z .impl_Verdict a_0.n a_0.f), (.int .i64 left_1)] = F_laws_szVerdictS fu a_0 left_1 := by kernel_rfl
noncomputable def body_laws_szVerdictS : Code := Try.f20.body.getD .skip
theorem lpok_laws_szVerdictS (fu : Nat) : LpOk E (pc_laws_szVerdictS fu) msk_laws_szVerdictS (lp_laws_szVerdictS fu) (loops 0 body_laws_szVerdictS) := by
  have h : loops 0 body_laws_szVerdictS = [] := by kernel_rfl
  rw [h]; intro p hp; cases hp
def S_laws_szVerdictS (fu : Nat) (xs : List (D RT den)) : Option (Out RT den) := match xs with | [.rs za0_0 .impl_Verdict na0_0 fa0_0, .int .i64 a1_0] => some ⟨Int, F_laws_szVerdictS fu (⟨za0_0, na0_0, fa0_0⟩ : (Sl S_impl_Verdict)) a1_0, enc_i64, fun _ => true⟩ | _ => none
theorem hpc_laws_szVerdictS (fu : Nat) : ∀ f xs o, pc_laws_szVerdictS fu f xs = some o → ∀ y, o.x = some y → Good E Try.prog f xs (o.g y) := by
  intro f xs o h
  cases h
theorem goodv_laws_szVerdictS (fu : Nat) (a_0 : (Sl S_impl_Verdict)) (left_1 : Int) (y : Int) (hy : F_laws_szVerdictS fu a_0 left_1 = some y) : Good E Try.prog 20 [(.rs a_0.z .impl_Verdict a_0.n a_0.f), (.int .i64 left_1)] (enc_i64 y) :=
  fun_good E_ok (pc_good (hpc_laws_szVerdictS fu)) (fn := Try.f20) (c := body_laws_szVerdictS) (out := out_i64) (y := y) (by kernel_rfl) (by kernel_rfl) (by kernel_rfl) (lpok_laws_szVerdictS fu) (fun d hd => out_i64_enc d _ hd) ((ev_laws_szVerdictS fu a_0 left_1).trans hy)
theorem good_laws_szVerdictS (fu : Nat) : ∀ xs o, S_laws_szVerdictS fu xs = some o → ∀ y, o.x = some y → Good E Try.prog 20 xs (o.g y) := by
  intro xs o h y hy
  unfold S_laws_szVerdictS at h
  split at h
  · rename_i za0_0 na0_0 fa0_0 a1_0
    cases h
    exact goodv_laws_szVerdictS fu (⟨za0_0, na0_0, fa0_0⟩ : (Sl S_impl_Verdict)) a1_0 y hy
  · cases h

/-! laws.toVerdict -/
def F_laws_toVerdict (fu : Nat) (a_0 : S_impl_Verdict) : Option (S_impl_Verdict) :=
  (some a_0)
def pc_laws_toVerdict (fu : Nat) : Pc RT den := fun f xs => none
def msk_laws_toVerdict (b : Nat) : List Nat := []
def lp_laws_toVerdict (fu : Nat) : Lp RT den (S_impl_Verdict) := fun b s k => none
theorem ev_laws_toVerdict (fu : Nat) (a_0 : S_impl_Verdict) : evFun E (pc_laws_toVerdict fu) msk_laws_toVerdict (lp_laws_toVerdict fu) out_impl_Verdict 49 [(.agg [(.int .i64 a_0.Prober), (.int .i64 a_0.Name), (.bool a_0.Up), (.int .i64 a_0.Epoch)])] = F_laws_toVerdict fu a_0 := by kernel_rfl
noncomputable def body_laws_toVerdict : Code := Try.f49.body.getD .skip
theorem lpok_laws_toVerdict (fu : Nat) : LpOk E (pc_laws_toVerdict fu) msk_laws_toVerdict (lp_laws_toVerdict fu) (loops 0 body_laws_toVerdict) := by
  have h : loops 0 body_laws_toVerdict = [] := by kernel_rfl
  rw [h]; intro p hp; cases hp
def S_laws_toVerdict (fu : Nat) (xs : List (D RT den)) : Option (Out RT den) := match xs with | [.agg [.int .i64 a0_1, .int .i64 a0_2, .bool a0_3, .int .i64 a0_4]] => some ⟨S_impl_Verdict, F_laws_toVerdict fu (⟨a0_1, a0_2, a0_3, a0_4⟩ : S_impl_Verdict), enc_impl_Verdict, fun _ => true⟩ | _ => none
theorem hpc_laws_toVerdict (fu : Nat) : ∀ f xs o, pc_laws_toVerdict fu f xs = some o → ∀ y, o.x = some y → Good E Try.prog f xs (o.g y) := by
  intro f xs o h
  cases h
theorem goodv_laws_toVerdict (fu : Nat) (a_0 : S_impl_Verdict) (y : S_impl_Verdict) (hy : F_laws_toVerdict fu a_0 = some y) : Good E Try.prog 49 [(.agg [(.int .i64 a_0.Prober), (.int .i64 a_0.Name), (.bool a_0.Up), (.int .i64 a_0.Epoch)])] (enc_impl_Verdict y) :=
  fun_good E_ok (pc_good (hpc_laws_toVerdict fu)) (fn := Try.f49) (c := body_laws_toVerdict) (out := out_impl_Verdict) (y := y) (by kernel_rfl) (by kernel_rfl) (by kernel_rfl) (lpok_laws_toVerdict fu) (fun d hd => out_impl_Verdict_enc d _ hd) ((ev_laws_toVerdict fu a_0).trans hy)
theorem good_laws_toVerdict (fu : Nat) : ∀ xs o, S_laws_toVerdict fu xs = some o → ∀ y, o.x = some y → Good E Try.prog 49 xs (o.g y) := by
  intro xs o h y hy
  unfold S_laws_toVerdict at h
  split at h
  · rename_i a0_1 a0_2 a0_3 a0_4
    cases h
    exact goodv_laws_toVerdict fu (⟨a0_1, a0_2, a0_3, a0_4⟩ : S_impl_Verdict) y hy
  · cases h

/-! laws.toVerdictS -/
def F_laws_toVerdictS_B0 {ρ : Type} (fu : Nat) (a0_0 : (Sl S_impl_Verdict)) (out3_1 : Nat) (on0_3 : Nat) (k0 : (Nat → S_impl_Verdict) → Option ρ) (i4_2 : Int) (of0_4 : (Nat → S_impl_Verdict)) (go : Int → (Nat → S_impl_Verdict) → Option ρ) : Option ρ :=
  (bif (decide (i4_2 < ((a0_0.n : Nat) : Int))) then ((bif (decide (0 ≤ i4_2) && decide ((Int.toNat i4_2) < a0_0.n)) then some () else none : Option Unit).bind fun _ =>
    ((F_laws_toVerdict fu (a0_0.f (Int.toNat i4_2))).bind fun y55 => ((bif (decide (0 ≤ i4_2) && decide ((Int.toNat i4_2) < out3_1)) then some () else none : Option Unit).bind fun _ =>
    (go (IntKind.wrap .i64 (i4_2 + 1)) (fun j => if j = (Int.toNat i4_2) then y55 else of0_4 j))))) else (k0 of0_4))
def F_laws_toVerdictS (fu : Nat) (a_0 : (Sl S_impl_Verdict)) : Option ((Sl S_impl_Verdict)) :=
  (bif (decide (0 ≤ ((a_0.n : Nat) : Int)) && (decide (((a_0.n : Nat) : Int) = ((a_0.n : Nat) : Int)) && (decide ((32 : Int) * ((a_0.n : Nat) : Int) ≤ 281474976710656) && decide (((a_0.n : Nat) : Int) ≤ 9223372036854775807)))) then
    (L (fun w0 go0 => F_laws_toVerdictS_B0 fu a_0 (Int.toNat ((a_0.n : Nat) : Int)) (Int.toNat ((a_0.n : Nat) : Int)) (fun z56 => (some (⟨none, (Int.toNat ((a_0.n : Nat) : Int)),
    z56⟩ : (Sl S_impl_Verdict)))) w0.1 w0.2 (fun q0 q1 => go0 (q0, q1))) fu ((0, (fun _ => (⟨0, 0, false, 0⟩ : S_impl_Verdict))) : Int × (Nat → S_impl_Verdict))) else none)
def pc_laws_toVerdictS (fu : Nat) : Pc RT den := fun f xs => match f with | 49 => S_laws_toVerdict fu xs | _ => none
def msk_laws_toVerdictS (b : Nat) : List Nat := match b with | 0 => [1, 2, 5, 6, 7, 8, 9, 10, 11, 12, 13, 14, 15, 16, 17, 18, 19, 20, 21, 22] | 100000 => [0, 1, 4, 5, 6, 7, 8, 9, 10, 11, 12, 13, 14, 15, 16, 17, 18, 19, 20, 21, 22] | _ => []
def ps_laws_toVerdictS_0 : List (Pat RT) := [.flat (.rs .impl_Verdict), .flat .dead, .flat .dead, .flat (.os 0), .flat (.int .i64), .flat .dead, .flat .dead, .flat .dead, .flat .dead, .flat .dead, .flat .dead, .flat .dead, .flat .dead, .flat .dead, .flat .dead, .flat .dead, .flat .dead, .flat .dead, .flat .dead, .flat .dead, .flat .dead, .flat .dead, .flat .dead]
def os_laws_toVerdictS_0 : List (OP RT) := [.row .impl_Verdict]
def conv_laws_toVerdictS_0 (r : Raw den ps_laws_toVerdictS_0 os_laws_toVerdictS_0) : ((Sl S_impl_Verdict) × Nat × Nat) × (Int × (Nat → S_impl_Verdict)) := ((r.1.1, r.1.2.2.2.1, r.2.1.1), (r.1.2.2.2.2.1, r.2.1.2))
def back_laws_toVerdictS_0 (c : (Sl S_impl_Verdict) × Nat × Nat) (w : Int × (Nat → S_impl_Verdict)) : St RT den := ⟨[(.rs c.1.z .impl_Verdict c.1.n c.1.f), .dead, .dead, (.os 0 c.2.1), (.int .i64 w.1), .dead, .dead, .dead, .dead, .dead, .dead, .dead, .dead, .dead, .dead, .dead, .dead, .dead, .dead, .dead, .dead, .dead, .dead], [(.row .impl_Verdict c.2.2 w.2)]⟩
def Bk_laws_toVerdictS_0 {ρ : Type} (fu : Nat) (c : (Sl S_impl_Verdict) × Nat × Nat) (k : Ex → St RT den → Option ρ) (w : Int × (Nat → S_impl_Verdict)) (go : (Int × (Nat → S_impl_Verdict)) → Option ρ) : Option ρ := F_laws_toVerdictS_B0 fu c.1 c.2.1 c.2.2 (fun a0 => k (.exit 0) ⟨[.dead, .dead, .dead, (.os 0 c.2.1), .dead, .dead, .dead, .dead, .dead, .dead, .dead, .dead, .dead, .dead, .dead, .dead, .dead, .dead, .dead, .dead, .dead, .dead, .dead], [(.row .impl_Verdict c.2.2 a0)]⟩) w.1 w.2 (fun q0 q1 => go (q0, q1))
def lp_laws_toVerdictS (fu : Nat) : Lp RT den ((Sl S_impl_Verdict)) := fun b s k => match b with | 0 => handle ps_laws_toVerdictS_0 os_laws_toVerdictS_0 conv_laws_toVerdictS_0 (Bk_laws_toVerdictS_0 fu) fu s k | _ => none
theorem ev_laws_toVerdictS (fu : Nat) (a_0 : (Sl S_impl_Verdict)) : evFun E (pc_laws_toVerdictS fu) msk_laws_toVerdictS (lp_laws_toVerdictS fu) out_sl_impl_Verdict 22 [(.rs a_0.z .impl_Verdict a_0.n a_0.f)] = F_laws_toVerdictS fu a_0 := by kernel_rfl
noncomputable def body_laws_toVerdictS : Code := Try.f22.body.getD .skip
noncomputable def lc_laws_toVerdictS_0 : Code := ((loops 0 body_laws_toVerdictS).getD 0 (0, .skip)).2
theorem round_laws_toVerdictS_0 (fu : Nat) (it : St RT den → Option ((Sl S_impl_Verdict))) (k : Ex → St RT den → Option ((Sl S_impl_Verdict))) c w : evCode E (pc_laws_toVerdictS fu) msk_laws_toVerdictS (lp_laws_toVerdictS fu) 0 lc_laws_toVerdictS_0 (back_laws_toVerdictS_0 c w) (after (msk_laws_toVerdictS 0) (msk_laws_toVerdictS 100000) 1 it k) = Bk_laws_toVerdictS_0 fu c k w (fun w => it (back_laws_toVerdictS_0 c w)) := by kernel_rfl
theorem lpok_laws_toVerdictS_0 (fu : Nat) : ∀ s k r, lp_laws_toVerdictS fu 0 s k = some r → ∃ fuel, iter (msk_laws_toVerdictS 0) (msk_laws_toVerdictS 100000) s.objs.length (evCode E (pc_laws_toVerdictS fu) msk_laws_toVerdictS (lp_laws_toVerdictS fu) 0 lc_laws_toVerdictS_0) fuel s k = some r :=
  handle_ok (ps := ps_laws_toVerdictS_0) (os := os_laws_toVerdictS_0) (conv := conv_laws_toVerdictS_0) (B := Bk_laws_toVerdictS_0 fu) (fu := fu) back_laws_toVerdictS_0 (fun raw => by kernel_rfl) 1 (fun c w => by kernel_rfl) (round_laws_toVerdictS_0 fu)
theorem lpok_laws_toVerdictS (fu : Nat) : LpOk E (pc_laws_toVerdictS fu) msk_laws_toVerdictS (lp_laws_toVerdictS fu) (loops 0 body_laws_toVerdictS) := loop_all 1 (by kernel_rfl) fun i hi => match i, hi with
  | 0, _ => by
    have h : (loops 0 body_laws_toVerdictS).getD 0 (0, .skip) = (0, lc_laws_toVerdictS_0) := by kernel_rfl
    rw [h]; exact lpok_laws_toVerdictS_0 fu
  | i + 1, hi => absurd hi (by omega)
def S_laws_toVerdictS (fu : Nat) (xs : List (D RT den)) : Option (Out RT den) := match xs with | [.rs za0_0 .impl_Verdict na0_0 fa0_0] => some ⟨(Sl S_impl_Verdict), F_laws_toVerdictS fu (⟨za0_0, na0_0, fa0_0⟩ : (Sl S_impl_Verdict)), enc_sl_impl_Verdict, fun _ => true⟩ | _ => none
theorem hpc_laws_toVerdictS (fu : Nat) : ∀ f xs o, pc_laws_toVerdictS fu f xs = some o → ∀ y, o.x = some y → Good E Try.prog f xs (o.g y) := by
  intro f xs o h
  unfold pc_laws_toVerdictS at h
  split at h
  · exact good_laws_toVerdict fu xs o h
  · cases h
theorem goodv_laws_toVerdictS (fu : Nat) (a_0 : (Sl S_impl_Verdict)) (y : (Sl S_impl_Verdict)) (hy : F_laws_toVerdictS fu a_0 = some y) : Good E Try.prog 22 [(.rs a_0.z .impl_Verdict a_0.n a_0.f)] (enc_sl_impl_Verdict y) :=
  fun_good E_ok (pc_good (hpc_laws_toVerdictS fu)) (fn := Try.f22) (c := body_laws_toVerdictS) (out := out_sl_impl_Verdict) (y := y) (by kernel_rfl) (by kernel_rfl) (by kernel_rfl) (lpok_laws_toVerdictS fu) (fun d hd => out_sl_impl_Verdict_enc d _ hd) ((ev_laws_toVerdictS fu a_0).trans hy)
theorem good_laws_toVerdictS (fu : Nat) : ∀ xs o, S_laws_toVerdictS fu xs = some o → ∀ y, o.x = some y → Good E Try.prog 22 xs (o.g y) := by
  intro xs o h y hy
  unfold S_laws_toVerdictS at h
  split at h
  · rename_i za0_0 na0_0 fa0_0
    cases h
    exact goodv_laws_toVerdictS fu (⟨za0_0, na0_0, fa0_0⟩ : (Sl S_impl_Verdict)) y hy
  · cases h
end Go.Proofs.Ytnocoglmchnggaa.Pc
