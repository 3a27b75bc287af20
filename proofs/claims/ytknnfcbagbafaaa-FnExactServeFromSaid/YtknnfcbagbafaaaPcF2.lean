/- The functions' evaluated forms, each a proved summary. Conditions: none. -/
import Derived.Test.YtknnfcbagbafaaaPcF1
namespace Go.Proofs.Ytknnfcbagbafaaa.Pc
open Go Go.RowKit Go.Proofs Vm
set_option linter.unusedVariables false
set_option linter.unusedSimpArgs false
set_option maxRecDepth 100000
/-! impl.full -/
def F_impl_full_U (fu : Nat) (c_0 : S_impl_Config) : Option (Int × Int × Bool × Int × Nat × Nat × Nat × Nat × (Nat → S_impl_Backend) × Nat × (Nat → S_impl_Vip) × Nat × (Nat → S_impl_Cmd)) :=
  ((F_impl_Config_copied_U fu c_0).bind fun y144 => (bif (decide (y144.2.2.1 ≤ y144.2.2.2.2.2.1) && true) then (bif (decide (y144.2.2.1 = y144.2.2.1) && true) then (some (0,
    c_0.Version, true, y144.1, y144.2.1, y144.2.2.1, 0, y144.2.1, y144.2.2.2.2.1, y144.2.2.1, y144.2.2.2.2.2.2, 0, (fun _ => dflt .impl_Cmd))) else none) else none))
def pcx_a32 (fu : Nat) (f : Nat) (xs : List (D RT den)) (ins : List (Ob RT den)) : Option (OutX RT den) := match f with | 116 => S_a31 fu xs ins | _ => none
def pcd_a32 : Nat → Bool := fun f => match f with | 116 => true | _ => false
def pc_a32 (fu : Nat) : Pc RT den := ⟨pcf0, fun f => match f with | 116 => true | _ => false, fun _ => false, pcd_a32, pcx_a32 fu⟩
def msk_a32 (b : Nat) : List Nat := []
def lp_a32 (fu : Nat) : Lp RT den (Int × Int × Bool × Int × Nat × Nat × Nat × Nat × (Nat → S_impl_Backend) × Nat × (Nat → S_impl_Vip) × Nat × (Nat → S_impl_Cmd)) := fun b s k => none
def pso_a32 : List (Pat RT) := [.agg [(.int .i64), (.int .i64), .bool, (.int .i64), (.os 0), (.os 1), (.os 2)]]
def oso_a32 : List (OP RT) := [.row false .impl_Backend, .deep false .impl_Vip, .row false .impl_Cmd]
def conv_a32 (r : Raw den pso_a32 oso_a32) : Int × Int × Bool × Int × Nat × Nat × Nat × Nat × (Nat → S_impl_Backend) × Nat × (Nat → S_impl_Vip) × Nat × (Nat → S_impl_Cmd) := (r.1.1.1, r.1.1.2.1, r.1.1.2.2.1, r.1.1.2.2.2.1, r.1.1.2.2.2.2.1, r.1.1.2.2.2.2.2.1, r.1.1.2.2.2.2.2.2.1, r.2.1.1, r.2.1.2, r.2.2.1.1, r.2.2.1.2.2, r.2.2.2.1.1, r.2.2.2.1.2)
def enc_a32 (y : Int × Int × Bool × Int × Nat × Nat × Nat × Nat × (Nat → S_impl_Backend) × Nat × (Nat → S_impl_Vip) × Nat × (Nat → S_impl_Cmd)) : D RT den × List (Ob RT den) := ((.agg [(.int .i64 y.1), (.int .i64 y.2.1), (.bool y.2.2.1), (.int .i64 y.2.2.2.1), (.os 0 y.2.2.2.2.1), (.os 1 y.2.2.2.2.2.1), (.os 2 y.2.2.2.2.2.2.1)]), [(.row false .impl_Backend y.2.2.2.2.2.2.2.1 y.2.2.2.2.2.2.2.2.1), (.deep false .impl_Vip y.2.2.2.2.2.2.2.2.2.1 y.2.2.2.2.2.2.2.2.2.1 y.2.2.2.2.2.2.2.2.2.2.1), (.row false .impl_Cmd y.2.2.2.2.2.2.2.2.2.2.2.1 y.2.2.2.2.2.2.2.2.2.2.2.2)])
def chk_a32 (r : Raw den pso_a32 oso_a32) : Bool := (decide (r.2.2.1.2.1 = r.2.2.1.1) && true)
def raw_a32 (r : Raw den pso_a32 oso_a32) : St RT den := ⟨[(.agg [(.int .i64 r.1.1.1), (.int .i64 r.1.1.2.1), (.bool r.1.1.2.2.1), (.int .i64 r.1.1.2.2.2.1), (.os 0 r.1.1.2.2.2.2.1), (.os 1 r.1.1.2.2.2.2.2.1), (.os 2 r.1.1.2.2.2.2.2.2.1)])], [(.row false .impl_Backend r.2.1.1 r.2.1.2), (.deep false .impl_Vip r.2.2.1.1 r.2.2.1.2.1 r.2.2.1.2.2), (.row false .impl_Cmd r.2.2.2.1.1 r.2.2.2.1.2)]⟩
theorem chkd_a32 (r : Raw den pso_a32 oso_a32) (h : chk_a32 r = true) : raw_a32 r = ⟨[(enc_a32 (conv_a32 r)).1], (enc_a32 (conv_a32 r)).2⟩ := by
  simp only [chk_a32, Bool.and_eq_true, decide_eq_true_eq, and_true] at h
  simp only [raw_a32, enc_a32, conv_a32, h]
def out_a32 (d : D RT den) (os : List (Ob RT den)) : Option (Int × Int × Bool × Int × Nat × Nat × Nat × Nat × (Nat → S_impl_Backend) × Nat × (Nat → S_impl_Vip) × Nat × (Nat → S_impl_Cmd)) := (unSt pso_a32 oso_a32 ⟨[d], os⟩).bind fun v => bif chk_a32 v.1 then some (conv_a32 v.1) else none
theorem out_a32_enc (d : D RT den) (os : List (Ob RT den)) (y : Int × Int × Bool × Int × Nat × Nat × Nat × Nat × (Nat → S_impl_Backend) × Nat × (Nat → S_impl_Vip) × Nat × (Nat → S_impl_Cmd)) (h : out_a32 d os = some y) : d = (enc_a32 y).1 ∧ os = (enc_a32 y).2 :=
  outU (conv := conv_a32) (enc := enc_a32) (chk := chk_a32) (fun raw h => Eq.trans (by kernel_rfl) (chkd_a32 raw h)) h
theorem ev_a32 (fu : Nat) (c_0 : S_impl_Config) : evFunU E (pc_a32 fu) msk_a32 (lp_a32 fu) out_a32 73 [(.agg [(.int .i64 c_0.Version), (.rs c_0.Backends.z .impl_Backend c_0.Backends.n c_0.Backends.f), (.rs c_0.Vips.z .impl_Vip c_0.Vips.n c_0.Vips.f)])] [] = F_impl_full_U fu c_0 := by kernel_rfl
noncomputable def body_a32 : Code := Try.f73.body.getD .skip
theorem lpok_a32 (fu : Nat) : LpOk E (pc_a32 fu) msk_a32 (lp_a32 fu) (loops 0 body_a32) := by
  have h : loops 0 body_a32 = [] := by kernel_rfl
  rw [h]; intro p hp; cases hp
def S_a32 (fu : Nat) (xs : List (D RT den)) (ins : List (Ob RT den)) : Option (OutX RT den) := match xs, ins with | [.agg [.int .i64 a0_1, .rs za0_2 .impl_Backend na0_2 fa0_2, .rs za0_3 .impl_Vip na0_3 fa0_3]], [] => some ⟨Int × Int × Bool × Int × Nat × Nat × Nat × Nat × (Nat → S_impl_Backend) × Nat × (Nat → S_impl_Vip) × Nat × (Nat → S_impl_Cmd), F_impl_full_U fu (⟨a0_1, (⟨za0_2, na0_2, fa0_2⟩ : (Sl S_impl_Backend)), (⟨za0_3, na0_3, fa0_3⟩ : (Sl S_impl_Vip))⟩ : S_impl_Config), enc_a32⟩ | _, _ => none
theorem hpx_a32 (fu : Nat) : ∀ f xs ins o, pcx_a32 fu f xs ins = some o → ∀ y, o.x = some y → GoodXD E Try.prog (pcd_a32 f) f xs ins (o.g y).1 (o.g y).2 := by
  intro f xs ins o h
  unfold pcx_a32 at h
  split at h
  · exact good_a31 fu xs ins o h
  · cases h
theorem goodv_a32 (fu : Nat) (c_0 : S_impl_Config) (y : Int × Int × Bool × Int × Nat × Nat × Nat × Nat × (Nat → S_impl_Backend) × Nat × (Nat → S_impl_Vip) × Nat × (Nat → S_impl_Cmd)) (hy : F_impl_full_U fu c_0 = some y) : GoodD E Try.prog 73 [(.agg [(.int .i64 c_0.Version), (.rs c_0.Backends.z .impl_Backend c_0.Backends.n c_0.Backends.f), (.rs c_0.Vips.z .impl_Vip c_0.Vips.n c_0.Vips.f)])] [] (enc_a32 y).1 (enc_a32 y).2 :=
  funU_good E_ok (pc_good (pc := pc_a32 fu) hpc0 (hpx_a32 fu)) (fn := Try.f73) (c := body_a32) (out := out_a32) (y := y) (by kernel_rfl) (by kernel_rfl) (by kernel_rfl) (lpok_a32 fu) (by kernel_rfl) (Nat.le_of_ble_eq_true (by kernel_rfl)) (Fulls.get 0 (And.intro (Nat.le_refl _) trivial)) (fun d os hd => out_a32_enc d os _ hd) ((ev_a32 fu c_0).trans hy)
theorem good_a32 (fu : Nat) : ∀ xs ins o, S_a32 fu xs ins = some o → ∀ y, o.x = some y → GoodD E Try.prog 73 xs ins (o.g y).1 (o.g y).2 := by
  intro xs ins o h y hy
  unfold S_a32 at h
  split at h
  · rename_i a0_1 za0_2 na0_2 fa0_2 za0_3 na0_3 fa0_3
    cases h
    exact goodv_a32 fu (⟨a0_1, (⟨za0_2, na0_2, fa0_2⟩ : (Sl S_impl_Backend)), (⟨za0_3, na0_3, fa0_3⟩ : (Sl S_impl_Vip))⟩ : S_impl_Config) y hy
  · cases h

/-! impl.size[impl.Config] -/
def F_impl_size_impl_Config (fu : Nat) (list_0 : (Sl S_impl_Config)) : Option (Int) :=
  (some ((list_0.n : Nat) : Int))
def pc_a33 (fu : Nat) : Pc RT den := ⟨pcf0, fun _ => false, fun _ => false, pcd0, pcx0⟩
def msk_a33 (b : Nat) : List Nat := []
def lp_a33 (fu : Nat) : Lp RT den (Int) := fun b s k => none
theorem ev_a33 (fu : Nat) (list_0 : (Sl S_impl_Config)) : evFun E (pc_a33 fu) msk_a33 (lp_a33 fu) out_i64 70 [(.rs list_0.z .impl_Config list_0.n list_0.f)] = F_impl_size_impl_Config fu list_0 := by kernel_rfl
noncomputable def body_a33 : Code := Try.f70.body.getD .skip
theorem lpok_a33 (fu : Nat) : LpOk E (pc_a33 fu) msk_a33 (lp_a33 fu) (loops 0 body_a33) := by
  have h : loops 0 body_a33 = [] := by kernel_rfl
  rw [h]; intro p hp; cases hp
def S_a33 (fu : Nat) (xs : List (D RT den)) : Option (Out RT den) := match xs with | [.rs za0_0 .impl_Config na0_0 fa0_0] => some ⟨Int, F_impl_size_impl_Config fu (⟨za0_0, na0_0, fa0_0⟩ : (Sl S_impl_Config)), enc_i64, fun _ => true⟩ | _ => none
theorem goodv_a33 (fu : Nat) (list_0 : (Sl S_impl_Config)) (y : Int) (hy : F_impl_size_impl_Config fu list_0 = some y) : Good E Try.prog 70 [(.rs list_0.z .impl_Config list_0.n list_0.f)] (enc_i64 y) :=
  fun_good E_ok (pc_good (pc := pc_a33 fu) hpc0 hpx0) (fn := Try.f70) (c := body_a33) (out := out_i64) (y := y) (by kernel_rfl) (by kernel_rfl) (by kernel_rfl) (lpok_a33 fu) (fun d hd => out_i64_enc d _ hd) ((ev_a33 fu list_0).trans hy)
theorem good_a33 (fu : Nat) : ∀ xs o, S_a33 fu xs = some o → ∀ y, o.x = some y → Good E Try.prog 70 xs (o.g y) := by
  intro xs o h y hy
  unfold S_a33 at h
  split at h
  · rename_i za0_0 na0_0 fa0_0
    cases h
    exact goodv_a33 fu (⟨za0_0, na0_0, fa0_0⟩ : (Sl S_impl_Config)) y hy
  · cases h

/-! impl.in -/
def F_impl_in (fu : Nat) (n_0 : Int) (low_1 : Int) (high_2 : Int) : Option (Bool) :=
  (((bif (decide (n_0 ≥ low_1)) then (some (decide (n_0 ≤ high_2))) else (some false)) : Option Bool).bind fun m146 => (some m146))
def pc_a34 (fu : Nat) : Pc RT den := ⟨pcf0, fun _ => false, fun _ => false, pcd0, pcx0⟩
def msk_a34 (b : Nat) : List Nat := match b with | 200001 => [6] | _ => []
def lp_a34 (fu : Nat) : Lp RT den (Bool) := fun b s k => none
theorem ev_a34 (fu : Nat) (n_0 : Int) (low_1 : Int) (high_2 : Int) : evFun E (pc_a34 fu) msk_a34 (lp_a34 fu) out_bo 69 [(.int .i64 n_0), (.int .i64 low_1), (.int .i64 high_2)] = F_impl_in fu n_0 low_1 high_2 := by kernel_rfl
noncomputable def body_a34 : Code := Try.f69.body.getD .skip
theorem lpok_a34 (fu : Nat) : LpOk E (pc_a34 fu) msk_a34 (lp_a34 fu) (loops 0 body_a34) := by
  have h : loops 0 body_a34 = [] := by kernel_rfl
  rw [h]; intro p hp; cases hp
def S_a34 (fu : Nat) (xs : List (D RT den)) : Option (Out RT den) := match xs with | [.int .i64 a0_0, .int .i64 a1_0, .int .i64 a2_0] => some ⟨Bool, F_impl_in fu a0_0 a1_0 a2_0, enc_bo, fun _ => true⟩ | _ => none
theorem goodv_a34 (fu : Nat) (n_0 : Int) (low_1 : Int) (high_2 : Int) (y : Bool) (hy : F_impl_in fu n_0 low_1 high_2 = some y) : Good E Try.prog 69 [(.int .i64 n_0), (.int .i64 low_1), (.int .i64 high_2)] (enc_bo y) :=
  fun_good E_ok (pc_good (pc := pc_a34 fu) hpc0 hpx0) (fn := Try.f69) (c := body_a34) (out := out_bo) (y := y) (by kernel_rfl) (by kernel_rfl) (by kernel_rfl) (lpok_a34 fu) (fun d hd => out_bo_enc d _ hd) ((ev_a34 fu n_0 low_1 high_2).trans hy)
theorem good_a34 (fu : Nat) : ∀ xs o, S_a34 fu xs = some o → ∀ y, o.x = some y → Good E Try.prog 69 xs (o.g y) := by
  intro xs o h y hy
  unfold S_a34 at h
  split at h
  · rename_i a0_0 a1_0 a2_0
    cases h
    exact goodv_a34 fu a0_0 a1_0 a2_0 y hy
  · cases h

/-! impl.isName -/
def F_impl_isName (fu : Nat) (name_0 : Int) : Option (Bool) :=
  ((F_impl_in fu name_0 1 999).bind fun y185 => (some y185))
def pcf_a35 (fu : Nat) (f : Nat) (xs : List (D RT den)) : Option (Out RT den) := match f with | 69 => S_a34 fu xs | _ => none
def pc_a35 (fu : Nat) : Pc RT den := ⟨pcf_a35 fu, fun _ => false, fun _ => false, pcd0, pcx0⟩
def msk_a35 (b : Nat) : List Nat := []
def lp_a35 (fu : Nat) : Lp RT den (Bool) := fun b s k => none
theorem ev_a35 (fu : Nat) (name_0 : Int) : evFun E (pc_a35 fu) msk_a35 (lp_a35 fu) out_bo 102 [(.int .i64 name_0)] = F_impl_isName fu name_0 := by kernel_rfl
noncomputable def body_a35 : Code := Try.f102.body.getD .skip
theorem lpok_a35 (fu : Nat) : LpOk E (pc_a35 fu) msk_a35 (lp_a35 fu) (loops 0 body_a35) := by
  have h : loops 0 body_a35 = [] := by kernel_rfl
  rw [h]; intro p hp; cases hp
def S_a35 (fu : Nat) (xs : List (D RT den)) : Option (Out RT den) := match xs with | [.int .i64 a0_0] => some ⟨Bool, F_impl_isName fu a0_0, enc_bo, fun _ => true⟩ | _ => none
theorem hpc_a35 (fu : Nat) : ∀ f xs o, pcf_a35 fu f xs = some o → ∀ y, o.x = some y → Good E Try.prog f xs (o.g y) := by
  intro f xs o h
  unfold pcf_a35 at h
  split at h
  · exact good_a34 fu xs o h
  · cases h
theorem goodv_a35 (fu : Nat) (name_0 : Int) (y : Bool) (hy : F_impl_isName fu name_0 = some y) : Good E Try.prog 102 [(.int .i64 name_0)] (enc_bo y) :=
  fun_good E_ok (pc_good (pc := pc_a35 fu) (hpc_a35 fu) hpx0) (fn := Try.f102) (c := body_a35) (out := out_bo) (y := y) (by kernel_rfl) (by kernel_rfl) (by kernel_rfl) (lpok_a35 fu) (fun d hd => out_bo_enc d _ hd) ((ev_a35 fu name_0).trans hy)
theorem good_a35 (fu : Nat) : ∀ xs o, S_a35 fu xs = some o → ∀ y, o.x = some y → Good E Try.prog 102 xs (o.g y) := by
  intro xs o h y hy
  unfold S_a35 at h
  split at h
  · rename_i a0_0
    cases h
    exact goodv_a35 fu a0_0 y hy
  · cases h

/-! impl.isAddress -/
def F_impl_isAddress (fu : Nat) (a_0 : Int) : Option (Bool) :=
  ((F_impl_in fu a_0 0 4294967295).bind fun y186 => (some y186))
def pcf_a36 (fu : Nat) (f : Nat) (xs : List (D RT den)) : Option (Out RT den) := match f with | 69 => S_a34 fu xs | _ => none
def pc_a36 (fu : Nat) : Pc RT den := ⟨pcf_a36 fu, fun _ => false, fun _ => false, pcd0, pcx0⟩
def msk_a36 (b : Nat) : List Nat := []
def lp_a36 (fu : Nat) : Lp RT den (Bool) := fun b s k => none
theorem ev_a36 (fu : Nat) (a_0 : Int) : evFun E (pc_a36 fu) msk_a36 (lp_a36 fu) out_bo 85 [(.int .i64 a_0)] = F_impl_isAddress fu a_0 := by kernel_rfl
noncomputable def body_a36 : Code := Try.f85.body.getD .skip
theorem lpok_a36 (fu : Nat) : LpOk E (pc_a36 fu) msk_a36 (lp_a36 fu) (loops 0 body_a36) := by
  have h : loops 0 body_a36 = [] := by kernel_rfl
  rw [h]; intro p hp; cases hp
def S_a36 (fu : Nat) (xs : List (D RT den)) : Option (Out RT den) := match xs with | [.int .i64 a0_0] => some ⟨Bool, F_impl_isAddress fu a0_0, enc_bo, fun _ => true⟩ | _ => none
theorem hpc_a36 (fu : Nat) : ∀ f xs o, pcf_a36 fu f xs = some o → ∀ y, o.x = some y → Good E Try.prog f xs (o.g y) := by
  intro f xs o h
  unfold pcf_a36 at h
  split at h
  · exact good_a34 fu xs o h
  · cases h
theorem goodv_a36 (fu : Nat) (a_0 : Int) (y : Bool) (hy : F_impl_isAddress fu a_0 = some y) : Good E Try.prog 85 [(.int .i64 a_0)] (enc_bo y) :=
  fun_good E_ok (pc_good (pc := pc_a36 fu) (hpc_a36 fu) hpx0) (fn := Try.f85) (c := body_a36) (out := out_bo) (y := y) (by kernel_rfl) (by kernel_rfl) (by kernel_rfl) (lpok_a36 fu) (fun d hd => out_bo_enc d _ hd) ((ev_a36 fu a_0).trans hy)
theorem good_a36 (fu : Nat) : ∀ xs o, S_a36 fu xs = some o → ∀ y, o.x = some y → Good E Try.prog 85 xs (o.g y) := by
  intro xs o h y hy
  unfold S_a36 at h
  split at h
  · rename_i a0_0
    cases h
    exact goodv_a36 fu a0_0 y hy
  · cases h

/-! impl.isBackend -/
def F_impl_isBackend (fu : Nat) (b_0 : S_impl_Backend) : Option (Bool) :=
  ((((F_impl_isName fu b_0.Name).bind fun y180 => (bif y180 then ((F_impl_isAddress fu b_0.Address).bind fun y181 => (bif y181 then ((F_impl_in fu b_0.Weight 0 9).bind fun y182 =>
    (bif y182 then ((F_impl_in fu b_0.Stage 1 3).bind fun y183 => (some y183)) else (some false))) else (some false))) else (some false))) : Option Bool).bind fun m184 => (some m184))
def pcf_a37 (fu : Nat) (f : Nat) (xs : List (D RT den)) : Option (Out RT den) := match f with | 69 => S_a34 fu xs | 85 => S_a36 fu xs | 102 => S_a35 fu xs | _ => none
def pc_a37 (fu : Nat) : Pc RT den := ⟨pcf_a37 fu, fun _ => false, fun _ => false, pcd0, pcx0⟩
def msk_a37 (b : Nat) : List Nat := match b with | 200001 => [2] | _ => []
def lp_a37 (fu : Nat) : Lp RT den (Bool) := fun b s k => none
theorem ev_a37 (fu : Nat) (b_0 : S_impl_Backend) : evFun E (pc_a37 fu) msk_a37 (lp_a37 fu) out_bo 84 [(.agg [(.int .i64 b_0.Name), (.int .i64 b_0.Address), (.int .i64 b_0.Weight), (.int .i64 b_0.Stage), (.bool b_0.Up)])] = F_impl_isBackend fu b_0 := by kernel_rfl
noncomputable def body_a37 : Code := Try.f84.body.getD .skip
theorem lpok_a37 (fu : Nat) : LpOk E (pc_a37 fu) msk_a37 (lp_a37 fu) (loops 0 body_a37) := by
  have h : loops 0 body_a37 = [] := by kernel_rfl
  rw [h]; intro p hp; cases hp
def S_a37 (fu : Nat) (xs : List (D RT den)) : Option (Out RT den) := match xs with | [.agg [.int .i64 a0_1, .int .i64 a0_2, .int .i64 a0_3, .int .i64 a0_4, .bool a0_5]] => some ⟨Bool, F_impl_isBackend fu (⟨a0_1, a0_2, a0_3, a0_4, a0_5⟩ : S_impl_Backend), enc_bo, fun _ => true⟩ | _ => none
theorem hpc_a37 (fu : Nat) : ∀ f xs o, pcf_a37 fu f xs = some o → ∀ y, o.x = some y → Good E Try.prog f xs (o.g y) := by
  intro f xs o h
  unfold pcf_a37 at h
  split at h
  · exact good_a34 fu xs o h
  · exact good_a36 fu xs o h
  · exact good_a35 fu xs o h
  · cases h
theorem goodv_a37 (fu : Nat) (b_0 : S_impl_Backend) (y : Bool) (hy : F_impl_isBackend fu b_0 = some y) : Good E Try.prog 84 [(.agg [(.int .i64 b_0.Name), (.int .i64 b_0.Address), (.int .i64 b_0.Weight), (.int .i64 b_0.Stage), (.bool b_0.Up)])] (enc_bo y) :=
  fun_good E_ok (pc_good (pc := pc_a37 fu) (hpc_a37 fu) hpx0) (fn := Try.f84) (c := body_a37) (out := out_bo) (y := y) (by kernel_rfl) (by kernel_rfl) (by kernel_rfl) (lpok_a37 fu) (fun d hd => out_bo_enc d _ hd) ((ev_a37 fu b_0).trans hy)
theorem good_a37 (fu : Nat) : ∀ xs o, S_a37 fu xs = some o → ∀ y, o.x = some y → Good E Try.prog 84 xs (o.g y) := by
  intro xs o h y hy
  unfold S_a37 at h
  split at h
  · rename_i a0_1 a0_2 a0_3 a0_4 a0_5
    cases h
    exact goodv_a37 fu (⟨a0_1, a0_2, a0_3, a0_4, a0_5⟩ : S_impl_Backend) y hy
  · cases h

/-! impl.isPort -/
def F_impl_isPort (fu : Nat) (n_0 : Int) : Option (Bool) :=
  ((F_impl_in fu n_0 0 65535).bind fun y187 => (some y187))
def pcf_a38 (fu : Nat) (f : Nat) (xs : List (D RT den)) : Option (Out RT den) := match f with | 69 => S_a34 fu xs | _ => none
def pc_a38 (fu : Nat) : Pc RT den := ⟨pcf_a38 fu, fun _ => false, fun _ => false, pcd0, pcx0⟩
def msk_a38 (b : Nat) : List Nat := []
def lp_a38 (fu : Nat) : Lp RT den (Bool) := fun b s k => none
theorem ev_a38 (fu : Nat) (n_0 : Int) : evFun E (pc_a38 fu) msk_a38 (lp_a38 fu) out_bo 86 [(.int .i64 n_0)] = F_impl_isPort fu n_0 := by kernel_rfl
noncomputable def body_a38 : Code := Try.f86.body.getD .skip
theorem lpok_a38 (fu : Nat) : LpOk E (pc_a38 fu) msk_a38 (lp_a38 fu) (loops 0 body_a38) := by
  have h : loops 0 body_a38 = [] := by kernel_rfl
  rw [h]; intro p hp; cases hp
def S_a38 (fu : Nat) (xs : List (D RT den)) : Option (Out RT den) := match xs with | [.int .i64 a0_0] => some ⟨Bool, F_impl_isPort fu a0_0, enc_bo, fun _ => true⟩ | _ => none
theorem hpc_a38 (fu : Nat) : ∀ f xs o, pcf_a38 fu f xs = some o → ∀ y, o.x = some y → Good E Try.prog f xs (o.g y) := by
  intro f xs o h
  unfold pcf_a38 at h
  split at h
  · exact good_a34 fu xs o h
  · cases h
theorem goodv_a38 (fu : Nat) (n_0 : Int) (y : Bool) (hy : F_impl_isPort fu n_0 = some y) : Good E Try.prog 86 [(.int .i64 n_0)] (enc_bo y) :=
  fun_good E_ok (pc_good (pc := pc_a38 fu) (hpc_a38 fu) hpx0) (fn := Try.f86) (c := body_a38) (out := out_bo) (y := y) (by kernel_rfl) (by kernel_rfl) (by kernel_rfl) (lpok_a38 fu) (fun d hd => out_bo_enc d _ hd) ((ev_a38 fu n_0).trans hy)
theorem good_a38 (fu : Nat) : ∀ xs o, S_a38 fu xs = some o → ∀ y, o.x = some y → Good E Try.prog 86 xs (o.g y) := by
  intro xs o h y hy
  unfold S_a38 at h
  split at h
  · rename_i a0_0
    cases h
    exact goodv_a38 fu a0_0 y hy
  · cases h

/-! impl.isProto -/
def F_impl_isProto (fu : Nat) (n_0 : Int) : Option (Bool) :=
  (((bif (n_0 == 6) then (some true) else (some (n_0 == 17))) : Option Bool).bind fun m188 => (some m188))
def pc_a39 (fu : Nat) : Pc RT den := ⟨pcf0, fun _ => false, fun _ => false, pcd0, pcx0⟩
def msk_a39 (b : Nat) : List Nat := match b with | 200001 => [2] | _ => []
def lp_a39 (fu : Nat) : Lp RT den (Bool) := fun b s k => none
theorem ev_a39 (fu : Nat) (n_0 : Int) : evFun E (pc_a39 fu) msk_a39 (lp_a39 fu) out_bo 87 [(.int .i64 n_0)] = F_impl_isProto fu n_0 := by kernel_rfl
noncomputable def body_a39 : Code := Try.f87.body.getD .skip
theorem lpok_a39 (fu : Nat) : LpOk E (pc_a39 fu) msk_a39 (lp_a39 fu) (loops 0 body_a39) := by
  have h : loops 0 body_a39 = [] := by kernel_rfl
  rw [h]; intro p hp; cases hp
def S_a39 (fu : Nat) (xs : List (D RT den)) : Option (Out RT den) := match xs with | [.int .i64 a0_0] => some ⟨Bool, F_impl_isProto fu a0_0, enc_bo, fun _ => true⟩ | _ => none
theorem goodv_a39 (fu : Nat) (n_0 : Int) (y : Bool) (hy : F_impl_isProto fu n_0 = some y) : Good E Try.prog 87 [(.int .i64 n_0)] (enc_bo y) :=
  fun_good E_ok (pc_good (pc := pc_a39 fu) hpc0 hpx0) (fn := Try.f87) (c := body_a39) (out := out_bo) (y := y) (by kernel_rfl) (by kernel_rfl) (by kernel_rfl) (lpok_a39 fu) (fun d hd => out_bo_enc d _ hd) ((ev_a39 fu n_0).trans hy)
theorem good_a39 (fu : Nat) : ∀ xs o, S_a39 fu xs = some o → ∀ y, o.x = some y → Good E Try.prog 87 xs (o.g y) := by
  intro xs o h y hy
  unfold S_a39 at h
  split at h
  · rename_i a0_0
    cases h
    exact goodv_a39 fu a0_0 y hy
  · cases h

/-! cmp.isNaN[int64] -/
def F_cmp_isNaN_int64 (fu : Nat) (x_0 : Int) : Option (Bool) :=
  (some (x_0 != x_0))
def pc_b0 (fu : Nat) : Pc RT den := ⟨pcf0, fun _ => false, fun _ => false, pcd0, pcx0⟩
def msk_b0 (b : Nat) : List Nat := []
def lp_b0 (fu : Nat) : Lp RT den (Bool) := fun b s k => none
theorem ev_b0 (fu : Nat) (x_0 : Int) : evFun E (pc_b0 fu) msk_b0 (lp_b0 fu) out_bo 139 [(.int .i64 x_0)] = F_cmp_isNaN_int64 fu x_0 := by kernel_rfl
noncomputable def body_b0 : Code := Try.f139.body.getD .skip
theorem lpok_b0 (fu : Nat) : LpOk E (pc_b0 fu) msk_b0 (lp_b0 fu) (loops 0 body_b0) := by
  have h : loops 0 body_b0 = [] := by kernel_rfl
  rw [h]; intro p hp; cases hp
def S_b0 (fu : Nat) (xs : List (D RT den)) : Option (Out RT den) := match xs with | [.int .i64 a0_0] => some ⟨Bool, F_cmp_isNaN_int64 fu a0_0, enc_bo, fun _ => true⟩ | _ => none
theorem goodv_b0 (fu : Nat) (x_0 : Int) (y : Bool) (hy : F_cmp_isNaN_int64 fu x_0 = some y) : Good E Try.prog 139 [(.int .i64 x_0)] (enc_bo y) :=
  fun_good E_ok (pc_good (pc := pc_b0 fu) hpc0 hpx0) (fn := Try.f139) (c := body_b0) (out := out_bo) (y := y) (by kernel_rfl) (by kernel_rfl) (by kernel_rfl) (lpok_b0 fu) (fun d hd => out_bo_enc d _ hd) ((ev_b0 fu x_0).trans hy)
theorem good_b0 (fu : Nat) : ∀ xs o, S_b0 fu xs = some o → ∀ y, o.x = some y → Good E Try.prog 139 xs (o.g y) := by
  intro xs o h y hy
  unfold S_b0 at h
  split at h
  · rename_i a0_0
    cases h
    exact goodv_b0 fu a0_0 y hy
  · cases h

/-! cmp.Compare[int64] -/
def F_cmp_Compare_int64 (fu : Nat) (x_0 : Int) (y_1 : Int) : Option (Int) :=
  ((F_cmp_isNaN_int64 fu x_0).bind fun y193 => ((F_cmp_isNaN_int64 fu y_1).bind fun y194 => (bif y193 then (bif y194 then (some 0) else (some (-1))) else (bif y194 then (some 1) else
    (bif (decide (x_0 < y_1)) then (some (-1)) else (bif (decide (x_0 > y_1)) then (some 1) else (some 0)))))))
def pcf_b1 (fu : Nat) (f : Nat) (xs : List (D RT den)) : Option (Out RT den) := match f with | 139 => S_b0 fu xs | _ => none
def pc_b1 (fu : Nat) : Pc RT den := ⟨pcf_b1 fu, fun _ => false, fun _ => false, pcd0, pcx0⟩
def msk_b1 (b : Nat) : List Nat := []
def lp_b1 (fu : Nat) : Lp RT den (Int) := fun b s k => none
theorem ev_b1 (fu : Nat) (x_0 : Int) (y_1 : Int) : evFun E (pc_b1 fu) msk_b1 (lp_b1 fu) out_i64 123 [(.int .i64 x_0), (.int .i64 y_1)] = F_cmp_Compare_int64 fu x_0 y_1 := by kernel_rfl
noncomputable def body_b1 : Code := Try.f123.body.getD .skip
theorem lpok_b1 (fu : Nat) : LpOk E (pc_b1 fu) msk_b1 (lp_b1 fu) (loops 0 body_b1) := by
  have h : loops 0 body_b1 = [] := by kernel_rfl
  rw [h]; intro p hp; cases hp
def S_b1 (fu : Nat) (xs : List (D RT den)) : Option (Out RT den) := match xs with | [.int .i64 a0_0, .int .i64 a1_0] => some ⟨Int, F_cmp_Compare_int64 fu a0_0 a1_0, enc_i64, fun _ => true⟩ | _ => none
theorem hpc_b1 (fu : Nat) : ∀ f xs o, pcf_b1 fu f xs = some o → ∀ y, o.x = some y → Good E Try.prog f xs (o.g y) := by
  intro f xs o h
  unfold pcf_b1 at h
  split at h
  · exact good_b0 fu xs o h
  · cases h
theorem goodv_b1 (fu : Nat) (x_0 : Int) (y_1 : Int) (y : Int) (hy : F_cmp_Compare_int64 fu x_0 y_1 = some y) : Good E Try.prog 123 [(.int .i64 x_0), (.int .i64 y_1)] (enc_i64 y) :=
  fun_good E_ok (pc_good (pc := pc_b1 fu) (hpc_b1 fu) hpx0) (fn := Try.f123) (c := body_b1) (out := out_i64) (y := y) (by kernel_rfl) (by kernel_rfl) (by kernel_rfl) (lpok_b1 fu) (fun d hd => out_i64_enc d _ hd) ((ev_b1 fu x_0 y_1).trans hy)
theorem good_b1 (fu : Nat) : ∀ xs o, S_b1 fu xs = some o → ∀ y, o.x = some y → Good E Try.prog 123 xs (o.g y) := by
  intro xs o h y hy
  unfold S_b1 at h
  split at h
  · rename_i a0_0 a1_0
    cases h
    exact goodv_b1 fu a0_0 a1_0 y hy
  · cases h

/-! cmp.Or[int] -/
def F_cmp_Or_int_B0 {ρ : Type} (fu : Nat) (zero3_0 : Int) (t6_1 : (Sl Int)) (t7_2 : Int) (k0 : Int → Option ρ) (k1 : Option ρ) (t8_3 : Int) (go : Int → Option ρ) : Option ρ :=
  (bif (decide (t8_3 < t7_2)) then ((bif (decide (0 ≤ t8_3) && decide ((Int.toNat t8_3) < t6_1.n)) then some () else none : Option Unit).bind fun _ => (bif ((t6_1.f (Int.toNat t8_3)) != zero3_0) then
    (k0 (t6_1.f (Int.toNat t8_3))) else (go (IntKind.wrap .i64 (t8_3 + 1))))) else k1)
def F_cmp_Or_int (fu : Nat) (vals_0 : (Sl Int)) : Option (Int) :=
  (L (fun w0 go0 => F_cmp_Or_int_B0 fu 0 vals_0 ((vals_0.n : Nat) : Int) (fun z195 => (some z195)) (some 0) w0 go0) fu (0 : Int))
def pc_b2 (fu : Nat) : Pc RT den := ⟨pcf0, fun _ => false, fun _ => false, pcd0, pcx0⟩
def msk_b2 (b : Nat) : List Nat := match b with | 0 => [0, 1, 2, 4, 5, 9, 10, 11, 12, 13, 14, 15, 16, 17] | 100000 => [0, 1, 4, 5, 6, 7, 8, 9, 10, 11, 12, 13, 14, 15, 16, 17] | _ => []
def ps_b2_0 : List (Pat RT) := [.flat .q, .flat .q, .flat .q, .flat (.int .i64), .flat .q, .flat .q, .flat (.rs .i64), .flat (.int .i64), .flat (.int .i64), .flat .q, .flat .q, .flat .q, .flat .q, .flat .q, .flat .q, .flat .q, .flat .q, .flat .q]
def os_b2_0 : List (OP RT) := []
def conv_b2_0 (r : Raw den ps_b2_0 os_b2_0) : (Int × (Sl Int) × Int) × (Int) := ((r.1.2.2.2.1, r.1.2.2.2.2.2.2.1, r.1.2.2.2.2.2.2.2.1), r.1.2.2.2.2.2.2.2.2.1)
def back_b2_0 (c : Int × (Sl Int) × Int) (w : Int) : St RT den := ⟨[.q, .q, .q, (.int .i64 c.1), .q, .q, (.rs c.2.1.z .i64 c.2.1.n c.2.1.f), (.int .i64 c.2.2), (.int .i64 w), .q, .q, .q, .q, .q, .q, .q, .q, .q], []⟩
def Bk_b2_0 {ρ : Type} (fu : Nat) (c : Int × (Sl Int) × Int) (k : Ex → St RT den → Option ρ) (w : Int) (go : (Int) → Option ρ) : Option ρ := F_cmp_Or_int_B0 fu c.1 c.2.1 c.2.2 (fun a0 => k .ret ⟨[.q, .q, (.int .i64 a0), (.int .i64 c.1), .q, .q, .q, .q, .q, .q, .q, .q, .q, .q, .q, .q, .q, .q], []⟩) (k (.exit 0) ⟨[.q, .q, .q, (.int .i64 c.1), .q, .q, .q, .q, .q, .q, .q, .q, .q, .q, .q, .q, .q, .q], []⟩) w go
def lp_b2 (fu : Nat) : Lp RT den (Int) := fun b s k => match b with | 0 => handle ps_b2_0 os_b2_0 conv_b2_0 (Bk_b2_0 fu) fu s k | _ => none
theorem ev_b2 (fu : Nat) (vals_0 : (Sl Int)) : evFun E (pc_b2 fu) msk_b2 (lp_b2 fu) out_i64 122 [(.rs vals_0.z .i64 vals_0.n vals_0.f)] = F_cmp_Or_int fu vals_0 := by kernel_rfl
noncomputable def body_b2 : Code := Try.f122.body.getD .skip
noncomputable def lc_b2_0 : Code := ((loops 0 body_b2).getD 0 (0, .skip)).2
theorem round_b2_0 (fu : Nat) (it : St RT den → Option (Int)) (k : Ex → St RT den → Option (Int)) c w : evCode E (pc_b2 fu) msk_b2 (lp_b2 fu) 0 lc_b2_0 (back_b2_0 c w) (after (msk_b2 0) (msk_b2 100000) 0 it k) = Bk_b2_0 fu c k w (fun w => it (back_b2_0 c w)) := by kernel_rfl
theorem lpok_b2_0 (fu : Nat) : ∀ s k r, lp_b2 fu 0 s k = some r → ∃ fuel, iter (msk_b2 0) (msk_b2 100000) s.objs.length (evCode E (pc_b2 fu) msk_b2 (lp_b2 fu) 0 lc_b2_0) fuel s k = some r :=
  handle_ok (ps := ps_b2_0) (os := os_b2_0) (conv := conv_b2_0) (B := Bk_b2_0 fu) (fu := fu) back_b2_0 (fun raw => by kernel_rfl) 0 (fun c w => by kernel_rfl) (round_b2_0 fu)
theorem lpok_b2 (fu : Nat) : LpOk E (pc_b2 fu) msk_b2 (lp_b2 fu) (loops 0 body_b2) := loop_all 1 (by kernel_rfl) fun i hi => match i, hi with
  | 0, _ => by
    have h : (loops 0 body_b2).getD 0 (0, .skip) = (0, lc_b2_0) := by kernel_rfl
    rw [h]; exact lpok_b2_0 fu
  | i + 1, hi => absurd hi (by omega)
def S_b2 (fu : Nat) (xs : List (D RT den)) : Option (Out RT den) := match xs with | [.rs za0_0 .i64 na0_0 fa0_0] => some ⟨Int, F_cmp_Or_int fu (⟨za0_0, na0_0, fa0_0⟩ : (Sl Int)), enc_i64, fun _ => true⟩ | _ => none
theorem goodv_b2 (fu : Nat) (vals_0 : (Sl Int)) (y : Int) (hy : F_cmp_Or_int fu vals_0 = some y) : Good E Try.prog 122 [(.rs vals_0.z .i64 vals_0.n vals_0.f)] (enc_i64 y) :=
  fun_good E_ok (pc_good (pc := pc_b2 fu) hpc0 hpx0) (fn := Try.f122) (c := body_b2) (out := out_i64) (y := y) (by kernel_rfl) (by kernel_rfl) (by kernel_rfl) (lpok_b2 fu) (fun d hd => out_i64_enc d _ hd) ((ev_b2 fu vals_0).trans hy)
theorem good_b2 (fu : Nat) : ∀ xs o, S_b2 fu xs = some o → ∀ y, o.x = some y → Good E Try.prog 122 xs (o.g y) := by
  intro xs o h y hy
  unfold S_b2 at h
  split at h
  · rename_i za0_0 na0_0 fa0_0
    cases h
    exact goodv_b2 fu (⟨za0_0, na0_0, fa0_0⟩ : (Sl Int)) y hy
  · cases h

/-! impl.compareVip -/
def F_impl_compareVip (fu : Nat) (a_0 : S_impl_Vip) (b_1 : S_impl_Vip) : Option (Int) :=
  ((F_cmp_Compare_int64 fu a_0.Address b_1.Address).bind fun y189 => ((F_cmp_Compare_int64 fu a_0.Port b_1.Port).bind fun y190 => ((F_cmp_Compare_int64 fu a_0.Proto b_1.Proto).bind fun y191 =>
    ((F_cmp_Or_int fu (⟨(some false), 3, (fun i => [y189, y190, y191].getD i (dflt .i64))⟩ : (Sl Int))).bind fun y192 => (some y192)))))
def pcf_b3 (fu : Nat) (f : Nat) (xs : List (D RT den)) : Option (Out RT den) := match f with | 122 => S_b2 fu xs | 123 => S_b1 fu xs | _ => none
def pc_b3 (fu : Nat) : Pc RT den := ⟨pcf_b3 fu, fun _ => false, fun _ => false, pcd0, pcx0⟩
def msk_b3 (b : Nat) : List Nat := []
def lp_b3 (fu : Nat) : Lp RT den (Int) := fun b s k => none
theorem ev_b3 (fu : Nat) (a_0 : S_impl_Vip) (b_1 : S_impl_Vip) : evFun E (pc_b3 fu) msk_b3 (lp_b3 fu) out_i64 88 [(.agg [(.int .i64 a_0.Address), (.int .i64 a_0.Port), (.int .i64 a_0.Proto), (.rs a_0.Names.z .i64 a_0.Names.n a_0.Names.f)]), (.agg [(.int .i64 b_1.Address), (.int .i64 b_1.Port), (.int .i64 b_1.Proto), (.rs b_1.Names.z .i64 b_1.Names.n b_1.Names.f)])] = F_impl_compareVip fu a_0 b_1 := by kernel_rfl
noncomputable def body_b3 : Code := Try.f88.body.getD .skip
theorem lpok_b3 (fu : Nat) : LpOk E (pc_b3 fu) msk_b3 (lp_b3 fu) (loops 0 body_b3) := by
  have h : loops 0 body_b3 = [] := by kernel_rfl
  rw [h]; intro p hp; cases hp
def S_b3 (fu : Nat) (xs : List (D RT den)) : Option (Out RT den) := match xs with | [.agg [.int .i64 a0_1, .int .i64 a0_2, .int .i64 a0_3, .rs za0_4 .i64 na0_4 fa0_4], .agg [.int .i64 a1_1, .int .i64 a1_2, .int .i64 a1_3, .rs za1_4 .i64 na1_4 fa1_4]] => some ⟨Int, F_impl_compareVip fu (⟨a0_1, a0_2, a0_3, (⟨za0_4, na0_4, fa0_4⟩ : (Sl Int))⟩ : S_impl_Vip) (⟨a1_1, a1_2, a1_3, (⟨za1_4, na1_4, fa1_4⟩ : (Sl Int))⟩ : S_impl_Vip), enc_i64, fun _ => true⟩ | _ => none
theorem hpc_b3 (fu : Nat) : ∀ f xs o, pcf_b3 fu f xs = some o → ∀ y, o.x = some y → Good E Try.prog f xs (o.g y) := by
  intro f xs o h
  unfold pcf_b3 at h
  split at h
  · exact good_b2 fu xs o h
  · exact good_b1 fu xs o h
  · cases h
theorem goodv_b3 (fu : Nat) (a_0 : S_impl_Vip) (b_1 : S_impl_Vip) (y : Int) (hy : F_impl_compareVip fu a_0 b_1 = some y) : Good E Try.prog 88 [(.agg [(.int .i64 a_0.Address), (.int .i64 a_0.Port), (.int .i64 a_0.Proto), (.rs a_0.Names.z .i64 a_0.Names.n a_0.Names.f)]), (.agg [(.int .i64 b_1.Address), (.int .i64 b_1.Port), (.int .i64 b_1.Proto), (.rs b_1.Names.z .i64 b_1.Names.n b_1.Names.f)])] (enc_i64 y) :=
  fun_good E_ok (pc_good (pc := pc_b3 fu) (hpc_b3 fu) hpx0) (fn := Try.f88) (c := body_b3) (out := out_i64) (y := y) (by kernel_rfl) (by kernel_rfl) (by kernel_rfl) (lpok_b3 fu) (fun d hd => out_i64_enc d _ hd) ((ev_b3 fu a_0 b_1).trans hy)
theorem good_b3 (fu : Nat) : ∀ xs o, S_b3 fu xs = some o → ∀ y, o.x = some y → Good E Try.prog 88 xs (o.g y) := by
  intro xs o h y hy
  unfold S_b3 at h
  split at h
  · rename_i a0_1 a0_2 a0_3 za0_4 na0_4 fa0_4 a1_1 a1_2 a1_3 za1_4 na1_4 fa1_4
    cases h
    exact goodv_b3 fu (⟨a0_1, a0_2, a0_3, (⟨za0_4, na0_4, fa0_4⟩ : (Sl Int))⟩ : S_impl_Vip) (⟨a1_1, a1_2, a1_3, (⟨za1_4, na1_4, fa1_4⟩ : (Sl Int))⟩ : S_impl_Vip) y hy
  · cases h

/-! (*impl.Config).backend'1 -/
def F_impl_Config_backend_c1 (fu : Nat) (b_0 : S_impl_Backend) (x_1_1 : Int) : Option (Bool) :=
  (some (b_0.Name == x_1_1))
def pc_b4 (fu : Nat) : Pc RT den := ⟨pcf0, fun _ => false, fun _ => false, pcd0, pcx0⟩
def msk_b4 (b : Nat) : List Nat := []
def lp_b4 (fu : Nat) : Lp RT den (Bool) := fun b s k => none
theorem ev_b4 (fu : Nat) (b_0 : S_impl_Backend) (x_1_1 : Int) : evFun E (pc_b4 fu) msk_b4 (lp_b4 fu) out_bo 126 [(.agg [(.int .i64 b_0.Name), (.int .i64 b_0.Address), (.int .i64 b_0.Weight), (.int .i64 b_0.Stage), (.bool b_0.Up)]), (.rptr [(.int .i64 x_1_1)])] = F_impl_Config_backend_c1 fu b_0 x_1_1 := by kernel_rfl
noncomputable def body_b4 : Code := Try.f126.body.getD .skip
theorem lpok_b4 (fu : Nat) : LpOk E (pc_b4 fu) msk_b4 (lp_b4 fu) (loops 0 body_b4) := by
  have h : loops 0 body_b4 = [] := by kernel_rfl
  rw [h]; intro p hp; cases hp
def S_b4 (fu : Nat) (xs : List (D RT den)) : Option (Out RT den) := match xs with | [.agg [.int .i64 a0_1, .int .i64 a0_2, .int .i64 a0_3, .int .i64 a0_4, .bool a0_5], .rptr [.int .i64 a1_0]] => some ⟨Bool, F_impl_Config_backend_c1 fu (⟨a0_1, a0_2, a0_3, a0_4, a0_5⟩ : S_impl_Backend) a1_0, enc_bo, fun _ => true⟩ | _ => none
theorem goodv_b4 (fu : Nat) (b_0 : S_impl_Backend) (x_1_1 : Int) (y : Bool) (hy : F_impl_Config_backend_c1 fu b_0 x_1_1 = some y) : Good E Try.prog 126 [(.agg [(.int .i64 b_0.Name), (.int .i64 b_0.Address), (.int .i64 b_0.Weight), (.int .i64 b_0.Stage), (.bool b_0.Up)]), (.rptr [(.int .i64 x_1_1)])] (enc_bo y) :=
  fun_good E_ok (pc_good (pc := pc_b4 fu) hpc0 hpx0) (fn := Try.f126) (c := body_b4) (out := out_bo) (y := y) (by kernel_rfl) (by kernel_rfl) (by kernel_rfl) (lpok_b4 fu) (fun d hd => out_bo_enc d _ hd) ((ev_b4 fu b_0 x_1_1).trans hy)
theorem good_b4 (fu : Nat) : ∀ xs o, S_b4 fu xs = some o → ∀ y, o.x = some y → Good E Try.prog 126 xs (o.g y) := by
  intro xs o h y hy
  unfold S_b4 at h
  split at h
  · rename_i a0_1 a0_2 a0_3 a0_4 a0_5 a1_0
    cases h
    exact goodv_b4 fu (⟨a0_1, a0_2, a0_3, a0_4, a0_5⟩ : S_impl_Backend) a1_0 y hy
  · cases h

/-! slices.IndexFunc[[]impl.Backend,impl.Backend] -/
def F_slices_IndexFunc_impl_Backend_impl_Backend_w_impl_Config_backend_c1_B0 {ρ : Type} (fu : Nat) (s0_0 : (Sl S_impl_Backend)) (f1_1 : Int) (t7_2 : Int) (k0 : Int → Option ρ) (k1 : Option ρ) (t8_3 : Int) (go : Int → Option ρ) : Option ρ :=
  (bif (decide (t8_3 < t7_2)) then ((bif (decide (0 ≤ t8_3) && decide ((Int.toNat t8_3) < s0_0.n)) then some () else none : Option Unit).bind fun _ => ((F_impl_Config_backend_c1 fu (s0_0.f (Int.toNat t8_3)) f1_1).bind fun y201 =>
    (bif y201 then (k0 t8_3) else (go (IntKind.wrap .i64 (t8_3 + 1)))))) else k1)
def F_slices_IndexFunc_impl_Backend_impl_Backend_w_impl_Config_backend_c1 (fu : Nat) (s_0 : (Sl S_impl_Backend)) (f_1_1 : Int) : Option (Int) :=
  (L (fun w0 go0 => F_slices_IndexFunc_impl_Backend_impl_Backend_w_impl_Config_backend_c1_B0 fu s_0 f_1_1 ((s_0.n : Nat) : Int) (fun z202 => (some z202)) (some (-1)) w0 go0) fu (0 : Int))
def pcf_b5 (fu : Nat) (f : Nat) (xs : List (D RT den)) : Option (Out RT den) := match f with | 126 => S_b4 fu xs | _ => none
def pc_b5 (fu : Nat) : Pc RT den := ⟨pcf_b5 fu, fun _ => false, fun _ => false, pcd0, pcx0⟩
def msk_b5 (b : Nat) : List Nat := match b with | 0 => [2, 3, 4, 5, 6, 9, 10, 11, 12, 13, 14, 15, 16, 17, 18] | 100000 => [0, 1, 2, 3, 5, 6, 7, 8, 9, 10, 11, 12, 13, 14, 15, 16, 17, 18] | _ => []
def ps_b5_0 : List (Pat RT) := [.flat (.rs .impl_Backend), .fn 126 [.rptr [(.int .i64)]], .flat .q, .flat .q, .flat .q, .flat .q, .flat .q, .flat (.int .i64), .flat (.int .i64), .flat .q, .flat .q, .flat .q, .flat .q, .flat .q, .flat .q, .flat .q, .flat .q, .flat .q, .flat .q]
def os_b5_0 : List (OP RT) := []
def conv_b5_0 (r : Raw den ps_b5_0 os_b5_0) : ((Sl S_impl_Backend) × Int × Int) × (Int) := ((r.1.1, r.1.2.1.1.1, r.1.2.2.2.2.2.2.2.1), r.1.2.2.2.2.2.2.2.2.1)
def back_b5_0 (c : (Sl S_impl_Backend) × Int × Int) (w : Int) : St RT den := ⟨[(.rs c.1.z .impl_Backend c.1.n c.1.f), (.fn 126 [(.rptr [(.int .i64 c.2.1)])]), .q, .q, .q, .q, .q, (.int .i64 c.2.2), (.int .i64 w), .q, .q, .q, .q, .q, .q, .q, .q, .q, .q], []⟩
def Bk_b5_0 {ρ : Type} (fu : Nat) (c : (Sl S_impl_Backend) × Int × Int) (k : Ex → St RT den → Option ρ) (w : Int) (go : (Int) → Option ρ) : Option ρ := F_slices_IndexFunc_impl_Backend_impl_Backend_w_impl_Config_backend_c1_B0 fu c.1 c.2.1 c.2.2 (fun a0 => k .ret ⟨[.q, .q, .q, .q, (.int .i64 a0), .q, .q, .q, .q, .q, .q, .q, .q, .q, .q, .q, .q, .q, .q], []⟩) (k (.exit 0) ⟨[.q, .q, .q, .q, .q, .q, .q, .q, .q, .q, .q, .q, .q, .q, .q, .q, .q, .q, .q], []⟩) w go
def lp_b5 (fu : Nat) : Lp RT den (Int) := fun b s k => match b with | 0 => handle ps_b5_0 os_b5_0 conv_b5_0 (Bk_b5_0 fu) fu s k | _ => none
theorem ev_b5 (fu : Nat) (s_0 : (Sl S_impl_Backend)) (f_1_1 : Int) : evFun E (pc_b5 fu) msk_b5 (lp_b5 fu) out_i64 125 [(.rs s_0.z .impl_Backend s_0.n s_0.f), (.fn 126 [(.rptr [(.int .i64 f_1_1)])])] = F_slices_IndexFunc_impl_Backend_impl_Backend_w_impl_Config_backend_c1 fu s_0 f_1_1 := by kernel_rfl
noncomputable def body_b5 : Code := Try.f125.body.getD .skip
noncomputable def lc_b5_0 : Code := ((loops 0 body_b5).getD 0 (0, .skip)).2
theorem round_b5_0 (fu : Nat) (it : St RT den → Option (Int)) (k : Ex → St RT den → Option (Int)) c w : evCode E (pc_b5 fu) msk_b5 (lp_b5 fu) 0 lc_b5_0 (back_b5_0 c w) (after (msk_b5 0) (msk_b5 100000) 0 it k) = Bk_b5_0 fu c k w (fun w => it (back_b5_0 c w)) := by kernel_rfl
theorem lpok_b5_0 (fu : Nat) : ∀ s k r, lp_b5 fu 0 s k = some r → ∃ fuel, iter (msk_b5 0) (msk_b5 100000) s.objs.length (evCode E (pc_b5 fu) msk_b5 (lp_b5 fu) 0 lc_b5_0) fuel s k = some r :=
  handle_ok (ps := ps_b5_0) (os := os_b5_0) (conv := conv_b5_0) (B := Bk_b5_0 fu) (fu := fu) back_b5_0 (fun raw => by kernel_rfl) 0 (fun c w => by kernel_rfl) (round_b5_0 fu)
theorem lpok_b5 (fu : Nat) : LpOk E (pc_b5 fu) msk_b5 (lp_b5 fu) (loops 0 body_b5) := loop_all 1 (by kernel_rfl) fun i hi => match i, hi with
  | 0, _ => by
    have h : (loops 0 body_b5).getD 0 (0, .skip) = (0, lc_b5_0) := by kernel_rfl
    rw [h]; exact lpok_b5_0 fu
  | i + 1, hi => absurd hi (by omega)
def S_b5 (fu : Nat) (xs : List (D RT den)) : Option (Out RT den) := match xs with | [.rs za0_0 .impl_Backend na0_0 fa0_0, .fn 126 [.rptr [.int .i64 a1_0]]] => some ⟨Int, F_slices_IndexFunc_impl_Backend_impl_Backend_w_impl_Config_backend_c1 fu (⟨za0_0, na0_0, fa0_0⟩ : (Sl S_impl_Backend)) a1_0, enc_i64, fun _ => true⟩ | _ => none
theorem hpc_b5 (fu : Nat) : ∀ f xs o, pcf_b5 fu f xs = some o → ∀ y, o.x = some y → Good E Try.prog f xs (o.g y) := by
  intro f xs o h
  unfold pcf_b5 at h
  split at h
  · exact good_b4 fu xs o h
  · cases h
theorem goodv_b5 (fu : Nat) (s_0 : (Sl S_impl_Backend)) (f_1_1 : Int) (y : Int) (hy : F_slices_IndexFunc_impl_Backend_impl_Backend_w_impl_Config_backend_c1 fu s_0 f_1_1 = some y) : Good E Try.prog 125 [(.rs s_0.z .impl_Backend s_0.n s_0.f), (.fn 126 [(.rptr [(.int .i64 f_1_1)])])] (enc_i64 y) :=
  fun_good E_ok (pc_good (pc := pc_b5 fu) (hpc_b5 fu) hpx0) (fn := Try.f125) (c := body_b5) (out := out_i64) (y := y) (by kernel_rfl) (by kernel_rfl) (by kernel_rfl) (lpok_b5 fu) (fun d hd => out_i64_enc d _ hd) ((ev_b5 fu s_0 f_1_1).trans hy)
theorem good_b5 (fu : Nat) : ∀ xs o, S_b5 fu xs = some o → ∀ y, o.x = some y → Good E Try.prog 125 xs (o.g y) := by
  intro xs o h y hy
  unfold S_b5 at h
  split at h
  · rename_i za0_0 na0_0 fa0_0 a1_0
    cases h
    exact goodv_b5 fu (⟨za0_0, na0_0, fa0_0⟩ : (Sl S_impl_Backend)) a1_0 y hy
  · cases h

/-! (*impl.Config).backend -/
def F_impl_Config_backend (fu : Nat) (c_0 : S_impl_Config) (name_1 : Int) : Option (Int) :=
  ((F_slices_IndexFunc_impl_Backend_impl_Backend_w_impl_Config_backend_c1 fu c_0.Backends name_1).bind fun y200 => (some y200))
def pcf_b6 (fu : Nat) (f : Nat) (xs : List (D RT den)) : Option (Out RT den) := match f with | 125 => S_b5 fu xs | _ => none
def pc_b6 (fu : Nat) : Pc RT den := ⟨pcf_b6 fu, fun _ => false, fun _ => false, pcd0, pcx0⟩
def msk_b6 (b : Nat) : List Nat := []
def lp_b6 (fu : Nat) : Lp RT den (Int) := fun b s k => none
theorem ev_b6 (fu : Nat) (c_0 : S_impl_Config) (name_1 : Int) : evFun E (pc_b6 fu) msk_b6 (lp_b6 fu) out_i64 91 [(.rptr [(.int .i64 c_0.Version), (.rs c_0.Backends.z .impl_Backend c_0.Backends.n c_0.Backends.f), (.rs c_0.Vips.z .impl_Vip c_0.Vips.n c_0.Vips.f)]), (.int .i64 name_1)] = F_impl_Config_backend fu c_0 name_1 := by kernel_rfl
noncomputable def body_b6 : Code := Try.f91.body.getD .skip
theorem lpok_b6 (fu : Nat) : LpOk E (pc_b6 fu) msk_b6 (lp_b6 fu) (loops 0 body_b6) := by
  have h : loops 0 body_b6 = [] := by kernel_rfl
  rw [h]; intro p hp; cases hp
def S_b6 (fu : Nat) (xs : List (D RT den)) : Option (Out RT den) := match xs with | [.rptr (.int .i64 a0_1 :: .rs za0_2 .impl_Backend na0_2 fa0_2 :: .rs za0_3 .impl_Vip na0_3 fa0_3 :: ra0), .int .i64 a1_0] => some ⟨Int, F_impl_Config_backend fu (⟨a0_1, (⟨za0_2, na0_2, fa0_2⟩ : (Sl S_impl_Backend)), (⟨za0_3, na0_3, fa0_3⟩ : (Sl S_impl_Vip))⟩ : S_impl_Config) a1_0, enc_i64, fun _ => true⟩ | _ => none
theorem hpc_b6 (fu : Nat) : ∀ f xs o, pcf_b6 fu f xs = some o → ∀ y, o.x = some y → Good E Try.prog f xs (o.g y) := by
  intro f xs o h
  unfold pcf_b6 at h
  split at h
  · exact good_b5 fu xs o h
  · cases h
theorem goodv_b6 (fu : Nat) (c_0 : S_impl_Config) (name_1 : Int) (y : Int) (hy : F_impl_Config_backend fu c_0 name_1 = some y) : Good E Try.prog 91 [(.rptr [(.int .i64 c_0.Version), (.rs c_0.Backends.z .impl_Backend c_0.Backends.n c_0.Backends.f), (.rs c_0.Vips.z .impl_Vip c_0.Vips.n c_0.Vips.f)]), (.int .i64 name_1)] (enc_i64 y) :=
  fun_good E_ok (pc_good (pc := pc_b6 fu) (hpc_b6 fu) hpx0) (fn := Try.f91) (c := body_b6) (out := out_i64) (y := y) (by kernel_rfl) (by kernel_rfl) (by kernel_rfl) (lpok_b6 fu) (fun d hd => out_i64_enc d _ hd) ((ev_b6 fu c_0 name_1).trans hy)
theorem good_b6 (fu : Nat) : ∀ xs o, S_b6 fu xs = some o → ∀ y, o.x = some y → Good E Try.prog 91 xs (o.g y) := by
  intro xs o h y hy
  unfold S_b6 at h
  split at h
  · rename_i a0_1 za0_2 na0_2 fa0_2 za0_3 na0_3 fa0_3 ra0 a1_0
    cases h
    exact (goodv_b6 fu (⟨a0_1, (⟨za0_2, na0_2, fa0_2⟩ : (Sl S_impl_Backend)), (⟨za0_3, na0_3, fa0_3⟩ : (Sl S_impl_Vip))⟩ : S_impl_Config) a1_0 y hy).sub ⟨Sub.of_eq ra0 rfl, .refl _, trivial⟩
  · cases h

/-! impl.ConfigFault'1 -/
def F_impl_ConfigFault_c1 (fu : Nat) (name_0 : Int) (x_1_1 : Int) (x_1_2 : (Sl S_impl_Backend)) (x_1_3 : (Sl S_impl_Vip)) : Option (Bool) :=
  ((F_impl_Config_backend fu (⟨x_1_1, x_1_2, x_1_3⟩ : S_impl_Config) name_0).bind fun y199 => (some (decide (y199 < 0))))
def pcf_b7 (fu : Nat) (f : Nat) (xs : List (D RT den)) : Option (Out RT den) := match f with | 91 => S_b6 fu xs | _ => none
def pc_b7 (fu : Nat) : Pc RT den := ⟨pcf_b7 fu, fun _ => false, fun _ => false, pcd0, pcx0⟩
def msk_b7 (b : Nat) : List Nat := []
def lp_b7 (fu : Nat) : Lp RT den (Bool) := fun b s k => none
theorem ev_b7 (fu : Nat) (name_0 : Int) (x_1_1 : Int) (x_1_2 : (Sl S_impl_Backend)) (x_1_3 : (Sl S_impl_Vip)) : evFun E (pc_b7 fu) msk_b7 (lp_b7 fu) out_bo 90 [(.int .i64 name_0), (.rptr [(.int .i64 x_1_1), (.rs x_1_2.z .impl_Backend x_1_2.n x_1_2.f), (.rs x_1_3.z .impl_Vip x_1_3.n x_1_3.f)])] = F_impl_ConfigFault_c1 fu name_0 x_1_1 x_1_2 x_1_3 := by kernel_rfl
noncomputable def body_b7 : Code := Try.f90.body.getD .skip
theorem lpok_b7 (fu : Nat) : LpOk E (pc_b7 fu) msk_b7 (lp_b7 fu) (loops 0 body_b7) := by
  have h : loops 0 body_b7 = [] := by kernel_rfl
  rw [h]; intro p hp; cases hp
def S_b7 (fu : Nat) (xs : List (D RT den)) : Option (Out RT den) := match xs with | [.int .i64 a0_0, .rptr [.int .i64 a1_0, .rs za1_1 .impl_Backend na1_1 fa1_1, .rs za1_2 .impl_Vip na1_2 fa1_2]] => some ⟨Bool, F_impl_ConfigFault_c1 fu a0_0 a1_0 (⟨za1_1, na1_1, fa1_1⟩ : (Sl S_impl_Backend)) (⟨za1_2, na1_2, fa1_2⟩ : (Sl S_impl_Vip)), enc_bo, fun _ => true⟩ | _ => none
theorem hpc_b7 (fu : Nat) : ∀ f xs o, pcf_b7 fu f xs = some o → ∀ y, o.x = some y → Good E Try.prog f xs (o.g y) := by
  intro f xs o h
  unfold pcf_b7 at h
  split at h
  · exact good_b6 fu xs o h
  · cases h
theorem goodv_b7 (fu : Nat) (name_0 : Int) (x_1_1 : Int) (x_1_2 : (Sl S_impl_Backend)) (x_1_3 : (Sl S_impl_Vip)) (y : Bool) (hy : F_impl_ConfigFault_c1 fu name_0 x_1_1 x_1_2 x_1_3 = some y) : Good E Try.prog 90 [(.int .i64 name_0), (.rptr [(.int .i64 x_1_1), (.rs x_1_2.z .impl_Backend x_1_2.n x_1_2.f), (.rs x_1_3.z .impl_Vip x_1_3.n x_1_3.f)])] (enc_bo y) :=
  fun_good E_ok (pc_good (pc := pc_b7 fu) (hpc_b7 fu) hpx0) (fn := Try.f90) (c := body_b7) (out := out_bo) (y := y) (by kernel_rfl) (by kernel_rfl) (by kernel_rfl) (lpok_b7 fu) (fun d hd => out_bo_enc d _ hd) ((ev_b7 fu name_0 x_1_1 x_1_2 x_1_3).trans hy)
theorem good_b7 (fu : Nat) : ∀ xs o, S_b7 fu xs = some o → ∀ y, o.x = some y → Good E Try.prog 90 xs (o.g y) := by
  intro xs o h y hy
  unfold S_b7 at h
  split at h
  · rename_i a0_0 a1_0 za1_1 na1_1 fa1_1 za1_2 na1_2 fa1_2
    cases h
    exact goodv_b7 fu a0_0 a1_0 (⟨za1_1, na1_1, fa1_1⟩ : (Sl S_impl_Backend)) (⟨za1_2, na1_2, fa1_2⟩ : (Sl S_impl_Vip)) y hy
  · cases h

/-! slices.IndexFunc[[]int64,int64] -/
def F_slices_IndexFunc_int64_int64_w_impl_ConfigFault_c1_B0 {ρ : Type} (fu : Nat) (s0_0 : (Sl Int)) (f1_1 : Int) (f1_2 : (Sl S_impl_Backend)) (f1_3 : (Sl S_impl_Vip)) (t7_4 : Int) (k0 : Int → Option ρ) (k1 : Option ρ) (t8_5 : Int) (go : Int → Option ρ) : Option ρ :=
  (bif (decide (t8_5 < t7_4)) then ((bif (decide (0 ≤ t8_5) && decide ((Int.toNat t8_5) < s0_0.n)) then some () else none : Option Unit).bind fun _ => ((F_impl_ConfigFault_c1 fu (s0_0.f (Int.toNat t8_5)) f1_1 f1_2 f1_3).bind fun y197 =>
    (bif y197 then (k0 t8_5) else (go (IntKind.wrap .i64 (t8_5 + 1)))))) else k1)
def F_slices_IndexFunc_int64_int64_w_impl_ConfigFault_c1 (fu : Nat) (s_0 : (Sl Int)) (f_1_1 : Int) (f_1_2 : (Sl S_impl_Backend)) (f_1_3 : (Sl S_impl_Vip)) : Option (Int) :=
  (L (fun w0 go0 => F_slices_IndexFunc_int64_int64_w_impl_ConfigFault_c1_B0 fu s_0 f_1_1 f_1_2 f_1_3 ((s_0.n : Nat) : Int) (fun z198 => (some z198)) (some (-1)) w0 go0) fu (0 : Int))
def pcf_b8 (fu : Nat) (f : Nat) (xs : List (D RT den)) : Option (Out RT den) := match f with | 90 => S_b7 fu xs | _ => none
def pc_b8 (fu : Nat) : Pc RT den := ⟨pcf_b8 fu, fun _ => false, fun _ => false, pcd0, pcx0⟩
def msk_b8 (b : Nat) : List Nat := match b with | 0 => [2, 3, 4, 5, 6, 9, 10, 11, 12, 13, 14, 15, 16, 17, 18] | 100000 => [0, 1, 2, 3, 5, 6, 7, 8, 9, 10, 11, 12, 13, 14, 15, 16, 17, 18] | _ => []
def ps_b8_0 : List (Pat RT) := [.flat (.rs .i64), .fn 90 [.rptr [(.int .i64), (.rs .impl_Backend), (.rs .impl_Vip)]], .flat .q, .flat .q, .flat .q, .flat .q, .flat .q, .flat (.int .i64), .flat (.int .i64), .flat .q, .flat .q, .flat .q, .flat .q, .flat .q, .flat .q, .flat .q, .flat .q, .flat .q, .flat .q]
def os_b8_0 : List (OP RT) := []
def conv_b8_0 (r : Raw den ps_b8_0 os_b8_0) : ((Sl Int) × Int × (Sl S_impl_Backend) × (Sl S_impl_Vip) × Int) × (Int) := ((r.1.1, r.1.2.1.1.1, r.1.2.1.1.2.1, r.1.2.1.1.2.2.1, r.1.2.2.2.2.2.2.2.1), r.1.2.2.2.2.2.2.2.2.1)
def back_b8_0 (c : (Sl Int) × Int × (Sl S_impl_Backend) × (Sl S_impl_Vip) × Int) (w : Int) : St RT den := ⟨[(.rs c.1.z .i64 c.1.n c.1.f), (.fn 90 [(.rptr [(.int .i64 c.2.1), (.rs c.2.2.1.z .impl_Backend c.2.2.1.n c.2.2.1.f), (.rs c.2.2.2.1.z .impl_Vip c.2.2.2.1.n c.2.2.2.1.f)])]), .q, .q, .q, .q, .q, (.int .i64 c.2.2.2.2), (.int .i64 w), .q, .q, .q, .q, .q, .q, .q, .q, .q, .q], []⟩
def Bk_b8_0 {ρ : Type} (fu : Nat) (c : (Sl Int) × Int × (Sl S_impl_Backend) × (Sl S_impl_Vip) × Int) (k : Ex → St RT den → Option ρ) (w : Int) (go : (Int) → Option ρ) : Option ρ := F_slices_IndexFunc_int64_int64_w_impl_ConfigFault_c1_B0 fu c.1 c.2.1 c.2.2.1 c.2.2.2.1 c.2.2.2.2 (fun a0 => k .ret ⟨[.q, .q, .q, .q, (.int .i64 a0), .q, .q, .q, .q, .q, .q, .q, .q, .q, .q, .q, .q, .q, .q], []⟩) (k (.exit 0) ⟨[.q, .q, .q, .q, .q, .q, .q, .q, .q, .q, .q, .q, .q, .q, .q, .q, .q, .q, .q], []⟩) w go
def lp_b8 (fu : Nat) : Lp RT den (Int) := fun b s k => match b with | 0 => handle ps_b8_0 os_b8_0 conv_b8_0 (Bk_b8_0 fu) fu s k | _ => none
theorem ev_b8 (fu : Nat) (s_0 : (Sl Int)) (f_1_1 : Int) (f_1_2 : (Sl S_impl_Backend)) (f_1_3 : (Sl S_impl_Vip)) : evFun E (pc_b8 fu) msk_b8 (lp_b8 fu) out_i64 124 [(.rs s_0.z .i64 s_0.n s_0.f), (.fn 90 [(.rptr [(.int .i64 f_1_1), (.rs f_1_2.z .impl_Backend f_1_2.n f_1_2.f), (.rs f_1_3.z .impl_Vip f_1_3.n f_1_3.f)])])] = F_slices_IndexFunc_int64_int64_w_impl_ConfigFault_c1 fu s_0 f_1_1 f_1_2 f_1_3 := by kernel_rfl
noncomputable def body_b8 : Code := Try.f124.body.getD .skip
noncomputable def lc_b8_0 : Code := ((loops 0 body_b8).getD 0 (0, .skip)).2
theorem round_b8_0 (fu : Nat) (it : St RT den → Option (Int)) (k : Ex → St RT den → Option (Int)) c w : evCode E (pc_b8 fu) msk_b8 (lp_b8 fu) 0 lc_b8_0 (back_b8_0 c w) (after (msk_b8 0) (msk_b8 100000) 0 it k) = Bk_b8_0 fu c k w (fun w => it (back_b8_0 c w)) := by kernel_rfl
theorem lpok_b8_0 (fu : Nat) : ∀ s k r, lp_b8 fu 0 s k = some r → ∃ fuel, iter (msk_b8 0) (msk_b8 100000) s.objs.length (evCode E (pc_b8 fu) msk_b8 (lp_b8 fu) 0 lc_b8_0) fuel s k = some r :=
  handle_ok (ps := ps_b8_0) (os := os_b8_0) (conv := conv_b8_0) (B := Bk_b8_0 fu) (fu := fu) back_b8_0 (fun raw => by kernel_rfl) 0 (fun c w => by kernel_rfl) (round_b8_0 fu)
theorem lpok_b8 (fu : Nat) : LpOk E (pc_b8 fu) msk_b8 (lp_b8 fu) (loops 0 body_b8) := loop_all 1 (by kernel_rfl) fun i hi => match i, hi with
  | 0, _ => by
    have h : (loops 0 body_b8).getD 0 (0, .skip) = (0, lc_b8_0) := by kernel_rfl
    rw [h]; exact lpok_b8_0 fu
  | i + 1, hi => absurd hi (by omega)
def S_b8 (fu : Nat) (xs : List (D RT den)) : Option (Out RT den) := match xs with | [.rs za0_0 .i64 na0_0 fa0_0, .fn 90 [.rptr [.int .i64 a1_0, .rs za1_1 .impl_Backend na1_1 fa1_1, .rs za1_2 .impl_Vip na1_2 fa1_2]]] => some ⟨Int, F_slices_IndexFunc_int64_int64_w_impl_ConfigFault_c1 fu (⟨za0_0, na0_0, fa0_0⟩ : (Sl Int)) a1_0 (⟨za1_1, na1_1, fa1_1⟩ : (Sl S_impl_Backend)) (⟨za1_2, na1_2, fa1_2⟩ : (Sl S_impl_Vip)), enc_i64, fun _ => true⟩ | _ => none
theorem hpc_b8 (fu : Nat) : ∀ f xs o, pcf_b8 fu f xs = some o → ∀ y, o.x = some y → Good E Try.prog f xs (o.g y) := by
  intro f xs o h
  unfold pcf_b8 at h
  split at h
  · exact good_b7 fu xs o h
  · cases h
theorem goodv_b8 (fu : Nat) (s_0 : (Sl Int)) (f_1_1 : Int) (f_1_2 : (Sl S_impl_Backend)) (f_1_3 : (Sl S_impl_Vip)) (y : Int) (hy : F_slices_IndexFunc_int64_int64_w_impl_ConfigFault_c1 fu s_0 f_1_1 f_1_2 f_1_3 = some y) : Good E Try.prog 124 [(.rs s_0.z .i64 s_0.n s_0.f), (.fn 90 [(.rptr [(.int .i64 f_1_1), (.rs f_1_2.z .impl_Backend f_1_2.n f_1_2.f), (.rs f_1_3.z .impl_Vip f_1_3.n f_1_3.f)])])] (enc_i64 y) :=
  fun_good E_ok (pc_good (pc := pc_b8 fu) (hpc_b8 fu) hpx0) (fn := Try.f124) (c := body_b8) (out := out_i64) (y := y) (by kernel_rfl) (by kernel_rfl) (by kernel_rfl) (lpok_b8 fu) (fun d hd => out_i64_enc d _ hd) ((ev_b8 fu s_0 f_1_1 f_1_2 f_1_3).trans hy)
theorem good_b8 (fu : Nat) : ∀ xs o, S_b8 fu xs = some o → ∀ y, o.x = some y → Good E Try.prog 124 xs (o.g y) := by
  intro xs o h y hy
  unfold S_b8 at h
  split at h
  · rename_i za0_0 na0_0 fa0_0 a1_0 za1_1 na1_1 fa1_1 za1_2 na1_2 fa1_2
    cases h
    exact goodv_b8 fu (⟨za0_0, na0_0, fa0_0⟩ : (Sl Int)) a1_0 (⟨za1_1, na1_1, fa1_1⟩ : (Sl S_impl_Backend)) (⟨za1_2, na1_2, fa1_2⟩ : (Sl S_impl_Vip)) y hy
  · cases h

/-! slices.ContainsFunc[[]int64,int64] -/
def F_slices_ContainsFunc_int64_int64_w_impl_ConfigFault_c1 (fu : Nat) (s_0 : (Sl Int)) (f_1_1 : Int) (f_1_2 : (Sl S_impl_Backend)) (f_1_3 : (Sl S_impl_Vip)) : Option (Bool) :=
  ((F_slices_IndexFunc_int64_int64_w_impl_ConfigFault_c1 fu s_0 f_1_1 f_1_2 f_1_3).bind fun y196 => (some (decide (y196 ≥ 0))))
def pcf_b9 (fu : Nat) (f : Nat) (xs : List (D RT den)) : Option (Out RT den) := match f with | 124 => S_b8 fu xs | _ => none
def pc_b9 (fu : Nat) : Pc RT den := ⟨pcf_b9 fu, fun _ => false, fun _ => false, pcd0, pcx0⟩
def msk_b9 (b : Nat) : List Nat := []
def lp_b9 (fu : Nat) : Lp RT den (Bool) := fun b s k => none
theorem ev_b9 (fu : Nat) (s_0 : (Sl Int)) (f_1_1 : Int) (f_1_2 : (Sl S_impl_Backend)) (f_1_3 : (Sl S_impl_Vip)) : evFun E (pc_b9 fu) msk_b9 (lp_b9 fu) out_bo 89 [(.rs s_0.z .i64 s_0.n s_0.f), (.fn 90 [(.rptr [(.int .i64 f_1_1), (.rs f_1_2.z .impl_Backend f_1_2.n f_1_2.f), (.rs f_1_3.z .impl_Vip f_1_3.n f_1_3.f)])])] = F_slices_ContainsFunc_int64_int64_w_impl_ConfigFault_c1 fu s_0 f_1_1 f_1_2 f_1_3 := by kernel_rfl
noncomputable def body_b9 : Code := Try.f89.body.getD .skip
theorem lpok_b9 (fu : Nat) : LpOk E (pc_b9 fu) msk_b9 (lp_b9 fu) (loops 0 body_b9) := by
  have h : loops 0 body_b9 = [] := by kernel_rfl
  rw [h]; intro p hp; cases hp
def S_b9 (fu : Nat) (xs : List (D RT den)) : Option (Out RT den) := match xs with | [.rs za0_0 .i64 na0_0 fa0_0, .fn 90 [.rptr [.int .i64 a1_0, .rs za1_1 .impl_Backend na1_1 fa1_1, .rs za1_2 .impl_Vip na1_2 fa1_2]]] => some ⟨Bool, F_slices_ContainsFunc_int64_int64_w_impl_ConfigFault_c1 fu (⟨za0_0, na0_0, fa0_0⟩ : (Sl Int)) a1_0 (⟨za1_1, na1_1, fa1_1⟩ : (Sl S_impl_Backend)) (⟨za1_2, na1_2, fa1_2⟩ : (Sl S_impl_Vip)), enc_bo, fun _ => true⟩ | _ => none
theorem hpc_b9 (fu : Nat) : ∀ f xs o, pcf_b9 fu f xs = some o → ∀ y, o.x = some y → Good E Try.prog f xs (o.g y) := by
  intro f xs o h
  unfold pcf_b9 at h
  split at h
  · exact good_b8 fu xs o h
  · cases h
theorem goodv_b9 (fu : Nat) (s_0 : (Sl Int)) (f_1_1 : Int) (f_1_2 : (Sl S_impl_Backend)) (f_1_3 : (Sl S_impl_Vip)) (y : Bool) (hy : F_slices_ContainsFunc_int64_int64_w_impl_ConfigFault_c1 fu s_0 f_1_1 f_1_2 f_1_3 = some y) : Good E Try.prog 89 [(.rs s_0.z .i64 s_0.n s_0.f), (.fn 90 [(.rptr [(.int .i64 f_1_1), (.rs f_1_2.z .impl_Backend f_1_2.n f_1_2.f), (.rs f_1_3.z .impl_Vip f_1_3.n f_1_3.f)])])] (enc_bo y) :=
  fun_good E_ok (pc_good (pc := pc_b9 fu) (hpc_b9 fu) hpx0) (fn := Try.f89) (c := body_b9) (out := out_bo) (y := y) (by kernel_rfl) (by kernel_rfl) (by kernel_rfl) (lpok_b9 fu) (fun d hd => out_bo_enc d _ hd) ((ev_b9 fu s_0 f_1_1 f_1_2 f_1_3).trans hy)
theorem good_b9 (fu : Nat) : ∀ xs o, S_b9 fu xs = some o → ∀ y, o.x = some y → Good E Try.prog 89 xs (o.g y) := by
  intro xs o h y hy
  unfold S_b9 at h
  split at h
  · rename_i za0_0 na0_0 fa0_0 a1_0 za1_1 na1_1 fa1_1 za1_2 na1_2 fa1_2
    cases h
    exact goodv_b9 fu (⟨za0_0, na0_0, fa0_0⟩ : (Sl Int)) a1_0 (⟨za1_1, na1_1, fa1_1⟩ : (Sl S_impl_Backend)) (⟨za1_2, na1_2, fa1_2⟩ : (Sl S_impl_Vip)) y hy
  · cases h

/-! impl.ConfigFault -/
def F_impl_ConfigFault_B1 {ρ : Type} (fu : Nat) (t25_0 : (Sl S_impl_Backend)) (t26_1 : Int) (o0_3 : Int) (o0_4 : (Sl S_impl_Backend)) (o0_5 : (Sl S_impl_Vip)) (k0 : Int → Int → Int → Int → Bool → Option ρ) (k1 : Int → Int → Int → Int → Bool → Option ρ) (k2 : Option ρ) (t27_2 : Int) (go : Int → Option ρ) : Option ρ :=
  (bif (decide (t27_2 < t26_1)) then ((bif (decide (0 ≤ t27_2) && decide ((Int.toNat t27_2) < t25_0.n)) then some () else none : Option Unit).bind fun _ => ((F_impl_isBackend fu (t25_0.f (Int.toNat t27_2))).bind fun y149 =>
    (bif (!y149) then (k0 (t25_0.f (Int.toNat t27_2)).Name (t25_0.f (Int.toNat t27_2)).Address (t25_0.f (Int.toNat t27_2)).Weight (t25_0.f (Int.toNat t27_2)).Stage (t25_0.f (Int.toNat t27_2)).Up) else
    (((bif (decide (t27_2 > 0)) then ((bif (decide (0 ≤ (IntKind.wrap .i64 (t27_2 - 1))) && decide ((Int.toNat (IntKind.wrap .i64 (t27_2 - 1))) < o0_4.n)) then some () else none : Option Unit).bind fun _ =>
    (some (decide ((t25_0.f (Int.toNat t27_2)).Name ≤ (o0_4.f (Int.toNat (IntKind.wrap .i64 (t27_2 - 1)))).Name)))) else (some false)) : Option Bool).bind fun m150 => (bif m150 then
    (k1 (t25_0.f (Int.toNat t27_2)).Name (t25_0.f (Int.toNat t27_2)).Address (t25_0.f (Int.toNat t27_2)).Weight (t25_0.f (Int.toNat t27_2)).Stage (t25_0.f (Int.toNat t27_2)).Up) else
    (go (IntKind.wrap .i64 (t27_2 + 1)))))))) else k2)
def F_impl_ConfigFault_B5 {ρ : Type} (fu : Nat) (t51_1 : (Sl S_impl_Vip)) (t52_2 : Int) (t53_3 : Int) (o0_4 : Int) (o0_5 : (Sl S_impl_Backend)) (o0_6 : (Sl S_impl_Vip)) (o1_7 : Int) (o1_8 : Int) (o1_9 : Int) (o1_10 : (Sl Int)) (k0 : Option ρ) (k1 : Option ρ) (k7_0 : Int) (go : Int → Option ρ) : Option ρ :=
  (bif (decide (k7_0 < ((o1_10.n : Nat) : Int))) then ((bif (decide (0 ≤ k7_0) && decide ((Int.toNat k7_0) < o1_10.n)) then some () else none : Option Unit).bind fun _ => ((bif (decide (0 ≤ (IntKind.wrap .i64 (k7_0 - 1))) &&
    decide ((Int.toNat (IntKind.wrap .i64 (k7_0 - 1))) < o1_10.n)) then some () else none : Option Unit).bind fun _ => (bif (decide ((o1_10.f (Int.toNat k7_0)) ≤ (o1_10.f (Int.toNat (IntKind.wrap .i64 (k7_0 - 1)))))) then
    k0 else (go (IntKind.wrap .i64 (k7_0 + 1)))))) else k1)
def F_impl_ConfigFault_B3 {ρ : Type} (fu : Nat) (t51_0 : (Sl S_impl_Vip)) (t52_1 : Int) (o0_3 : Int) (o0_4 : (Sl S_impl_Backend)) (o0_5 : (Sl S_impl_Vip)) (k0 : Int → Int → Int → (Sl Int) → Option ρ) (k1 : Int → Int → Int → (Sl Int) → Option ρ) (k2 : Int → Int → Int → (Sl Int) → Option ρ) (k3 : Option ρ) (t53_2 : Int) (go : Int → Option ρ) : Option ρ :=
  (bif (decide (t53_2 < t52_1)) then ((bif (decide (0 ≤ t53_2) && decide ((Int.toNat t53_2) < t51_0.n)) then some () else none : Option Unit).bind fun _ => ((((F_impl_isAddress fu (t51_0.f (Int.toNat t53_2)).Address).bind fun y161 =>
    (bif (!y161) then (some true) else ((F_impl_isPort fu (t51_0.f (Int.toNat t53_2)).Port).bind fun y162 => (bif (!y162) then (some true) else ((F_impl_isProto fu (t51_0.f (Int.toNat t53_2)).Proto).bind fun y163 =>
    (some (!y163))))))) : Option Bool).bind fun m164 => (bif m164 then (k0 (t51_0.f (Int.toNat t53_2)).Address (t51_0.f (Int.toNat t53_2)).Port (t51_0.f (Int.toNat t53_2)).Proto (t51_0.f (Int.toNat t53_2)).Names) else
    (((bif (decide (t53_2 > 0)) then ((bif (decide (0 ≤ (IntKind.wrap .i64 (t53_2 - 1))) && decide ((Int.toNat (IntKind.wrap .i64 (t53_2 - 1))) < o0_5.n)) then some () else none : Option Unit).bind fun _ =>
    ((F_impl_compareVip fu (o0_5.f (Int.toNat (IntKind.wrap .i64 (t53_2 - 1)))) (t51_0.f (Int.toNat t53_2))).bind fun y165 => (some (decide (y165 ≥ 0))))) else (some false)) : Option Bool).bind fun m166 =>
    (bif m166 then (k1 (t51_0.f (Int.toNat t53_2)).Address (t51_0.f (Int.toNat t53_2)).Port (t51_0.f (Int.toNat t53_2)).Proto (t51_0.f (Int.toNat t53_2)).Names) else
    ((F_slices_ContainsFunc_int64_int64_w_impl_ConfigFault_c1 fu (t51_0.f (Int.toNat t53_2)).Names o0_3 o0_4 o0_5).bind fun y167 => (bif y167 then (k2 (t51_0.f (Int.toNat t53_2)).Address (t51_0.f (Int.toNat t53_2)).Port (t51_0.f (Int.toNat t53_2)).Proto (t51_0.f (Int.toNat t53_2)).Names) else
    (L (fun w5 go5 => F_impl_ConfigFault_B5 fu t51_0 t52_1 t53_2 o0_3 o0_4 o0_5 ((t51_0.f (Int.toNat t53_2)).Address) ((t51_0.f (Int.toNat t53_2)).Port) ((t51_0.f (Int.toNat t53_2)).Proto) ((t51_0.f (Int.toNat t53_2)).Names) ((k1 (t51_0.f (Int.toNat t53_2)).Address (t51_0.f (Int.toNat t53_2)).Port (t51_0.f (Int.toNat t53_2)).Proto (t51_0.f (Int.toNat t53_2)).Names)) ((go (IntKind.wrap .i64 (t53_2 + 1)))) w5 go5) fu (1 : Int))))))))) else
    k3)
def F_impl_ConfigFault (fu : Nat) (c_0 : S_impl_Config) : Option (Int) :=
  ((F_impl_in fu c_0.Version 0 1000000).bind fun y147 => (bif (!y147) then (some 3) else (((bif (decide (((c_0.Backends.n : Nat) : Int) > 8)) then (some true) else (some (decide (((c_0.Vips.n : Nat) : Int) > 4)))) : Option Bool).bind fun m148 =>
    (bif m148 then (some 2) else (L (fun w1 go1 => F_impl_ConfigFault_B1 fu c_0.Backends ((c_0.Backends.n : Nat) : Int) c_0.Version c_0.Backends c_0.Vips (fun z151 z152 z153 z154 z155 =>
    (some 3)) (fun z156 z157 z158 z159 z160 => (some 1)) (L (fun w3 go3 => F_impl_ConfigFault_B3 fu c_0.Vips ((c_0.Vips.n : Nat) : Int) c_0.Version c_0.Backends c_0.Vips (fun z168 z169 z170 z171 =>
    (some 3)) (fun z172 z173 z174 z175 => (some 1)) (fun z176 z177 z178 z179 => (some 4)) (some 0) w3 go3) fu (0 : Int)) w1 go1) fu (0 : Int))))))
def pcf_b10 (fu : Nat) (f : Nat) (xs : List (D RT den)) : Option (Out RT den) := match f with | 69 => S_a34 fu xs | 84 => S_a37 fu xs | 85 => S_a36 fu xs | 86 => S_a38 fu xs | 87 => S_a39 fu xs | 88 => S_b3 fu xs | 89 => S_b9 fu xs | _ => none
def pc_b10 (fu : Nat) : Pc RT den := ⟨pcf_b10 fu, fun _ => false, fun _ => false, pcd0, pcx0⟩
def msk_b10 (b : Nat) : List Nat := match b with | 1 => [0, 2, 3, 4, 5, 6, 7, 8, 9, 10, 11, 12, 13, 14, 15, 16, 17, 18, 19, 20, 21, 22, 23, 24, 28, 29, 30, 31, 32, 33, 34, 35, 36, 37, 38, 39, 40, 41, 42, 43, 44, 45, 46, 47, 48, 49, 50, 51, 52, 53, 54, 55, 56, 57, 58, 59, 60, 61, 62, 63, 64, 65, 66, 67, 68, 69, 70, 71, 72, 73, 74, 75, 76, 77, 78, 79, 80, 81, 82, 83, 84, 85, 86, 87, 88, 89, 90, 91, 92, 93, 94, 95, 96, 97, 98, 99, 100, 101, 102, 103, 104, 105, 106, 107, 108, 109, 110] | 100001 => [0, 3, 4, 5, 6, 7, 8, 9, 10, 11, 12, 13, 14, 15, 16, 17, 18, 19, 20, 21, 22, 23, 24, 25, 26, 27, 28, 29, 30, 31, 32, 33, 34, 35, 36, 37, 38, 39, 40, 41, 42, 43, 44, 45, 46, 47, 48, 49, 50, 51, 52, 53, 54, 55, 56, 57, 58, 59, 60, 61, 62, 63, 64, 65, 66, 67, 68, 69, 70, 71, 72, 73, 74, 75, 76, 77, 78, 79, 80, 81, 82, 83, 84, 85, 86, 87, 88, 89, 90, 91, 92, 93, 94, 95, 96, 97, 98, 99, 100, 101, 102, 103, 104, 105, 106, 107, 108, 109, 110] | 3 => [0, 2, 3, 4, 5, 6, 7, 8, 9, 10, 11, 12, 13, 14, 15, 16, 17, 18, 19, 20, 21, 22, 23, 24, 25, 26, 27, 28, 29, 30, 31, 32, 33, 34, 35, 36, 37, 38, 39, 40, 41, 42, 43, 44, 45, 46, 47, 48, 49, 50, 54, 55, 56, 57, 58, 59, 60, 61, 62, 63, 64, 65, 66, 67, 68, 69, 70, 71, 72, 73, 74, 75, 76, 77, 78, 79, 80, 81, 82, 83, 84, 85, 86, 87, 88, 89, 90, 91, 92, 93, 94, 95, 96, 97, 98, 99, 100, 101, 102, 103, 104, 105, 106, 107, 108, 109, 110] | 100003 => [0, 1, 3, 4, 5, 6, 7, 8, 9, 10, 11, 12, 13, 14, 15, 16, 17, 18, 19, 20, 21, 22, 23, 24, 25, 26, 27, 28, 29, 30, 31, 32, 33, 34, 35, 36, 37, 38, 39, 40, 41, 42, 43, 44, 45, 46, 47, 48, 49, 50, 51, 52, 53, 54, 55, 56, 57, 58, 59, 60, 61, 62, 63, 64, 65, 66, 67, 68, 69, 70, 71, 72, 73, 74, 75, 76, 77, 78, 79, 80, 81, 82, 83, 84, 85, 86, 87, 88, 89, 90, 91, 92, 93, 94, 95, 96, 97, 98, 99, 100, 101, 102, 103, 104, 105, 106, 107, 108, 109, 110] | 5 => [0, 2, 3, 4, 5, 8, 9, 10, 11, 12, 13, 14, 15, 16, 17, 18, 19, 20, 21, 22, 23, 24, 25, 26, 27, 28, 29, 30, 31, 32, 33, 34, 35, 36, 37, 38, 39, 40, 41, 42, 43, 44, 45, 46, 47, 48, 49, 50, 54, 55, 56, 57, 58, 59, 60, 61, 62, 63, 64, 65, 66, 67, 68, 69, 70, 71, 72, 73, 74, 75, 76, 77, 78, 79, 80, 81, 82, 83, 84, 85, 86, 87, 88, 89, 90, 91, 92, 93, 94, 95, 96, 97, 98, 99, 100, 101, 102, 103, 104, 105, 106, 107, 108, 109, 110] | 100005 => [0, 3, 4, 5, 6, 7, 8, 9, 10, 11, 12, 13, 14, 15, 16, 17, 18, 19, 20, 21, 22, 23, 24, 25, 26, 27, 28, 29, 30, 31, 32, 33, 34, 35, 36, 37, 38, 39, 40, 41, 42, 43, 44, 45, 46, 47, 48, 49, 50, 54, 55, 56, 57, 58, 59, 60, 61, 62, 63, 64, 65, 66, 67, 68, 69, 70, 71, 72, 73, 74, 75, 76, 77, 78, 79, 80, 81, 82, 83, 84, 85, 86, 87, 88, 89, 90, 91, 92, 93, 94, 95, 96, 97, 98, 99, 100, 101, 102, 103, 104, 105, 106, 107, 108, 109, 110] | 200003 => [13] | 200010 => [48] | 200016 => [73] | 200018 => [86] | _ => []
def ps_b10_1 : List (Pat RT) := [.flat .q, .flat (.ref 0 0), .flat .q, .flat .q, .flat .q, .flat .q, .flat .q, .flat .q, .flat .q, .flat .q, .flat .q, .flat .q, .flat .q, .flat .q, .flat .q, .flat .q, .flat .q, .flat .q, .flat .q, .flat .q, .flat .q, .flat .q, .flat .q, .flat .q, .flat .q, .flat (.rs .impl_Backend), .flat (.int .i64), .flat (.int .i64), .flat .q, .flat .q, .flat .q, .flat .q, .flat .q, .flat .q, .flat .q, .flat .q, .flat .q, .flat .q, .flat .q, .flat .q, .flat .q, .flat .q, .flat .q, .flat .q, .flat .q, .flat .q, .flat .q, .flat .q, .flat .q, .flat .q, .flat .q, .flat .q, .flat .q, .flat .q, .flat .q, .flat .q, .flat .q, .flat .q, .flat .q, .flat .q, .flat .q, .flat .q, .flat .q, .flat .q, .flat .q, .flat .q, .flat .q, .flat .q, .flat .q, .flat .q, .flat .q, .flat .q, .flat .q, .flat .q, .flat .q, .flat .q, .flat .q, .flat .q, .flat .q, .flat .q, .flat .q, .flat .q, .flat .q, .flat .q, .flat .q, .flat .q, .flat .q, .flat .q, .flat .q, .flat .q, .flat .q, .flat .q, .flat .q, .flat .q, .flat .q, .flat .q, .flat .q, .flat .q, .flat .q, .flat .q, .flat .q, .flat .q, .flat .q, .flat .q, .flat .q, .flat .q, .flat .q, .flat .q, .flat .q, .flat .q, .flat .q]
def os_b10_1 : List (OP RT) := [.box false [(.int .i64), (.rs .impl_Backend), (.rs .impl_Vip)]]
def conv_b10_1 (r : Raw den ps_b10_1 os_b10_1) : ((Sl S_impl_Backend) × Int × Int × (Sl S_impl_Backend) × (Sl S_impl_Vip)) × (Int) := ((r.1.2.2.2.2.2.2.2.2.2.2.2.2.2.2.2.2.2.2.2.2.2.2.2.2.2.1, r.1.2.2.2.2.2.2.2.2.2.2.2.2.2.2.2.2.2.2.2.2.2.2.2.2.2.2.1, r.2.1.1, r.2.1.2.1, r.2.1.2.2.1), r.1.2.2.2.2.2.2.2.2.2.2.2.2.2.2.2.2.2.2.2.2.2.2.2.2.2.2.2.1)
def back_b10_1 (c : (Sl S_impl_Backend) × Int × Int × (Sl S_impl_Backend) × (Sl S_impl_Vip)) (w : Int) : St RT den := ⟨[.q, (.ref 0 0), .q, .q, .q, .q, .q, .q, .q, .q, .q, .q, .q, .q, .q, .q, .q, .q, .q, .q, .q, .q, .q, .q, .q, (.rs c.1.z .impl_Backend c.1.n c.1.f), (.int .i64 c.2.1), (.int .i64 w), .q, .q, .q, .q, .q, .q, .q, .q, .q, .q, .q, .q, .q, .q, .q, .q, .q, .q, .q, .q, .q, .q, .q, .q, .q, .q, .q, .q, .q, .q, .q, .q, .q, .q, .q, .q, .q, .q, .q, .q, .q, .q, .q, .q, .q, .q, .q, .q, .q, .q, .q, .q, .q, .q, .q, .q, .q, .q, .q, .q, .q, .q, .q, .q, .q, .q, .q, .q, .q, .q, .q, .q, .q, .q, .q, .q, .q, .q, .q, .q, .q, .q, .q], [(.box false [(.int .i64 c.2.2.1), (.rs c.2.2.2.1.z .impl_Backend c.2.2.2.1.n c.2.2.2.1.f), (.rs c.2.2.2.2.z .impl_Vip c.2.2.2.2.n c.2.2.2.2.f)])]⟩
def Bk_b10_1 {ρ : Type} (fu : Nat) (c : (Sl S_impl_Backend) × Int × Int × (Sl S_impl_Backend) × (Sl S_impl_Vip)) (k : Ex → St RT den → Option ρ) (w : Int) (go : (Int) → Option ρ) : Option ρ := F_impl_ConfigFault_B1 fu c.1 c.2.1 c.2.2.1 c.2.2.2.1 c.2.2.2.2 (fun a0 a1 a2 a3 a4 => k .ret ⟨[.q, (.ref 0 0), (.int .i64 3), .q, .q, .q, .q, .q, .q, .q, .q, .q, .q, .q, .q, .q, .q, .q, .q, .q, .q, .q, .q, .q, .q, .q, .q, .q, .q, .q, .q, .q, .q, .q, .q, .q, .q, .q, .q, .q, .q, .q, .q, .q, .q, .q, .q, .q, .q, .q, .q, .q, .q, .q, .q, .q, .q, .q, .q, .q, .q, .q, .q, .q, .q, .q, .q, .q, .q, .q, .q, .q, .q, .q, .q, .q, .q, .q, .q, .q, .q, .q, .q, .q, .q, .q, .q, .q, .q, .q, .q, .q, .q, .q, .q, .q, .q, .q, .q, .q, .q, .q, .q, .q, .q, .q, .q, .q, .q, .q, .q], [(.box false [(.int .i64 c.2.2.1), (.rs c.2.2.2.1.z .impl_Backend c.2.2.2.1.n c.2.2.2.1.f), (.rs c.2.2.2.2.z .impl_Vip c.2.2.2.2.n c.2.2.2.2.f)]), (.box false [(.int .i64 a0), (.int .i64 a1), (.int .i64 a2), (.int .i64 a3), (.bool a4)])]⟩) (fun a0 a1 a2 a3 a4 => k .ret ⟨[.q, (.ref 0 0), (.int .i64 1), .q, .q, .q, .q, .q, .q, .q, .q, .q, .q, .q, .q, .q, .q, .q, .q, .q, .q, .q, .q, .q, .q, .q, .q, .q, .q, .q, .q, .q, .q, .q, .q, .q, .q, .q, .q, .q, .q, .q, .q, .q, .q, .q, .q, .q, .q, .q, .q, .q, .q, .q, .q, .q, .q, .q, .q, .q, .q, .q, .q, .q, .q, .q, .q, .q, .q, .q, .q, .q, .q, .q, .q, .q, .q, .q, .q, .q, .q, .q, .q, .q, .q, .q, .q, .q, .q, .q, .q, .q, .q, .q, .q, .q, .q, .q, .q, .q, .q, .q, .q, .q, .q, .q, .q, .q, .q, .q, .q], [(.box false [(.int .i64 c.2.2.1), (.rs c.2.2.2.1.z .impl_Backend c.2.2.2.1.n c.2.2.2.1.f), (.rs c.2.2.2.2.z .impl_Vip c.2.2.2.2.n c.2.2.2.2.f)]), (.box false [(.int .i64 a0), (.int .i64 a1), (.int .i64 a2), (.int .i64 a3), (.bool a4)])]⟩) (k (.exit 1) ⟨[.q, (.ref 0 0), .q, .q, .q, .q, .q, .q, .q, .q, .q, .q, .q, .q, .q, .q, .q, .q, .q, .q, .q, .q, .q, .q, .q, .q, .q, .q, .q, .q, .q, .q, .q, .q, .q, .q, .q, .q, .q, .q, .q, .q, .q, .q, .q, .q, .q, .q, .q, .q, .q, .q, .q, .q, .q, .q, .q, .q, .q, .q, .q, .q, .q, .q, .q, .q, .q, .q, .q, .q, .q, .q, .q, .q, .q, .q, .q, .q, .q, .q, .q, .q, .q, .q, .q, .q, .q, .q, .q, .q, .q, .q, .q, .q, .q, .q, .q, .q, .q, .q, .q, .q, .q, .q, .q, .q, .q, .q, .q, .q, .q], [(.box false [(.int .i64 c.2.2.1), (.rs c.2.2.2.1.z .impl_Backend c.2.2.2.1.n c.2.2.2.1.f), (.rs c.2.2.2.2.z .impl_Vip c.2.2.2.2.n c.2.2.2.2.f)])]⟩) w go
def ps_b10_5 : List (Pat RT) := [.flat .q, .flat (.ref 0 0), .flat .q, .flat .q, .flat .q, .flat .q, .flat (.ref 1 0), .flat (.int .i64), .flat .q, .flat .q, .flat .q, .flat .q, .flat .q, .flat .q, .flat .q, .flat .q, .flat .q, .flat .q, .flat .q, .flat .q, .flat .q, .flat .q, .flat .q, .flat .q, .flat .q, .flat .q, .flat .q, .flat .q, .flat .q, .flat .q, .flat .q, .flat .q, .flat .q, .flat .q, .flat .q, .flat .q, .flat .q, .flat .q, .flat .q, .flat .q, .flat .q, .flat .q, .flat .q, .flat .q, .flat .q, .flat .q, .flat .q, .flat .q, .flat .q, .flat .q, .flat .q, .flat (.rs .impl_Vip), .flat (.int .i64), .flat (.int .i64), .flat .q, .flat .q, .flat .q, .flat .q, .flat .q, .flat .q, .flat .q, .flat .q, .flat .q, .flat .q, .flat .q, .flat .q, .flat .q, .flat .q, .flat .q, .flat .q, .flat .q, .flat .q, .flat .q, .flat .q, .flat .q, .flat .q, .flat .q, .flat .q, .flat .q, .flat .q, .flat .q, .flat .q, .flat .q, .flat .q, .flat .q, .flat .q, .flat .q, .flat .q, .flat .q, .flat .q, .flat .q, .flat .q, .flat .q, .flat .q, .flat .q, .flat .q, .flat .q, .flat .q, .flat .q, .flat .q, .flat .q, .flat .q, .flat .q, .flat .q, .flat .q, .flat .q, .flat .q, .flat .q, .flat .q, .flat .q, .flat .q]
def os_b10_5 : List (OP RT) := [.box false [(.int .i64), (.rs .impl_Backend), (.rs .impl_Vip)], .box false [(.int .i64), (.int .i64), (.int .i64), (.rs .i64)]]
def conv_b10_5 (r : Raw den ps_b10_5 os_b10_5) : ((Sl S_impl_Vip) × Int × Int × Int × (Sl S_impl_Backend) × (Sl S_impl_Vip) × Int × Int × Int × (Sl Int)) × (Int) := ((r.1.2.2.2.2.2.2.2.2.2.2.2.2.2.2.2.2.2.2.2.2.2.2.2.2.2.2.2.2.2.2.2.2.2.2.2.2.2.2.2.2.2.2.2.2.2.2.2.2.2.2.2.1, r.1.2.2.2.2.2.2.2.2.2.2.2.2.2.2.2.2.2.2.2.2.2.2.2.2.2.2.2.2.2.2.2.2.2.2.2.2.2.2.2.2.2.2.2.2.2.2.2.2.2.2.2.2.1, r.1.2.2.2.2.2.2.2.2.2.2.2.2.2.2.2.2.2.2.2.2.2.2.2.2.2.2.2.2.2.2.2.2.2.2.2.2.2.2.2.2.2.2.2.2.2.2.2.2.2.2.2.2.2.1, r.2.1.1, r.2.1.2.1, r.2.1.2.2.1, r.2.2.1.1, r.2.2.1.2.1, r.2.2.1.2.2.1, r.2.2.1.2.2.2.1), r.1.2.2.2.2.2.2.2.1)
def back_b10_5 (c : (Sl S_impl_Vip) × Int × Int × Int × (Sl S_impl_Backend) × (Sl S_impl_Vip) × Int × Int × Int × (Sl Int)) (w : Int) : St RT den := ⟨[.q, (.ref 0 0), .q, .q, .q, .q, (.ref 1 0), (.int .i64 w), .q, .q, .q, .q, .q, .q, .q, .q, .q, .q, .q, .q, .q, .q, .q, .q, .q, .q, .q, .q, .q, .q, .q, .q, .q, .q, .q, .q, .q, .q, .q, .q, .q, .q, .q, .q, .q, .q, .q, .q, .q, .q, .q, (.rs c.1.z .impl_Vip c.1.n c.1.f), (.int .i64 c.2.1), (.int .i64 c.2.2.1), .q, .q, .q, .q, .q, .q, .q, .q, .q, .q, .q, .q, .q, .q, .q, .q, .q, .q, .q, .q, .q, .q, .q, .q, .q, .q, .q, .q, .q, .q, .q, .q, .q, .q, .q, .q, .q, .q, .q, .q, .q, .q, .q, .q, .q, .q, .q, .q, .q, .q, .q, .q, .q, .q, .q, .q, .q], [(.box false [(.int .i64 c.2.2.2.1), (.rs c.2.2.2.2.1.z .impl_Backend c.2.2.2.2.1.n c.2.2.2.2.1.f), (.rs c.2.2.2.2.2.1.z .impl_Vip c.2.2.2.2.2.1.n c.2.2.2.2.2.1.f)]), (.box false [(.int .i64 c.2.2.2.2.2.2.1), (.int .i64 c.2.2.2.2.2.2.2.1), (.int .i64 c.2.2.2.2.2.2.2.2.1), (.rs c.2.2.2.2.2.2.2.2.2.z .i64 c.2.2.2.2.2.2.2.2.2.n c.2.2.2.2.2.2.2.2.2.f)])]⟩
def Bk_b10_5 {ρ : Type} (fu : Nat) (c : (Sl S_impl_Vip) × Int × Int × Int × (Sl S_impl_Backend) × (Sl S_impl_Vip) × Int × Int × Int × (Sl Int)) (k : Ex → St RT den → Option ρ) (w : Int) (go : (Int) → Option ρ) : Option ρ := F_impl_ConfigFault_B5 fu c.1 c.2.1 c.2.2.1 c.2.2.2.1 c.2.2.2.2.1 c.2.2.2.2.2.1 c.2.2.2.2.2.2.1 c.2.2.2.2.2.2.2.1 c.2.2.2.2.2.2.2.2.1 c.2.2.2.2.2.2.2.2.2 (k .ret ⟨[.q, (.ref 0 0), (.int .i64 1), .q, .q, .q, .q, .q, .q, .q, .q, .q, .q, .q, .q, .q, .q, .q, .q, .q, .q, .q, .q, .q, .q, .q, .q, .q, .q, .q, .q, .q, .q, .q, .q, .q, .q, .q, .q, .q, .q, .q, .q, .q, .q, .q, .q, .q, .q, .q, .q, (.rs c.1.z .impl_Vip c.1.n c.1.f), (.int .i64 c.2.1), (.int .i64 c.2.2.1), .q, .q, .q, .q, .q, .q, .q, .q, .q, .q, .q, .q, .q, .q, .q, .q, .q, .q, .q, .q, .q, .q, .q, .q, .q, .q, .q, .q, .q, .q, .q, .q, .q, .q, .q, .q, .q, .q, .q, .q, .q, .q, .q, .q, .q, .q, .q, .q, .q, .q, .q, .q, .q, .q, .q, .q, .q], [(.box false [(.int .i64 c.2.2.2.1), (.rs c.2.2.2.2.1.z .impl_Backend c.2.2.2.2.1.n c.2.2.2.2.1.f), (.rs c.2.2.2.2.2.1.z .impl_Vip c.2.2.2.2.2.1.n c.2.2.2.2.2.1.f)]), (.box false [(.int .i64 c.2.2.2.2.2.2.1), (.int .i64 c.2.2.2.2.2.2.2.1), (.int .i64 c.2.2.2.2.2.2.2.2.1), (.rs c.2.2.2.2.2.2.2.2.2.z .i64 c.2.2.2.2.2.2.2.2.2.n c.2.2.2.2.2.2.2.2.2.f)])]⟩) (k (.exit 5) ⟨[.q, (.ref 0 0), .q, .q, .q, .q, .q, .q, .q, .q, .q, .q, .q, .q, .q, .q, .q, .q, .q, .q, .q, .q, .q, .q, .q, .q, .q, .q, .q, .q, .q, .q, .q, .q, .q, .q, .q, .q, .q, .q, .q, .q, .q, .q, .q, .q, .q, .q, .q, .q, .q, (.rs c.1.z .impl_Vip c.1.n c.1.f), (.int .i64 c.2.1), (.int .i64 c.2.2.1), .q, .q, .q, .q, .q, .q, .q, .q, .q, .q, .q, .q, .q, .q, .q, .q, .q, .q, .q, .q, .q, .q, .q, .q, .q, .q, .q, .q, .q, .q, .q, .q, .q, .q, .q, .q, .q, .q, .q, .q, .q, .q, .q, .q, .q, .q, .q, .q, .q, .q, .q, .q, .q, .q, .q, .q, .q], [(.box false [(.int .i64 c.2.2.2.1), (.rs c.2.2.2.2.1.z .impl_Backend c.2.2.2.2.1.n c.2.2.2.2.1.f), (.rs c.2.2.2.2.2.1.z .impl_Vip c.2.2.2.2.2.1.n c.2.2.2.2.2.1.f)]), (.box false [(.int .i64 c.2.2.2.2.2.2.1), (.int .i64 c.2.2.2.2.2.2.2.1), (.int .i64 c.2.2.2.2.2.2.2.2.1), (.rs c.2.2.2.2.2.2.2.2.2.z .i64 c.2.2.2.2.2.2.2.2.2.n c.2.2.2.2.2.2.2.2.2.f)])]⟩) w go
def ps_b10_3 : List (Pat RT) := [.flat .q, .flat (.ref 0 0), .flat .q, .flat .q, .flat .q, .flat .q, .flat .q, .flat .q, .flat .q, .flat .q, .flat .q, .flat .q, .flat .q, .flat .q, .flat .q, .flat .q, .flat .q, .flat .q, .flat .q, .flat .q, .flat .q, .flat .q, .flat .q, .flat .q, .flat .q, .flat .q, .flat .q, .flat .q, .flat .q, .flat .q, .flat .q, .flat .q, .flat .q, .flat .q, .flat .q, .flat .q, .flat .q, .flat .q, .flat .q, .flat .q, .flat .q, .flat .q, .flat .q, .flat .q, .flat .q, .flat .q, .flat .q, .flat .q, .flat .q, .flat .q, .flat .q, .flat (.rs .impl_Vip), .flat (.int .i64), .flat (.int .i64), .flat .q, .flat .q, .flat .q, .flat .q, .flat .q, .flat .q, .flat .q, .flat .q, .flat .q, .flat .q, .flat .q, .flat .q, .flat .q, .flat .q, .flat .q, .flat .q, .flat .q, .flat .q, .flat .q, .flat .q, .flat .q, .flat .q, .flat .q, .flat .q, .flat .q, .flat .q, .flat .q, .flat .q, .flat .q, .flat .q, .flat .q, .flat .q, .flat .q, .flat .q, .flat .q, .flat .q, .flat .q, .flat .q, .flat .q, .flat .q, .flat .q, .flat .q, .flat .q, .flat .q, .flat .q, .flat .q, .flat .q, .flat .q, .flat .q, .flat .q, .flat .q, .flat .q, .flat .q, .flat .q, .flat .q, .flat .q, .flat .q]
def os_b10_3 : List (OP RT) := [.box false [(.int .i64), (.rs .impl_Backend), (.rs .impl_Vip)]]
def conv_b10_3 (r : Raw den ps_b10_3 os_b10_3) : ((Sl S_impl_Vip) × Int × Int × (Sl S_impl_Backend) × (Sl S_impl_Vip)) × (Int) := ((r.1.2.2.2.2.2.2.2.2.2.2.2.2.2.2.2.2.2.2.2.2.2.2.2.2.2.2.2.2.2.2.2.2.2.2.2.2.2.2.2.2.2.2.2.2.2.2.2.2.2.2.2.1, r.1.2.2.2.2.2.2.2.2.2.2.2.2.2.2.2.2.2.2.2.2.2.2.2.2.2.2.2.2.2.2.2.2.2.2.2.2.2.2.2.2.2.2.2.2.2.2.2.2.2.2.2.2.1, r.2.1.1, r.2.1.2.1, r.2.1.2.2.1), r.1.2.2.2.2.2.2.2.2.2.2.2.2.2.2.2.2.2.2.2.2.2.2.2.2.2.2.2.2.2.2.2.2.2.2.2.2.2.2.2.2.2.2.2.2.2.2.2.2.2.2.2.2.2.1)
def back_b10_3 (c : (Sl S_impl_Vip) × Int × Int × (Sl S_impl_Backend) × (Sl S_impl_Vip)) (w : Int) : St RT den := ⟨[.q, (.ref 0 0), .q, .q, .q, .q, .q, .q, .q, .q, .q, .q, .q, .q, .q, .q, .q, .q, .q, .q, .q, .q, .q, .q, .q, .q, .q, .q, .q, .q, .q, .q, .q, .q, .q, .q, .q, .q, .q, .q, .q, .q, .q, .q, .q, .q, .q, .q, .q, .q, .q, (.rs c.1.z .impl_Vip c.1.n c.1.f), (.int .i64 c.2.1), (.int .i64 w), .q, .q, .q, .q, .q, .q, .q, .q, .q, .q, .q, .q, .q, .q, .q, .q, .q, .q, .q, .q, .q, .q, .q, .q, .q, .q, .q, .q, .q, .q, .q, .q, .q, .q, .q, .q, .q, .q, .q, .q, .q, .q, .q, .q, .q, .q, .q, .q, .q, .q, .q, .q, .q, .q, .q, .q, .q], [(.box false [(.int .i64 c.2.2.1), (.rs c.2.2.2.1.z .impl_Backend c.2.2.2.1.n c.2.2.2.1.f), (.rs c.2.2.2.2.z .impl_Vip c.2.2.2.2.n c.2.2.2.2.f)])]⟩
def Bk_b10_3 {ρ : Type} (fu : Nat) (c : (Sl S_impl_Vip) × Int × Int × (Sl S_impl_Backend) × (Sl S_impl_Vip)) (k : Ex → St RT den → Option ρ) (w : Int) (go : (Int) → Option ρ) : Option ρ := F_impl_ConfigFault_B3 fu c.1 c.2.1 c.2.2.1 c.2.2.2.1 c.2.2.2.2 (fun a0 a1 a2 a3 => k .ret ⟨[.q, .q, (.int .i64 3), .q, .q, .q, .q, .q, .q, .q, .q, .q, .q, .q, .q, .q, .q, .q, .q, .q, .q, .q, .q, .q, .q, .q, .q, .q, .q, .q, .q, .q, .q, .q, .q, .q, .q, .q, .q, .q, .q, .q, .q, .q, .q, .q, .q, .q, .q, .q, .q, .q, .q, .q, .q, .q, .q, .q, .q, .q, .q, .q, .q, .q, .q, .q, .q, .q, .q, .q, .q, .q, .q, .q, .q, .q, .q, .q, .q, .q, .q, .q, .q, .q, .q, .q, .q, .q, .q, .q, .q, .q, .q, .q, .q, .q, .q, .q, .q, .q, .q, .q, .q, .q, .q, .q, .q, .q, .q, .q, .q], [(.box false [(.int .i64 c.2.2.1), (.rs c.2.2.2.1.z .impl_Backend c.2.2.2.1.n c.2.2.2.1.f), (.rs c.2.2.2.2.z .impl_Vip c.2.2.2.2.n c.2.2.2.2.f)]), (.box false [(.int .i64 a0), (.int .i64 a1), (.int .i64 a2), (.rs a3.z .i64 a3.n a3.f)])]⟩) (fun a0 a1 a2 a3 => k .ret ⟨[.q, .q, (.int .i64 1), .q, .q, .q, .q, .q, .q, .q, .q, .q, .q, .q, .q, .q, .q, .q, .q, .q, .q, .q, .q, .q, .q, .q, .q, .q, .q, .q, .q, .q, .q, .q, .q, .q, .q, .q, .q, .q, .q, .q, .q, .q, .q, .q, .q, .q, .q, .q, .q, .q, .q, .q, .q, .q, .q, .q, .q, .q, .q, .q, .q, .q, .q, .q, .q, .q, .q, .q, .q, .q, .q, .q, .q, .q, .q, .q, .q, .q, .q, .q, .q, .q, .q, .q, .q, .q, .q, .q, .q, .q, .q, .q, .q, .q, .q, .q, .q, .q, .q, .q, .q, .q, .q, .q, .q, .q, .q, .q, .q], [(.box false [(.int .i64 c.2.2.1), (.rs c.2.2.2.1.z .impl_Backend c.2.2.2.1.n c.2.2.2.1.f), (.rs c.2.2.2.2.z .impl_Vip c.2.2.2.2.n c.2.2.2.2.f)]), (.box false [(.int .i64 a0), (.int .i64 a1), (.int .i64 a2), (.rs a3.z .i64 a3.n a3.f)])]⟩) (fun a0 a1 a2 a3 => k .ret ⟨[.q, .q, (.int .i64 4), .q, .q, .q, .q, .q, .q, .q, .q, .q, .q, .q, .q, .q, .q, .q, .q, .q, .q, .q, .q, .q, .q, .q, .q, .q, .q, .q, .q, .q, .q, .q, .q, .q, .q, .q, .q, .q, .q, .q, .q, .q, .q, .q, .q, .q, .q, .q, .q, .q, .q, .q, .q, .q, .q, .q, .q, .q, .q, .q, .q, .q, .q, .q, .q, .q, .q, .q, .q, .q, .q, .q, .q, .q, .q, .q, .q, .q, .q, .q, .q, .q, .q, .q, .q, .q, .q, .q, .q, .q, .q, .q, .q, .q, .q, .q, .q, .q, .q, .q, .q, .q, .q, .q, .q, .q, .q, .q, .q], [(.box false [(.int .i64 c.2.2.1), (.rs c.2.2.2.1.z .impl_Backend c.2.2.2.1.n c.2.2.2.1.f), (.rs c.2.2.2.2.z .impl_Vip c.2.2.2.2.n c.2.2.2.2.f)]), (.box false [(.int .i64 a0), (.int .i64 a1), (.int .i64 a2), (.rs a3.z .i64 a3.n a3.f)])]⟩) (k (.exit 3) ⟨[.q, .q, .q, .q, .q, .q, .q, .q, .q, .q, .q, .q, .q, .q, .q, .q, .q, .q, .q, .q, .q, .q, .q, .q, .q, .q, .q, .q, .q, .q, .q, .q, .q, .q, .q, .q, .q, .q, .q, .q, .q, .q, .q, .q, .q, .q, .q, .q, .q, .q, .q, .q, .q, .q, .q, .q, .q, .q, .q, .q, .q, .q, .q, .q, .q, .q, .q, .q, .q, .q, .q, .q, .q, .q, .q, .q, .q, .q, .q, .q, .q, .q, .q, .q, .q, .q, .q, .q, .q, .q, .q, .q, .q, .q, .q, .q, .q, .q, .q, .q, .q, .q, .q, .q, .q, .q, .q, .q, .q, .q, .q], [(.box false [(.int .i64 c.2.2.1), (.rs c.2.2.2.1.z .impl_Backend c.2.2.2.1.n c.2.2.2.1.f), (.rs c.2.2.2.2.z .impl_Vip c.2.2.2.2.n c.2.2.2.2.f)])]⟩) w go
def lp_b10 (fu : Nat) : Lp RT den (Int) := fun b s k => match b with | 1 => handle ps_b10_1 os_b10_1 conv_b10_1 (Bk_b10_1 fu) fu s k | 3 => handle ps_b10_3 os_b10_3 conv_b10_3 (Bk_b10_3 fu) fu s k | 5 => handle ps_b10_5 os_b10_5 conv_b10_5 (Bk_b10_5 fu) fu s k | _ => none
theorem ev_b10 (fu : Nat) (c_0 : S_impl_Config) : evFun E (pc_b10 fu) msk_b10 (lp_b10 fu) out_i64 43 [(.agg [(.int .i64 c_0.Version), (.rs c_0.Backends.z .impl_Backend c_0.Backends.n c_0.Backends.f), (.rs c_0.Vips.z .impl_Vip c_0.Vips.n c_0.Vips.f)])] = F_impl_ConfigFault fu c_0 := by kernel_rfl
noncomputable def body_b10 : Code := Try.f43.body.getD .skip
noncomputable def lc_b10_1 : Code := ((loops 0 body_b10).getD 0 (0, .skip)).2
theorem round_b10_1 (fu : Nat) (it : St RT den → Option (Int)) (k : Ex → St RT den → Option (Int)) c w : evCode E (pc_b10 fu) msk_b10 (lp_b10 fu) 1 lc_b10_1 (back_b10_1 c w) (after (msk_b10 1) (msk_b10 100001) 1 it k) = Bk_b10_1 fu c k w (fun w => it (back_b10_1 c w)) := by kernel_rfl
theorem lpok_b10_1 (fu : Nat) : ∀ s k r, lp_b10 fu 1 s k = some r → ∃ fuel, iter (msk_b10 1) (msk_b10 100001) s.objs.length (evCode E (pc_b10 fu) msk_b10 (lp_b10 fu) 1 lc_b10_1) fuel s k = some r :=
  handle_ok (ps := ps_b10_1) (os := os_b10_1) (conv := conv_b10_1) (B := Bk_b10_1 fu) (fu := fu) back_b10_1 (fun raw => by kernel_rfl) 1 (fun c w => by kernel_rfl) (round_b10_1 fu)
noncomputable def lc_b10_3 : Code := ((loops 0 body_b10).getD 1 (0, .skip)).2
theorem round_b10_3 (fu : Nat) (it : St RT den → Option (Int)) (k : Ex → St RT den → Option (Int)) c w : evCode E (pc_b10 fu) msk_b10 (lp_b10 fu) 3 lc_b10_3 (back_b10_3 c w) (after (msk_b10 3) (msk_b10 100003) 1 it k) = Bk_b10_3 fu c k w (fun w => it (back_b10_3 c w)) := by kernel_rfl
theorem lpok_b10_3 (fu : Nat) : ∀ s k r, lp_b10 fu 3 s k = some r → ∃ fuel, iter (msk_b10 3) (msk_b10 100003) s.objs.length (evCode E (pc_b10 fu) msk_b10 (lp_b10 fu) 3 lc_b10_3) fuel s k = some r :=
  handle_ok (ps := ps_b10_3) (os := os_b10_3) (conv := conv_b10_3) (B := Bk_b10_3 fu) (fu := fu) back_b10_3 (fun raw => by kernel_rfl) 1 (fun c w => by kernel_rfl) (round_b10_3 fu)
noncomputable def lc_b10_5 : Code := ((loops 0 body_b10).getD 2 (0, .skip)).2
theorem round_b10_5 (fu : Nat) (it : St RT den → Option (Int)) (k : Ex → St RT den → Option (Int)) c w : evCode E (pc_b10 fu) msk_b10 (lp_b10 fu) 5 lc_b10_5 (back_b10_5 c w) (after (msk_b10 5) (msk_b10 100005) 2 it k) = Bk_b10_5 fu c k w (fun w => it (back_b10_5 c w)) := by kernel_rfl
theorem lpok_b10_5 (fu : Nat) : ∀ s k r, lp_b10 fu 5 s k = some r → ∃ fuel, iter (msk_b10 5) (msk_b10 100005) s.objs.length (evCode E (pc_b10 fu) msk_b10 (lp_b10 fu) 5 lc_b10_5) fuel s k = some r :=
  handle_ok (ps := ps_b10_5) (os := os_b10_5) (conv := conv_b10_5) (B := Bk_b10_5 fu) (fu := fu) back_b10_5 (fun raw => by kernel_rfl) 2 (fun c w => by kernel_rfl) (round_b10_5 fu)
theorem lpok_b10 (fu : Nat) : LpOk E (pc_b10 fu) msk_b10 (lp_b10 fu) (loops 0 body_b10) := loop_all 3 (by kernel_rfl) fun i hi => match i, hi with
  | 0, _ => by
    have h : (loops 0 body_b10).getD 0 (0, .skip) = (1, lc_b10_1) := by kernel_rfl
    rw [h]; exact lpok_b10_1 fu
  | 1, _ => by
    have h : (loops 0 body_b10).getD 1 (0, .skip) = (3, lc_b10_3) := by kernel_rfl
    rw [h]; exact lpok_b10_3 fu
  | 2, _ => by
    have h : (loops 0 body_b10).getD 2 (0, .skip) = (5, lc_b10_5) := by kernel_rfl
    rw [h]; exact lpok_b10_5 fu
  | i + 3, hi => absurd hi (by omega)
def S_b10 (fu : Nat) (xs : List (D RT den)) : Option (Out RT den) := match xs with | [.agg [.int .i64 a0_1, .rs za0_2 .impl_Backend na0_2 fa0_2, .rs za0_3 .impl_Vip na0_3 fa0_3]] => some ⟨Int, F_impl_ConfigFault fu (⟨a0_1, (⟨za0_2, na0_2, fa0_2⟩ : (Sl S_impl_Backend)), (⟨za0_3, na0_3, fa0_3⟩ : (Sl S_impl_Vip))⟩ : S_impl_Config), enc_i64, fun _ => true⟩ | _ => none
theorem hpc_b10 (fu : Nat) : ∀ f xs o, pcf_b10 fu f xs = some o → ∀ y, o.x = some y → Good E Try.prog f xs (o.g y) := by
  intro f xs o h
  unfold pcf_b10 at h
  split at h
  · exact good_a34 fu xs o h
  · exact good_a37 fu xs o h
  · exact good_a36 fu xs o h
  · exact good_a38 fu xs o h
  · exact good_a39 fu xs o h
  · exact good_b3 fu xs o h
  · exact good_b9 fu xs o h
  · cases h
theorem goodv_b10 (fu : Nat) (c_0 : S_impl_Config) (y : Int) (hy : F_impl_ConfigFault fu c_0 = some y) : Good E Try.prog 43 [(.agg [(.int .i64 c_0.Version), (.rs c_0.Backends.z .impl_Backend c_0.Backends.n c_0.Backends.f), (.rs c_0.Vips.z .impl_Vip c_0.Vips.n c_0.Vips.f)])] (enc_i64 y) :=
  fun_good E_ok (pc_good (pc := pc_b10 fu) (hpc_b10 fu) hpx0) (fn := Try.f43) (c := body_b10) (out := out_i64) (y := y) (by kernel_rfl) (by kernel_rfl) (by kernel_rfl) (lpok_b10 fu) (fun d hd => out_i64_enc d _ hd) ((ev_b10 fu c_0).trans hy)
theorem good_b10 (fu : Nat) : ∀ xs o, S_b10 fu xs = some o → ∀ y, o.x = some y → Good E Try.prog 43 xs (o.g y) := by
  intro xs o h y hy
  unfold S_b10 at h
  split at h
  · rename_i a0_1 za0_2 na0_2 fa0_2 za0_3 na0_3 fa0_3
    cases h
    exact goodv_b10 fu (⟨a0_1, (⟨za0_2, na0_2, fa0_2⟩ : (Sl S_impl_Backend)), (⟨za0_3, na0_3, fa0_3⟩ : (Sl S_impl_Vip))⟩ : S_impl_Config) y hy
  · cases h

/-! impl.needs -/
def F_impl_needs (fu : Nat) (kind_0 : Int) : Option (Bool × Bool × Bool × Bool) :=
  ((F_impl_in fu kind_0 5 8).bind fun y231 => ((F_impl_in fu kind_0 5 6).bind fun y232 => (bif (kind_0 == 1) then (some ((!y232), true, (kind_0 != 4), y231)) else (some ((!y232),
    y231, (kind_0 != 4), y231)))))
def pcf_b11 (fu : Nat) (f : Nat) (xs : List (D RT den)) : Option (Out RT den) := match f with | 69 => S_a34 fu xs | _ => none
def pc_b11 (fu : Nat) : Pc RT den := ⟨pcf_b11 fu, fun _ => false, fun _ => false, pcd0, pcx0⟩
def msk_b11 (b : Nat) : List Nat := []
def lp_b11 (fu : Nat) : Lp RT den (Bool × Bool × Bool × Bool) := fun b s k => none
theorem ev_b11 (fu : Nat) (kind_0 : Int) : evFun E (pc_b11 fu) msk_b11 (lp_b11 fu) out_bo_bo_bo_bo 101 [(.int .i64 kind_0)] = F_impl_needs fu kind_0 := by kernel_rfl
noncomputable def body_b11 : Code := Try.f101.body.getD .skip
theorem lpok_b11 (fu : Nat) : LpOk E (pc_b11 fu) msk_b11 (lp_b11 fu) (loops 0 body_b11) := by
  have h : loops 0 body_b11 = [] := by kernel_rfl
  rw [h]; intro p hp; cases hp
def S_b11 (fu : Nat) (xs : List (D RT den)) : Option (Out RT den) := match xs with | [.int .i64 a0_0] => some ⟨Bool × Bool × Bool × Bool, F_impl_needs fu a0_0, enc_bo_bo_bo_bo, fun _ => true⟩ | _ => none
theorem hpc_b11 (fu : Nat) : ∀ f xs o, pcf_b11 fu f xs = some o → ∀ y, o.x = some y → Good E Try.prog f xs (o.g y) := by
  intro f xs o h
  unfold pcf_b11 at h
  split at h
  · exact good_a34 fu xs o h
  · cases h
theorem goodv_b11 (fu : Nat) (kind_0 : Int) (y : Bool × Bool × Bool × Bool) (hy : F_impl_needs fu kind_0 = some y) : Good E Try.prog 101 [(.int .i64 kind_0)] (enc_bo_bo_bo_bo y) :=
  fun_good E_ok (pc_good (pc := pc_b11 fu) (hpc_b11 fu) hpx0) (fn := Try.f101) (c := body_b11) (out := out_bo_bo_bo_bo) (y := y) (by kernel_rfl) (by kernel_rfl) (by kernel_rfl) (lpok_b11 fu) (fun d hd => out_bo_bo_bo_bo_enc d _ hd) ((ev_b11 fu kind_0).trans hy)
theorem good_b11 (fu : Nat) : ∀ xs o, S_b11 fu xs = some o → ∀ y, o.x = some y → Good E Try.prog 101 xs (o.g y) := by
  intro xs o h y hy
  unfold S_b11 at h
  split at h
  · rename_i a0_0
    cases h
    exact goodv_b11 fu a0_0 y hy
  · cases h

/-! impl.isNumber -/
def F_impl_isNumber (fu : Nat) (x_0 : S_impl_Cmd) : Option (Bool) :=
  (bif (x_0.Kind == 1) then ((F_impl_in fu x_0.Number 0 9).bind fun y233 => (some y233)) else (bif (x_0.Kind == 2) then ((F_impl_in fu x_0.Number 0 9).bind fun y234 => (some y234)) else
    (bif (x_0.Kind == 3) then ((F_impl_in fu x_0.Number 1 3).bind fun y235 => (some y235)) else (bif (x_0.Kind == 9) then ((F_impl_in fu x_0.Number 0 1).bind fun y236 => (some y236)) else
    ((F_impl_isPort fu x_0.Number).bind fun y237 => (some y237))))))
def pcf_b12 (fu : Nat) (f : Nat) (xs : List (D RT den)) : Option (Out RT den) := match f with | 69 => S_a34 fu xs | 86 => S_a38 fu xs | _ => none
def pc_b12 (fu : Nat) : Pc RT den := ⟨pcf_b12 fu, fun _ => false, fun _ => false, pcd0, pcx0⟩
def msk_b12 (b : Nat) : List Nat := []
def lp_b12 (fu : Nat) : Lp RT den (Bool) := fun b s k => none
theorem ev_b12 (fu : Nat) (x_0 : S_impl_Cmd) : evFun E (pc_b12 fu) msk_b12 (lp_b12 fu) out_bo 103 [(.agg [(.int .i64 x_0.Kind), (.int .i64 x_0.Expect), (.int .i64 x_0.Name), (.int .i64 x_0.Addr), (.int .i64 x_0.Number), (.int .i64 x_0.Proto)])] = F_impl_isNumber fu x_0 := by kernel_rfl
noncomputable def body_b12 : Code := Try.f103.body.getD .skip
theorem lpok_b12 (fu : Nat) : LpOk E (pc_b12 fu) msk_b12 (lp_b12 fu) (loops 0 body_b12) := by
  have h : loops 0 body_b12 = [] := by kernel_rfl
  rw [h]; intro p hp; cases hp
def S_b12 (fu : Nat) (xs : List (D RT den)) : Option (Out RT den) := match xs with | [.agg [.int .i64 a0_1, .int .i64 a0_2, .int .i64 a0_3, .int .i64 a0_4, .int .i64 a0_5, .int .i64 a0_6]] => some ⟨Bool, F_impl_isNumber fu (⟨a0_1, a0_2, a0_3, a0_4, a0_5, a0_6⟩ : S_impl_Cmd), enc_bo, fun _ => true⟩ | _ => none
theorem hpc_b12 (fu : Nat) : ∀ f xs o, pcf_b12 fu f xs = some o → ∀ y, o.x = some y → Good E Try.prog f xs (o.g y) := by
  intro f xs o h
  unfold pcf_b12 at h
  split at h
  · exact good_a34 fu xs o h
  · exact good_a38 fu xs o h
  · cases h
theorem goodv_b12 (fu : Nat) (x_0 : S_impl_Cmd) (y : Bool) (hy : F_impl_isNumber fu x_0 = some y) : Good E Try.prog 103 [(.agg [(.int .i64 x_0.Kind), (.int .i64 x_0.Expect), (.int .i64 x_0.Name), (.int .i64 x_0.Addr), (.int .i64 x_0.Number), (.int .i64 x_0.Proto)])] (enc_bo y) :=
  fun_good E_ok (pc_good (pc := pc_b12 fu) (hpc_b12 fu) hpx0) (fn := Try.f103) (c := body_b12) (out := out_bo) (y := y) (by kernel_rfl) (by kernel_rfl) (by kernel_rfl) (lpok_b12 fu) (fun d hd => out_bo_enc d _ hd) ((ev_b12 fu x_0).trans hy)
theorem good_b12 (fu : Nat) : ∀ xs o, S_b12 fu xs = some o → ∀ y, o.x = some y → Good E Try.prog 103 xs (o.g y) := by
  intro xs o h y hy
  unfold S_b12 at h
  split at h
  · rename_i a0_1 a0_2 a0_3 a0_4 a0_5 a0_6
    cases h
    exact goodv_b12 fu (⟨a0_1, a0_2, a0_3, a0_4, a0_5, a0_6⟩ : S_impl_Cmd) y hy
  · cases h
end Go.Proofs.Ytknnfcbagbafaaa.Pc
