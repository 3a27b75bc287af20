/- The functions' evaluated forms, each a proved summary. Conditions: none. -/
import Derived.Test.YtmnbmponjhglcaaPdF2
namespace Go.Proofs.Ytmnbmponjhglcaa.Pd
open Go Go.RowKit Go.Proofs Vm
set_option linter.unusedVariables false
set_option linter.unusedSimpArgs false
set_option maxRecDepth 100000
/-! laws.szInt64S -/
def F_laws_szInt64S (fu : Nat) (a_0 : (Sl Int)) (left_1 : Int) : Option (Int) :=
  (bif (decide ((IntKind.wrap .i64 (left_1 - ((a_0.n : Nat) : Int))) < 0)) then (some (-1)) else (some (IntKind.wrap .i64 (left_1 - ((a_0.n : Nat) : Int)))))
def pc_b10 (fu : Nat) : Pc RT den := ⟨pcf0, fun _ => false, fun _ => false, pcd0, pcx0⟩
def msk_b10 (b : Nat) : List Nat := []
def lp_b10 (fu : Nat) : Lp RT den (Int) := fun b s k => none
theorem ev_b10 (fu : Nat) (a_0 : (Sl Int)) (left_1 : Int) : evFun E (pc_b10 fu) msk_b10 (lp_b10 fu) out_i64 157 [(.rs a_0.z .i64 a_0.n a_0.f), (.int .i64 left_1)] = F_laws_szInt64S fu a_0 left_1 := by kernel_rfl
noncomputable def body_b10 : Code := Try.f157.body.getD .skip
theorem lpok_b10 (fu : Nat) : LpOk E (pc_b10 fu) msk_b10 (lp_b10 fu) (loops 0 body_b10) := by
  have h : loops 0 body_b10 = [] := by kernel_rfl
  rw [h]; intro p hp; cases hp
def S_b10 (fu : Nat) (xs : List (D RT den)) : Option (Out RT den) := match xs with | [.rs za0_0 .i64 na0_0 fa0_0, .int .i64 a1_0] => some ⟨Int, F_laws_szInt64S fu (⟨za0_0, na0_0, fa0_0⟩ : (Sl Int)) a1_0, enc_i64, fun _ => true⟩ | _ => none
theorem goodv_b10 (fu : Nat) (a_0 : (Sl Int)) (left_1 : Int) (y : Int) (hy : F_laws_szInt64S fu a_0 left_1 = some y) : Good E Try.prog 157 [(.rs a_0.z .i64 a_0.n a_0.f), (.int .i64 left_1)] (enc_i64 y) :=
  fun_good E_ok (pc_good (pc := pc_b10 fu) hpc0 hpx0) (fn := Try.f157) (c := body_b10) (out := out_i64) (y := y) (by kernel_rfl) (by kernel_rfl) (by kernel_rfl) (lpok_b10 fu) (fun d hd => out_i64_enc d _ hd) ((ev_b10 fu a_0 left_1).trans hy)
theorem good_b10 (fu : Nat) : ∀ xs o, S_b10 fu xs = some o → ∀ y, o.x = some y → Good E Try.prog 157 xs (o.g y) := by
  intro xs o h y hy
  unfold S_b10 at h
  split at h
  · rename_i za0_0 na0_0 fa0_0 a1_0
    cases h
    exact goodv_b10 fu (⟨za0_0, na0_0, fa0_0⟩ : (Sl Int)) a1_0 y hy
  · cases h

/-! laws.szVip -/
def F_laws_szVip (fu : Nat) (a_0 : S_impl_Vip) (left_1 : Int) : Option (Int) :=
  ((F_laws_szInt64S fu a_0.Names left_1).bind fun y155 => (bif (decide (y155 < 0)) then (some (-1)) else (some y155)))
def pcf_b11 (fu : Nat) (f : Nat) (xs : List (D RT den)) : Option (Out RT den) := match f with | 157 => S_b10 fu xs | _ => none
def pc_b11 (fu : Nat) : Pc RT den := ⟨pcf_b11 fu, fun _ => false, fun _ => false, pcd0, pcx0⟩
def msk_b11 (b : Nat) : List Nat := []
def lp_b11 (fu : Nat) : Lp RT den (Int) := fun b s k => none
theorem ev_b11 (fu : Nat) (a_0 : S_impl_Vip) (left_1 : Int) : evFun E (pc_b11 fu) msk_b11 (lp_b11 fu) out_i64 123 [(.agg [(.int .i64 a_0.Address), (.int .i64 a_0.Port), (.int .i64 a_0.Proto), (.rs a_0.Names.z .i64 a_0.Names.n a_0.Names.f)]), (.int .i64 left_1)] = F_laws_szVip fu a_0 left_1 := by kernel_rfl
noncomputable def body_b11 : Code := Try.f123.body.getD .skip
theorem lpok_b11 (fu : Nat) : LpOk E (pc_b11 fu) msk_b11 (lp_b11 fu) (loops 0 body_b11) := by
  have h : loops 0 body_b11 = [] := by kernel_rfl
  rw [h]; intro p hp; cases hp
def S_b11 (fu : Nat) (xs : List (D RT den)) : Option (Out RT den) := match xs with | [.agg [.int .i64 a0_1, .int .i64 a0_2, .int .i64 a0_3, .rs za0_4 .i64 na0_4 fa0_4], .int .i64 a1_0] => some ⟨Int, F_laws_szVip fu (⟨a0_1, a0_2, a0_3, (⟨za0_4, na0_4, fa0_4⟩ : (Sl Int))⟩ : S_impl_Vip) a1_0, enc_i64, fun _ => true⟩ | _ => none
theorem hpc_b11 (fu : Nat) : ∀ f xs o, pcf_b11 fu f xs = some o → ∀ y, o.x = some y → Good E Try.prog f xs (o.g y) := by
  intro f xs o h
  unfold pcf_b11 at h
  split at h
  · exact good_b10 fu xs o h
  · cases h
theorem goodv_b11 (fu : Nat) (a_0 : S_impl_Vip) (left_1 : Int) (y : Int) (hy : F_laws_szVip fu a_0 left_1 = some y) : Good E Try.prog 123 [(.agg [(.int .i64 a_0.Address), (.int .i64 a_0.Port), (.int .i64 a_0.Proto), (.rs a_0.Names.z .i64 a_0.Names.n a_0.Names.f)]), (.int .i64 left_1)] (enc_i64 y) :=
  fun_good E_ok (pc_good (pc := pc_b11 fu) (hpc_b11 fu) hpx0) (fn := Try.f123) (c := body_b11) (out := out_i64) (y := y) (by kernel_rfl) (by kernel_rfl) (by kernel_rfl) (lpok_b11 fu) (fun d hd => out_i64_enc d _ hd) ((ev_b11 fu a_0 left_1).trans hy)
theorem good_b11 (fu : Nat) : ∀ xs o, S_b11 fu xs = some o → ∀ y, o.x = some y → Good E Try.prog 123 xs (o.g y) := by
  intro xs o h y hy
  unfold S_b11 at h
  split at h
  · rename_i a0_1 a0_2 a0_3 za0_4 na0_4 fa0_4 a1_0
    cases h
    exact goodv_b11 fu (⟨a0_1, a0_2, a0_3, (⟨za0_4, na0_4, fa0_4⟩ : (Sl Int))⟩ : S_impl_Vip) a1_0 y hy
  · cases h

/-! laws.szVipS -/
def F_laws_szVipS_B0 {ρ : Type} (fu : Nat) (a0_0 : (Sl S_impl_Vip)) (k0 : Int → Option ρ) (k1 : Int → Option ρ) (left1_1 : Int) (i5_2 : Int) (go : Int → Int → Option ρ) : Option ρ :=
  (bif (decide (i5_2 < ((a0_0.n : Nat) : Int))) then ((bif (decide (0 ≤ i5_2) && decide ((Int.toNat i5_2) < a0_0.n)) then some () else none : Option Unit).bind fun _ =>
    ((F_laws_szVip fu (a0_0.f (Int.toNat i5_2)) left1_1).bind fun y152 => (bif (decide (y152 < 0)) then (k0 y152) else (go y152 (IntKind.wrap .i64 (i5_2 + 1)))))) else (k1 left1_1))
def F_laws_szVipS (fu : Nat) (a_0 : (Sl S_impl_Vip)) (left_1 : Int) : Option (Int) :=
  (bif (decide ((IntKind.wrap .i64 (left_1 - ((a_0.n : Nat) : Int))) < 0)) then (some (-1)) else (L (fun w0 go0 => F_laws_szVipS_B0 fu a_0 (fun z153 => (some (-1))) (fun z154 =>
    (some z154)) w0.1 w0.2 (fun q0 q1 => go0 (q0, q1))) fu (((IntKind.wrap .i64 (left_1 - ((a_0.n : Nat) : Int))), 0) : Int × Int)))
def pcf_b12 (fu : Nat) (f : Nat) (xs : List (D RT den)) : Option (Out RT den) := match f with | 123 => S_b11 fu xs | _ => none
def pc_b12 (fu : Nat) : Pc RT den := ⟨pcf_b12 fu, fun _ => false, fun _ => false, pcd0, pcx0⟩
def msk_b12 (b : Nat) : List Nat := match b with | 0 => [2, 3, 4, 6, 7, 8, 9, 10, 11, 12, 13, 14, 15, 16, 17, 18, 19, 20, 21, 22, 23, 24, 25, 26] | 100000 => [0, 2, 3, 5, 6, 7, 8, 9, 10, 11, 12, 13, 14, 15, 16, 17, 18, 19, 20, 21, 22, 23, 24, 25, 26] | _ => []
def ps_b12_0 : List (Pat RT) := [.flat (.rs .impl_Vip), .flat (.int .i64), .flat .q, .flat .q, .flat .q, .flat (.int .i64), .flat .q, .flat .q, .flat .q, .flat .q, .flat .q, .flat .q, .flat .q, .flat .q, .flat .q, .flat .q, .flat .q, .flat .q, .flat .q, .flat .q, .flat .q, .flat .q, .flat .q, .flat .q, .flat .q, .flat .q, .flat .q]
def os_b12_0 : List (OP RT) := []
def conv_b12_0 (r : Raw den ps_b12_0 os_b12_0) : ((Sl S_impl_Vip)) × (Int × Int) := (r.1.1, (r.1.2.1, r.1.2.2.2.2.2.1))
def back_b12_0 (c : (Sl S_impl_Vip)) (w : Int × Int) : St RT den := ⟨[(.rs c.z .impl_Vip c.n c.f), (.int .i64 w.1), .q, .q, .q, (.int .i64 w.2), .q, .q, .q, .q, .q, .q, .q, .q, .q, .q, .q, .q, .q, .q, .q, .q, .q, .q, .q, .q, .q], []⟩
def Bk_b12_0 {ρ : Type} (fu : Nat) (c : (Sl S_impl_Vip)) (k : Ex → St RT den → Option ρ) (w : Int × Int) (go : (Int × Int) → Option ρ) : Option ρ := F_laws_szVipS_B0 fu c (fun a0 => k .ret ⟨[.q, (.int .i64 a0), .q, .q, (.int .i64 (-1)), .q, .q, .q, .q, .q, .q, .q, .q, .q, .q, .q, .q, .q, .q, .q, .q, .q, .q, .q, .q, .q, .q], []⟩) (fun a0 => k (.exit 0) ⟨[.q, (.int .i64 a0), .q, .q, .q, .q, .q, .q, .q, .q, .q, .q, .q, .q, .q, .q, .q, .q, .q, .q, .q, .q, .q, .q, .q, .q, .q], []⟩) w.1 w.2 (fun q0 q1 => go (q0, q1))
def lp_b12 (fu : Nat) : Lp RT den (Int) := fun b s k => match b with | 0 => handle ps_b12_0 os_b12_0 conv_b12_0 (Bk_b12_0 fu) fu s k | _ => none
theorem ev_b12 (fu : Nat) (a_0 : (Sl S_impl_Vip)) (left_1 : Int) : evFun E (pc_b12 fu) msk_b12 (lp_b12 fu) out_i64 62 [(.rs a_0.z .impl_Vip a_0.n a_0.f), (.int .i64 left_1)] = F_laws_szVipS fu a_0 left_1 := by kernel_rfl
noncomputable def body_b12 : Code := Try.f62.body.getD .skip
noncomputable def lc_b12_0 : Code := ((loops 0 body_b12).getD 0 (0, .skip)).2
theorem round_b12_0 (fu : Nat) (it : St RT den → Option (Int)) (k : Ex → St RT den → Option (Int)) c w : evCode E (pc_b12 fu) msk_b12 (lp_b12 fu) 0 lc_b12_0 (back_b12_0 c w) (after (msk_b12 0) (msk_b12 100000) 0 it k) = Bk_b12_0 fu c k w (fun w => it (back_b12_0 c w)) := by kernel_rfl
theorem lpok_b12_0 (fu : Nat) : ∀ s k r, lp_b12 fu 0 s k = some r → ∃ fuel, iter (msk_b12 0) (msk_b12 100000) s.objs.length (evCode E (pc_b12 fu) msk_b12 (lp_b12 fu) 0 lc_b12_0) fuel s k = some r :=
  handle_ok (ps := ps_b12_0) (os := os_b12_0) (conv := conv_b12_0) (B := Bk_b12_0 fu) (fu := fu) back_b12_0 (fun raw => by kernel_rfl) 0 (fun c w => by kernel_rfl) (round_b12_0 fu)
theorem lpok_b12 (fu : Nat) : LpOk E (pc_b12 fu) msk_b12 (lp_b12 fu) (loops 0 body_b12) := loop_all 1 (by kernel_rfl) fun i hi => match i, hi with
  | 0, _ => by
    have h : (loops 0 body_b12).getD 0 (0, .skip) = (0, lc_b12_0) := by kernel_rfl
    rw [h]; exact lpok_b12_0 fu
  | i + 1, hi => absurd hi (by omega)
def S_b12 (fu : Nat) (xs : List (D RT den)) : Option (Out RT den) := match xs with | [.rs za0_0 .impl_Vip na0_0 fa0_0, .int .i64 a1_0] => some ⟨Int, F_laws_szVipS fu (⟨za0_0, na0_0, fa0_0⟩ : (Sl S_impl_Vip)) a1_0, enc_i64, fun _ => true⟩ | _ => none
theorem hpc_b12 (fu : Nat) : ∀ f xs o, pcf_b12 fu f xs = some o → ∀ y, o.x = some y → Good E Try.prog f xs (o.g y) := by
  intro f xs o h
  unfold pcf_b12 at h
  split at h
  · exact good_b11 fu xs o h
  · cases h
theorem goodv_b12 (fu : Nat) (a_0 : (Sl S_impl_Vip)) (left_1 : Int) (y : Int) (hy : F_laws_szVipS fu a_0 left_1 = some y) : Good E Try.prog 62 [(.rs a_0.z .impl_Vip a_0.n a_0.f), (.int .i64 left_1)] (enc_i64 y) :=
  fun_good E_ok (pc_good (pc := pc_b12 fu) (hpc_b12 fu) hpx0) (fn := Try.f62) (c := body_b12) (out := out_i64) (y := y) (by kernel_rfl) (by kernel_rfl) (by kernel_rfl) (lpok_b12 fu) (fun d hd => out_i64_enc d _ hd) ((ev_b12 fu a_0 left_1).trans hy)
theorem good_b12 (fu : Nat) : ∀ xs o, S_b12 fu xs = some o → ∀ y, o.x = some y → Good E Try.prog 62 xs (o.g y) := by
  intro xs o h y hy
  unfold S_b12 at h
  split at h
  · rename_i za0_0 na0_0 fa0_0 a1_0
    cases h
    exact goodv_b12 fu (⟨za0_0, na0_0, fa0_0⟩ : (Sl S_impl_Vip)) a1_0 y hy
  · cases h

/-! laws.szConfig -/
def F_laws_szConfig (fu : Nat) (a_0 : S_laws_Config) (left_1 : Int) : Option (Int) :=
  ((F_laws_szBackendS fu a_0.Backends left_1).bind fun y150 => (bif (decide (y150 < 0)) then (some (-1)) else ((F_laws_szVipS fu a_0.Vips y150).bind fun y151 => (bif (decide (y151 < 0)) then
    (some (-1)) else (some y151)))))
def pcf_b13 (fu : Nat) (f : Nat) (xs : List (D RT den)) : Option (Out RT den) := match f with | 61 => S_b9 fu xs | 62 => S_b12 fu xs | _ => none
def pc_b13 (fu : Nat) : Pc RT den := ⟨pcf_b13 fu, fun _ => false, fun _ => false, pcd0, pcx0⟩
def msk_b13 (b : Nat) : List Nat := []
def lp_b13 (fu : Nat) : Lp RT den (Int) := fun b s k => none
theorem ev_b13 (fu : Nat) (a_0 : S_laws_Config) (left_1 : Int) : evFun E (pc_b13 fu) msk_b13 (lp_b13 fu) out_i64 16 [(.agg [(.int .i64 a_0.Version), (.rs a_0.Backends.z .impl_Backend a_0.Backends.n a_0.Backends.f), (.rs a_0.Vips.z .impl_Vip a_0.Vips.n a_0.Vips.f)]), (.int .i64 left_1)] = F_laws_szConfig fu a_0 left_1 := by kernel_rfl
noncomputable def body_b13 : Code := Try.f16.body.getD .skip
theorem lpok_b13 (fu : Nat) : LpOk E (pc_b13 fu) msk_b13 (lp_b13 fu) (loops 0 body_b13) := by
  have h : loops 0 body_b13 = [] := by kernel_rfl
  rw [h]; intro p hp; cases hp
def S_b13 (fu : Nat) (xs : List (D RT den)) : Option (Out RT den) := match xs with | [.agg [.int .i64 a0_1, .rs za0_2 .impl_Backend na0_2 fa0_2, .rs za0_3 .impl_Vip na0_3 fa0_3], .int .i64 a1_0] => some ⟨Int, F_laws_szConfig fu (⟨a0_1, (⟨za0_2, na0_2, fa0_2⟩ : (Sl S_impl_Backend)), (⟨za0_3, na0_3, fa0_3⟩ : (Sl S_impl_Vip))⟩ : S_laws_Config) a1_0, enc_i64, fun _ => true⟩ | _ => none
theorem hpc_b13 (fu : Nat) : ∀ f xs o, pcf_b13 fu f xs = some o → ∀ y, o.x = some y → Good E Try.prog f xs (o.g y) := by
  intro f xs o h
  unfold pcf_b13 at h
  split at h
  · exact good_b9 fu xs o h
  · exact good_b12 fu xs o h
  · cases h
theorem goodv_b13 (fu : Nat) (a_0 : S_laws_Config) (left_1 : Int) (y : Int) (hy : F_laws_szConfig fu a_0 left_1 = some y) : Good E Try.prog 16 [(.agg [(.int .i64 a_0.Version), (.rs a_0.Backends.z .impl_Backend a_0.Backends.n a_0.Backends.f), (.rs a_0.Vips.z .impl_Vip a_0.Vips.n a_0.Vips.f)]), (.int .i64 left_1)] (enc_i64 y) :=
  fun_good E_ok (pc_good (pc := pc_b13 fu) (hpc_b13 fu) hpx0) (fn := Try.f16) (c := body_b13) (out := out_i64) (y := y) (by kernel_rfl) (by kernel_rfl) (by kernel_rfl) (lpok_b13 fu) (fun d hd => out_i64_enc d _ hd) ((ev_b13 fu a_0 left_1).trans hy)
theorem good_b13 (fu : Nat) : ∀ xs o, S_b13 fu xs = some o → ∀ y, o.x = some y → Good E Try.prog 16 xs (o.g y) := by
  intro xs o h y hy
  unfold S_b13 at h
  split at h
  · rename_i a0_1 za0_2 na0_2 fa0_2 za0_3 na0_3 fa0_3 a1_0
    cases h
    exact goodv_b13 fu (⟨a0_1, (⟨za0_2, na0_2, fa0_2⟩ : (Sl S_impl_Backend)), (⟨za0_3, na0_3, fa0_3⟩ : (Sl S_impl_Vip))⟩ : S_laws_Config) a1_0 y hy
  · cases h

/-! laws.eqBackend -/
def F_laws_eqBackend (fu : Nat) (a_0 : S_impl_Backend) (b_1 : S_impl_Backend) : Option (Bool) :=
  (bif (a_0.Name != b_1.Name) then (some false) else (bif (a_0.Address != b_1.Address) then (some false) else (bif (a_0.Weight != b_1.Weight) then (some false) else (bif (a_0.Stage != b_1.Stage) then
    (some false) else (bif (!(a_0.Up == b_1.Up)) then (some false) else (some true))))))
def pc_b14 (fu : Nat) : Pc RT den := ⟨pcf0, fun _ => false, fun _ => false, pcd0, pcx0⟩
def msk_b14 (b : Nat) : List Nat := []
def lp_b14 (fu : Nat) : Lp RT den (Bool) := fun b s k => none
theorem ev_b14 (fu : Nat) (a_0 : S_impl_Backend) (b_1 : S_impl_Backend) : evFun E (pc_b14 fu) msk_b14 (lp_b14 fu) out_bo 138 [(.agg [(.int .i64 a_0.Name), (.int .i64 a_0.Address), (.int .i64 a_0.Weight), (.int .i64 a_0.Stage), (.bool a_0.Up)]), (.agg [(.int .i64 b_1.Name), (.int .i64 b_1.Address), (.int .i64 b_1.Weight), (.int .i64 b_1.Stage), (.bool b_1.Up)])] = F_laws_eqBackend fu a_0 b_1 := by kernel_rfl
noncomputable def body_b14 : Code := Try.f138.body.getD .skip
theorem lpok_b14 (fu : Nat) : LpOk E (pc_b14 fu) msk_b14 (lp_b14 fu) (loops 0 body_b14) := by
  have h : loops 0 body_b14 = [] := by kernel_rfl
  rw [h]; intro p hp; cases hp
def S_b14 (fu : Nat) (xs : List (D RT den)) : Option (Out RT den) := match xs with | [.agg [.int .i64 a0_1, .int .i64 a0_2, .int .i64 a0_3, .int .i64 a0_4, .bool a0_5], .agg [.int .i64 a1_1, .int .i64 a1_2, .int .i64 a1_3, .int .i64 a1_4, .bool a1_5]] => some ⟨Bool, F_laws_eqBackend fu (⟨a0_1, a0_2, a0_3, a0_4, a0_5⟩ : S_impl_Backend) (⟨a1_1, a1_2, a1_3, a1_4, a1_5⟩ : S_impl_Backend), enc_bo, fun _ => true⟩ | _ => none
theorem goodv_b14 (fu : Nat) (a_0 : S_impl_Backend) (b_1 : S_impl_Backend) (y : Bool) (hy : F_laws_eqBackend fu a_0 b_1 = some y) : Good E Try.prog 138 [(.agg [(.int .i64 a_0.Name), (.int .i64 a_0.Address), (.int .i64 a_0.Weight), (.int .i64 a_0.Stage), (.bool a_0.Up)]), (.agg [(.int .i64 b_1.Name), (.int .i64 b_1.Address), (.int .i64 b_1.Weight), (.int .i64 b_1.Stage), (.bool b_1.Up)])] (enc_bo y) :=
  fun_good E_ok (pc_good (pc := pc_b14 fu) hpc0 hpx0) (fn := Try.f138) (c := body_b14) (out := out_bo) (y := y) (by kernel_rfl) (by kernel_rfl) (by kernel_rfl) (lpok_b14 fu) (fun d hd => out_bo_enc d _ hd) ((ev_b14 fu a_0 b_1).trans hy)
theorem good_b14 (fu : Nat) : ∀ xs o, S_b14 fu xs = some o → ∀ y, o.x = some y → Good E Try.prog 138 xs (o.g y) := by
  intro xs o h y hy
  unfold S_b14 at h
  split at h
  · rename_i a0_1 a0_2 a0_3 a0_4 a0_5 a1_1 a1_2 a1_3 a1_4 a1_5
    cases h
    exact goodv_b14 fu (⟨a0_1, a0_2, a0_3, a0_4, a0_5⟩ : S_impl_Backend) (⟨a1_1, a1_2, a1_3, a1_4, a1_5⟩ : S_impl_Backend) y hy
  · cases h

/-! laws.eqBackendS -/
def F_laws_eqBackendS_B0 {ρ : Type} (fu : Nat) (a0_0 : (Sl S_impl_Backend)) (b1_1 : (Sl S_impl_Backend)) (k0 : Option ρ) (k1 : Option ρ) (i5_2 : Int) (go : Int → Option ρ) : Option ρ :=
  (bif (decide (i5_2 < ((a0_0.n : Nat) : Int))) then ((bif (decide (0 ≤ i5_2) && decide ((Int.toNat i5_2) < a0_0.n)) then some () else none : Option Unit).bind fun _ => ((bif (decide (0 ≤ i5_2) &&
    decide ((Int.toNat i5_2) < b1_1.n)) then some () else none : Option Unit).bind fun _ => ((F_laws_eqBackend fu (a0_0.f (Int.toNat i5_2)) (b1_1.f (Int.toNat i5_2))).bind fun y161 =>
    (bif (!y161) then k0 else (go (IntKind.wrap .i64 (i5_2 + 1))))))) else k1)
def F_laws_eqBackendS (fu : Nat) (a_0 : (Sl S_impl_Backend)) (b_1 : (Sl S_impl_Backend)) : Option (Bool) :=
  (bif (((a_0.n : Nat) : Int) != ((b_1.n : Nat) : Int)) then (some false) else (L (fun w0 go0 => F_laws_eqBackendS_B0 fu a_0 b_1 (some false) (some true) w0 go0) fu (0 : Int)))
def pcf_b15 (fu : Nat) (f : Nat) (xs : List (D RT den)) : Option (Out RT den) := match f with | 138 => S_b14 fu xs | _ => none
def pc_b15 (fu : Nat) : Pc RT den := ⟨pcf_b15 fu, fun _ => false, fun _ => false, pcd0, pcx0⟩
def msk_b15 (b : Nat) : List Nat := match b with | 0 => [2, 3, 4, 6, 7, 8, 9, 10, 11, 12, 13, 14, 15, 16, 17, 18, 19, 20, 21, 22, 23, 24, 25, 26] | 100000 => [0, 1, 2, 3, 5, 6, 7, 8, 9, 10, 11, 12, 13, 14, 15, 16, 17, 18, 19, 20, 21, 22, 23, 24, 25, 26] | _ => []
def ps_b15_0 : List (Pat RT) := [.flat (.rs .impl_Backend), .flat (.rs .impl_Backend), .flat .q, .flat .q, .flat .q, .flat (.int .i64), .flat .q, .flat .q, .flat .q, .flat .q, .flat .q, .flat .q, .flat .q, .flat .q, .flat .q, .flat .q, .flat .q, .flat .q, .flat .q, .flat .q, .flat .q, .flat .q, .flat .q, .flat .q, .flat .q, .flat .q, .flat .q]
def os_b15_0 : List (OP RT) := []
def conv_b15_0 (r : Raw den ps_b15_0 os_b15_0) : ((Sl S_impl_Backend) × (Sl S_impl_Backend)) × (Int) := ((r.1.1, r.1.2.1), r.1.2.2.2.2.2.1)
def back_b15_0 (c : (Sl S_impl_Backend) × (Sl S_impl_Backend)) (w : Int) : St RT den := ⟨[(.rs c.1.z .impl_Backend c.1.n c.1.f), (.rs c.2.z .impl_Backend c.2.n c.2.f), .q, .q, .q, (.int .i64 w), .q, .q, .q, .q, .q, .q, .q, .q, .q, .q, .q, .q, .q, .q, .q, .q, .q, .q, .q, .q, .q], []⟩
def Bk_b15_0 {ρ : Type} (fu : Nat) (c : (Sl S_impl_Backend) × (Sl S_impl_Backend)) (k : Ex → St RT den → Option ρ) (w : Int) (go : (Int) → Option ρ) : Option ρ := F_laws_eqBackendS_B0 fu c.1 c.2 (k .ret ⟨[.q, .q, .q, .q, (.bool false), .q, .q, .q, .q, .q, .q, .q, .q, .q, .q, .q, .q, .q, .q, .q, .q, .q, .q, .q, .q, .q, .q], []⟩) (k (.exit 0) ⟨[.q, .q, .q, .q, .q, .q, .q, .q, .q, .q, .q, .q, .q, .q, .q, .q, .q, .q, .q, .q, .q, .q, .q, .q, .q, .q, .q], []⟩) w go
def lp_b15 (fu : Nat) : Lp RT den (Bool) := fun b s k => match b with | 0 => handle ps_b15_0 os_b15_0 conv_b15_0 (Bk_b15_0 fu) fu s k | _ => none
theorem ev_b15 (fu : Nat) (a_0 : (Sl S_impl_Backend)) (b_1 : (Sl S_impl_Backend)) : evFun E (pc_b15 fu) msk_b15 (lp_b15 fu) out_bo 75 [(.rs a_0.z .impl_Backend a_0.n a_0.f), (.rs b_1.z .impl_Backend b_1.n b_1.f)] = F_laws_eqBackendS fu a_0 b_1 := by kernel_rfl
noncomputable def body_b15 : Code := Try.f75.body.getD .skip
noncomputable def lc_b15_0 : Code := ((loops 0 body_b15).getD 0 (0, .skip)).2
theorem round_b15_0 (fu : Nat) (it : St RT den → Option (Bool)) (k : Ex → St RT den → Option (Bool)) c w : evCode E (pc_b15 fu) msk_b15 (lp_b15 fu) 0 lc_b15_0 (back_b15_0 c w) (after (msk_b15 0) (msk_b15 100000) 0 it k) = Bk_b15_0 fu c k w (fun w => it (back_b15_0 c w)) := by kernel_rfl
theorem lpok_b15_0 (fu : Nat) : ∀ s k r, lp_b15 fu 0 s k = some r → ∃ fuel, iter (msk_b15 0) (msk_b15 100000) s.objs.length (evCode E (pc_b15 fu) msk_b15 (lp_b15 fu) 0 lc_b15_0) fuel s k = some r :=
  handle_ok (ps := ps_b15_0) (os := os_b15_0) (conv := conv_b15_0) (B := Bk_b15_0 fu) (fu := fu) back_b15_0 (fun raw => by kernel_rfl) 0 (fun c w => by kernel_rfl) (round_b15_0 fu)
theorem lpok_b15 (fu : Nat) : LpOk E (pc_b15 fu) msk_b15 (lp_b15 fu) (loops 0 body_b15) := loop_all 1 (by kernel_rfl) fun i hi => match i, hi with
  | 0, _ => by
    have h : (loops 0 body_b15).getD 0 (0, .skip) = (0, lc_b15_0) := by kernel_rfl
    rw [h]; exact lpok_b15_0 fu
  | i + 1, hi => absurd hi (by omega)
def S_b15 (fu : Nat) (xs : List (D RT den)) : Option (Out RT den) := match xs with | [.rs za0_0 .impl_Backend na0_0 fa0_0, .rs za1_0 .impl_Backend na1_0 fa1_0] => some ⟨Bool, F_laws_eqBackendS fu (⟨za0_0, na0_0, fa0_0⟩ : (Sl S_impl_Backend)) (⟨za1_0, na1_0, fa1_0⟩ : (Sl S_impl_Backend)), enc_bo, fun _ => true⟩ | _ => none
theorem hpc_b15 (fu : Nat) : ∀ f xs o, pcf_b15 fu f xs = some o → ∀ y, o.x = some y → Good E Try.prog f xs (o.g y) := by
  intro f xs o h
  unfold pcf_b15 at h
  split at h
  · exact good_b14 fu xs o h
  · cases h
theorem goodv_b15 (fu : Nat) (a_0 : (Sl S_impl_Backend)) (b_1 : (Sl S_impl_Backend)) (y : Bool) (hy : F_laws_eqBackendS fu a_0 b_1 = some y) : Good E Try.prog 75 [(.rs a_0.z .impl_Backend a_0.n a_0.f), (.rs b_1.z .impl_Backend b_1.n b_1.f)] (enc_bo y) :=
  fun_good E_ok (pc_good (pc := pc_b15 fu) (hpc_b15 fu) hpx0) (fn := Try.f75) (c := body_b15) (out := out_bo) (y := y) (by kernel_rfl) (by kernel_rfl) (by kernel_rfl) (lpok_b15 fu) (fun d hd => out_bo_enc d _ hd) ((ev_b15 fu a_0 b_1).trans hy)
theorem good_b15 (fu : Nat) : ∀ xs o, S_b15 fu xs = some o → ∀ y, o.x = some y → Good E Try.prog 75 xs (o.g y) := by
  intro xs o h y hy
  unfold S_b15 at h
  split at h
  · rename_i za0_0 na0_0 fa0_0 za1_0 na1_0 fa1_0
    cases h
    exact goodv_b15 fu (⟨za0_0, na0_0, fa0_0⟩ : (Sl S_impl_Backend)) (⟨za1_0, na1_0, fa1_0⟩ : (Sl S_impl_Backend)) y hy
  · cases h

/-! laws.eqInt64S -/
def F_laws_eqInt64S_B0 {ρ : Type} (fu : Nat) (a0_0 : (Sl Int)) (b1_1 : (Sl Int)) (k0 : Option ρ) (k1 : Option ρ) (i5_2 : Int) (go : Int → Option ρ) : Option ρ :=
  (bif (decide (i5_2 < ((a0_0.n : Nat) : Int))) then ((bif (decide (0 ≤ i5_2) && decide ((Int.toNat i5_2) < a0_0.n)) then some () else none : Option Unit).bind fun _ => ((bif (decide (0 ≤ i5_2) &&
    decide ((Int.toNat i5_2) < b1_1.n)) then some () else none : Option Unit).bind fun _ => (bif ((a0_0.f (Int.toNat i5_2)) != (b1_1.f (Int.toNat i5_2))) then k0 else (go (IntKind.wrap .i64 (i5_2 + 1)))))) else
    k1)
def F_laws_eqInt64S (fu : Nat) (a_0 : (Sl Int)) (b_1 : (Sl Int)) : Option (Bool) :=
  (bif (((a_0.n : Nat) : Int) != ((b_1.n : Nat) : Int)) then (some false) else (L (fun w0 go0 => F_laws_eqInt64S_B0 fu a_0 b_1 (some false) (some true) w0 go0) fu (0 : Int)))
def pc_b16 (fu : Nat) : Pc RT den := ⟨pcf0, fun _ => false, fun _ => false, pcd0, pcx0⟩
def msk_b16 (b : Nat) : List Nat := match b with | 0 => [2, 3, 4, 6, 7, 8, 9, 10, 11, 12, 13, 14, 15, 16, 17, 18, 19, 20, 21, 22, 23, 24, 25] | 100000 => [0, 1, 2, 3, 5, 6, 7, 8, 9, 10, 11, 12, 13, 14, 15, 16, 17, 18, 19, 20, 21, 22, 23, 24, 25] | _ => []
def ps_b16_0 : List (Pat RT) := [.flat (.rs .i64), .flat (.rs .i64), .flat .q, .flat .q, .flat .q, .flat (.int .i64), .flat .q, .flat .q, .flat .q, .flat .q, .flat .q, .flat .q, .flat .q, .flat .q, .flat .q, .flat .q, .flat .q, .flat .q, .flat .q, .flat .q, .flat .q, .flat .q, .flat .q, .flat .q, .flat .q, .flat .q]
def os_b16_0 : List (OP RT) := []
def conv_b16_0 (r : Raw den ps_b16_0 os_b16_0) : ((Sl Int) × (Sl Int)) × (Int) := ((r.1.1, r.1.2.1), r.1.2.2.2.2.2.1)
def back_b16_0 (c : (Sl Int) × (Sl Int)) (w : Int) : St RT den := ⟨[(.rs c.1.z .i64 c.1.n c.1.f), (.rs c.2.z .i64 c.2.n c.2.f), .q, .q, .q, (.int .i64 w), .q, .q, .q, .q, .q, .q, .q, .q, .q, .q, .q, .q, .q, .q, .q, .q, .q, .q, .q, .q], []⟩
def Bk_b16_0 {ρ : Type} (fu : Nat) (c : (Sl Int) × (Sl Int)) (k : Ex → St RT den → Option ρ) (w : Int) (go : (Int) → Option ρ) : Option ρ := F_laws_eqInt64S_B0 fu c.1 c.2 (k .ret ⟨[.q, .q, .q, .q, (.bool false), .q, .q, .q, .q, .q, .q, .q, .q, .q, .q, .q, .q, .q, .q, .q, .q, .q, .q, .q, .q, .q], []⟩) (k (.exit 0) ⟨[.q, .q, .q, .q, .q, .q, .q, .q, .q, .q, .q, .q, .q, .q, .q, .q, .q, .q, .q, .q, .q, .q, .q, .q, .q, .q], []⟩) w go
def lp_b16 (fu : Nat) : Lp RT den (Bool) := fun b s k => match b with | 0 => handle ps_b16_0 os_b16_0 conv_b16_0 (Bk_b16_0 fu) fu s k | _ => none
theorem ev_b16 (fu : Nat) (a_0 : (Sl Int)) (b_1 : (Sl Int)) : evFun E (pc_b16 fu) msk_b16 (lp_b16 fu) out_bo 175 [(.rs a_0.z .i64 a_0.n a_0.f), (.rs b_1.z .i64 b_1.n b_1.f)] = F_laws_eqInt64S fu a_0 b_1 := by kernel_rfl
noncomputable def body_b16 : Code := Try.f175.body.getD .skip
noncomputable def lc_b16_0 : Code := ((loops 0 body_b16).getD 0 (0, .skip)).2
theorem round_b16_0 (fu : Nat) (it : St RT den → Option (Bool)) (k : Ex → St RT den → Option (Bool)) c w : evCode E (pc_b16 fu) msk_b16 (lp_b16 fu) 0 lc_b16_0 (back_b16_0 c w) (after (msk_b16 0) (msk_b16 100000) 0 it k) = Bk_b16_0 fu c k w (fun w => it (back_b16_0 c w)) := by kernel_rfl
theorem lpok_b16_0 (fu : Nat) : ∀ s k r, lp_b16 fu 0 s k = some r → ∃ fuel, iter (msk_b16 0) (msk_b16 100000) s.objs.length (evCode E (pc_b16 fu) msk_b16 (lp_b16 fu) 0 lc_b16_0) fuel s k = some r :=
  handle_ok (ps := ps_b16_0) (os := os_b16_0) (conv := conv_b16_0) (B := Bk_b16_0 fu) (fu := fu) back_b16_0 (fun raw => by kernel_rfl) 0 (fun c w => by kernel_rfl) (round_b16_0 fu)
theorem lpok_b16 (fu : Nat) : LpOk E (pc_b16 fu) msk_b16 (lp_b16 fu) (loops 0 body_b16) := loop_all 1 (by kernel_rfl) fun i hi => match i, hi with
  | 0, _ => by
    have h : (loops 0 body_b16).getD 0 (0, .skip) = (0, lc_b16_0) := by kernel_rfl
    rw [h]; exact lpok_b16_0 fu
  | i + 1, hi => absurd hi (by omega)
def S_b16 (fu : Nat) (xs : List (D RT den)) : Option (Out RT den) := match xs with | [.rs za0_0 .i64 na0_0 fa0_0, .rs za1_0 .i64 na1_0 fa1_0] => some ⟨Bool, F_laws_eqInt64S fu (⟨za0_0, na0_0, fa0_0⟩ : (Sl Int)) (⟨za1_0, na1_0, fa1_0⟩ : (Sl Int)), enc_bo, fun _ => true⟩ | _ => none
theorem goodv_b16 (fu : Nat) (a_0 : (Sl Int)) (b_1 : (Sl Int)) (y : Bool) (hy : F_laws_eqInt64S fu a_0 b_1 = some y) : Good E Try.prog 175 [(.rs a_0.z .i64 a_0.n a_0.f), (.rs b_1.z .i64 b_1.n b_1.f)] (enc_bo y) :=
  fun_good E_ok (pc_good (pc := pc_b16 fu) hpc0 hpx0) (fn := Try.f175) (c := body_b16) (out := out_bo) (y := y) (by kernel_rfl) (by kernel_rfl) (by kernel_rfl) (lpok_b16 fu) (fun d hd => out_bo_enc d _ hd) ((ev_b16 fu a_0 b_1).trans hy)
theorem good_b16 (fu : Nat) : ∀ xs o, S_b16 fu xs = some o → ∀ y, o.x = some y → Good E Try.prog 175 xs (o.g y) := by
  intro xs o h y hy
  unfold S_b16 at h
  split at h
  · rename_i za0_0 na0_0 fa0_0 za1_0 na1_0 fa1_0
    cases h
    exact goodv_b16 fu (⟨za0_0, na0_0, fa0_0⟩ : (Sl Int)) (⟨za1_0, na1_0, fa1_0⟩ : (Sl Int)) y hy
  · cases h

/-! laws.eqVip -/
def F_laws_eqVip (fu : Nat) (a_0 : S_impl_Vip) (b_1 : S_impl_Vip) : Option (Bool) :=
  (bif (a_0.Address != b_1.Address) then (some false) else (bif (a_0.Port != b_1.Port) then (some false) else (bif (a_0.Proto != b_1.Proto) then (some false) else ((F_laws_eqInt64S fu a_0.Names b_1.Names).bind fun y163 =>
    (bif (!y163) then (some false) else (some true))))))
def pcf_b17 (fu : Nat) (f : Nat) (xs : List (D RT den)) : Option (Out RT den) := match f with | 175 => S_b16 fu xs | _ => none
def pc_b17 (fu : Nat) : Pc RT den := ⟨pcf_b17 fu, fun _ => false, fun _ => false, pcd0, pcx0⟩
def msk_b17 (b : Nat) : List Nat := []
def lp_b17 (fu : Nat) : Lp RT den (Bool) := fun b s k => none
theorem ev_b17 (fu : Nat) (a_0 : S_impl_Vip) (b_1 : S_impl_Vip) : evFun E (pc_b17 fu) msk_b17 (lp_b17 fu) out_bo 139 [(.agg [(.int .i64 a_0.Address), (.int .i64 a_0.Port), (.int .i64 a_0.Proto), (.rs a_0.Names.z .i64 a_0.Names.n a_0.Names.f)]), (.agg [(.int .i64 b_1.Address), (.int .i64 b_1.Port), (.int .i64 b_1.Proto), (.rs b_1.Names.z .i64 b_1.Names.n b_1.Names.f)])] = F_laws_eqVip fu a_0 b_1 := by kernel_rfl
noncomputable def body_b17 : Code := Try.f139.body.getD .skip
theorem lpok_b17 (fu : Nat) : LpOk E (pc_b17 fu) msk_b17 (lp_b17 fu) (loops 0 body_b17) := by
  have h : loops 0 body_b17 = [] := by kernel_rfl
  rw [h]; intro p hp; cases hp
def S_b17 (fu : Nat) (xs : List (D RT den)) : Option (Out RT den) := match xs with | [.agg [.int .i64 a0_1, .int .i64 a0_2, .int .i64 a0_3, .rs za0_4 .i64 na0_4 fa0_4], .agg [.int .i64 a1_1, .int .i64 a1_2, .int .i64 a1_3, .rs za1_4 .i64 na1_4 fa1_4]] => some ⟨Bool, F_laws_eqVip fu (⟨a0_1, a0_2, a0_3, (⟨za0_4, na0_4, fa0_4⟩ : (Sl Int))⟩ : S_impl_Vip) (⟨a1_1, a1_2, a1_3, (⟨za1_4, na1_4, fa1_4⟩ : (Sl Int))⟩ : S_impl_Vip), enc_bo, fun _ => true⟩ | _ => none
theorem hpc_b17 (fu : Nat) : ∀ f xs o, pcf_b17 fu f xs = some o → ∀ y, o.x = some y → Good E Try.prog f xs (o.g y) := by
  intro f xs o h
  unfold pcf_b17 at h
  split at h
  · exact good_b16 fu xs o h
  · cases h
theorem goodv_b17 (fu : Nat) (a_0 : S_impl_Vip) (b_1 : S_impl_Vip) (y : Bool) (hy : F_laws_eqVip fu a_0 b_1 = some y) : Good E Try.prog 139 [(.agg [(.int .i64 a_0.Address), (.int .i64 a_0.Port), (.int .i64 a_0.Proto), (.rs a_0.Names.z .i64 a_0.Names.n a_0.Names.f)]), (.agg [(.int .i64 b_1.Address), (.int .i64 b_1.Port), (.int .i64 b_1.Proto), (.rs b_1.Names.z .i64 b_1.Names.n b_1.Names.f)])] (enc_bo y) :=
  fun_good E_ok (pc_good (pc := pc_b17 fu) (hpc_b17 fu) hpx0) (fn := Try.f139) (c := body_b17) (out := out_bo) (y := y) (by kernel_rfl) (by kernel_rfl) (by kernel_rfl) (lpok_b17 fu) (fun d hd => out_bo_enc d _ hd) ((ev_b17 fu a_0 b_1).trans hy)
theorem good_b17 (fu : Nat) : ∀ xs o, S_b17 fu xs = some o → ∀ y, o.x = some y → Good E Try.prog 139 xs (o.g y) := by
  intro xs o h y hy
  unfold S_b17 at h
  split at h
  · rename_i a0_1 a0_2 a0_3 za0_4 na0_4 fa0_4 a1_1 a1_2 a1_3 za1_4 na1_4 fa1_4
    cases h
    exact goodv_b17 fu (⟨a0_1, a0_2, a0_3, (⟨za0_4, na0_4, fa0_4⟩ : (Sl Int))⟩ : S_impl_Vip) (⟨a1_1, a1_2, a1_3, (⟨za1_4, na1_4, fa1_4⟩ : (Sl Int))⟩ : S_impl_Vip) y hy
  · cases h

/-! laws.eqVipS -/
def F_laws_eqVipS_B0 {ρ : Type} (fu : Nat) (a0_0 : (Sl S_impl_Vip)) (b1_1 : (Sl S_impl_Vip)) (k0 : Option ρ) (k1 : Option ρ) (i5_2 : Int) (go : Int → Option ρ) : Option ρ :=
  (bif (decide (i5_2 < ((a0_0.n : Nat) : Int))) then ((bif (decide (0 ≤ i5_2) && decide ((Int.toNat i5_2) < a0_0.n)) then some () else none : Option Unit).bind fun _ => ((bif (decide (0 ≤ i5_2) &&
    decide ((Int.toNat i5_2) < b1_1.n)) then some () else none : Option Unit).bind fun _ => ((F_laws_eqVip fu (a0_0.f (Int.toNat i5_2)) (b1_1.f (Int.toNat i5_2))).bind fun y162 =>
    (bif (!y162) then k0 else (go (IntKind.wrap .i64 (i5_2 + 1))))))) else k1)
def F_laws_eqVipS (fu : Nat) (a_0 : (Sl S_impl_Vip)) (b_1 : (Sl S_impl_Vip)) : Option (Bool) :=
  (bif (((a_0.n : Nat) : Int) != ((b_1.n : Nat) : Int)) then (some false) else (L (fun w0 go0 => F_laws_eqVipS_B0 fu a_0 b_1 (some false) (some true) w0 go0) fu (0 : Int)))
def pcf_b18 (fu : Nat) (f : Nat) (xs : List (D RT den)) : Option (Out RT den) := match f with | 139 => S_b17 fu xs | _ => none
def pc_b18 (fu : Nat) : Pc RT den := ⟨pcf_b18 fu, fun _ => false, fun _ => false, pcd0, pcx0⟩
def msk_b18 (b : Nat) : List Nat := match b with | 0 => [2, 3, 4, 6, 7, 8, 9, 10, 11, 12, 13, 14, 15, 16, 17, 18, 19, 20, 21, 22, 23, 24, 25, 26] | 100000 => [0, 1, 2, 3, 5, 6, 7, 8, 9, 10, 11, 12, 13, 14, 15, 16, 17, 18, 19, 20, 21, 22, 23, 24, 25, 26] | _ => []
def ps_b18_0 : List (Pat RT) := [.flat (.rs .impl_Vip), .flat (.rs .impl_Vip), .flat .q, .flat .q, .flat .q, .flat (.int .i64), .flat .q, .flat .q, .flat .q, .flat .q, .flat .q, .flat .q, .flat .q, .flat .q, .flat .q, .flat .q, .flat .q, .flat .q, .flat .q, .flat .q, .flat .q, .flat .q, .flat .q, .flat .q, .flat .q, .flat .q, .flat .q]
def os_b18_0 : List (OP RT) := []
def conv_b18_0 (r : Raw den ps_b18_0 os_b18_0) : ((Sl S_impl_Vip) × (Sl S_impl_Vip)) × (Int) := ((r.1.1, r.1.2.1), r.1.2.2.2.2.2.1)
def back_b18_0 (c : (Sl S_impl_Vip) × (Sl S_impl_Vip)) (w : Int) : St RT den := ⟨[(.rs c.1.z .impl_Vip c.1.n c.1.f), (.rs c.2.z .impl_Vip c.2.n c.2.f), .q, .q, .q, (.int .i64 w), .q, .q, .q, .q, .q, .q, .q, .q, .q, .q, .q, .q, .q, .q, .q, .q, .q, .q, .q, .q, .q], []⟩
def Bk_b18_0 {ρ : Type} (fu : Nat) (c : (Sl S_impl_Vip) × (Sl S_impl_Vip)) (k : Ex → St RT den → Option ρ) (w : Int) (go : (Int) → Option ρ) : Option ρ := F_laws_eqVipS_B0 fu c.1 c.2 (k .ret ⟨[.q, .q, .q, .q, (.bool false), .q, .q, .q, .q, .q, .q, .q, .q, .q, .q, .q, .q, .q, .q, .q, .q, .q, .q, .q, .q, .q, .q], []⟩) (k (.exit 0) ⟨[.q, .q, .q, .q, .q, .q, .q, .q, .q, .q, .q, .q, .q, .q, .q, .q, .q, .q, .q, .q, .q, .q, .q, .q, .q, .q, .q], []⟩) w go
def lp_b18 (fu : Nat) : Lp RT den (Bool) := fun b s k => match b with | 0 => handle ps_b18_0 os_b18_0 conv_b18_0 (Bk_b18_0 fu) fu s k | _ => none
theorem ev_b18 (fu : Nat) (a_0 : (Sl S_impl_Vip)) (b_1 : (Sl S_impl_Vip)) : evFun E (pc_b18 fu) msk_b18 (lp_b18 fu) out_bo 76 [(.rs a_0.z .impl_Vip a_0.n a_0.f), (.rs b_1.z .impl_Vip b_1.n b_1.f)] = F_laws_eqVipS fu a_0 b_1 := by kernel_rfl
noncomputable def body_b18 : Code := Try.f76.body.getD .skip
noncomputable def lc_b18_0 : Code := ((loops 0 body_b18).getD 0 (0, .skip)).2
theorem round_b18_0 (fu : Nat) (it : St RT den → Option (Bool)) (k : Ex → St RT den → Option (Bool)) c w : evCode E (pc_b18 fu) msk_b18 (lp_b18 fu) 0 lc_b18_0 (back_b18_0 c w) (after (msk_b18 0) (msk_b18 100000) 0 it k) = Bk_b18_0 fu c k w (fun w => it (back_b18_0 c w)) := by kernel_rfl
theorem lpok_b18_0 (fu : Nat) : ∀ s k r, lp_b18 fu 0 s k = some r → ∃ fuel, iter (msk_b18 0) (msk_b18 100000) s.objs.length (evCode E (pc_b18 fu) msk_b18 (lp_b18 fu) 0 lc_b18_0) fuel s k = some r :=
  handle_ok (ps := ps_b18_0) (os := os_b18_0) (conv := conv_b18_0) (B := Bk_b18_0 fu) (fu := fu) back_b18_0 (fun raw => by kernel_rfl) 0 (fun c w => by kernel_rfl) (round_b18_0 fu)
theorem lpok_b18 (fu : Nat) : LpOk E (pc_b18 fu) msk_b18 (lp_b18 fu) (loops 0 body_b18) := loop_all 1 (by kernel_rfl) fun i hi => match i, hi with
  | 0, _ => by
    have h : (loops 0 body_b18).getD 0 (0, .skip) = (0, lc_b18_0) := by kernel_rfl
    rw [h]; exact lpok_b18_0 fu
  | i + 1, hi => absurd hi (by omega)
def S_b18 (fu : Nat) (xs : List (D RT den)) : Option (Out RT den) := match xs with | [.rs za0_0 .impl_Vip na0_0 fa0_0, .rs za1_0 .impl_Vip na1_0 fa1_0] => some ⟨Bool, F_laws_eqVipS fu (⟨za0_0, na0_0, fa0_0⟩ : (Sl S_impl_Vip)) (⟨za1_0, na1_0, fa1_0⟩ : (Sl S_impl_Vip)), enc_bo, fun _ => true⟩ | _ => none
theorem hpc_b18 (fu : Nat) : ∀ f xs o, pcf_b18 fu f xs = some o → ∀ y, o.x = some y → Good E Try.prog f xs (o.g y) := by
  intro f xs o h
  unfold pcf_b18 at h
  split at h
  · exact good_b17 fu xs o h
  · cases h
theorem goodv_b18 (fu : Nat) (a_0 : (Sl S_impl_Vip)) (b_1 : (Sl S_impl_Vip)) (y : Bool) (hy : F_laws_eqVipS fu a_0 b_1 = some y) : Good E Try.prog 76 [(.rs a_0.z .impl_Vip a_0.n a_0.f), (.rs b_1.z .impl_Vip b_1.n b_1.f)] (enc_bo y) :=
  fun_good E_ok (pc_good (pc := pc_b18 fu) (hpc_b18 fu) hpx0) (fn := Try.f76) (c := body_b18) (out := out_bo) (y := y) (by kernel_rfl) (by kernel_rfl) (by kernel_rfl) (lpok_b18 fu) (fun d hd => out_bo_enc d _ hd) ((ev_b18 fu a_0 b_1).trans hy)
theorem good_b18 (fu : Nat) : ∀ xs o, S_b18 fu xs = some o → ∀ y, o.x = some y → Good E Try.prog 76 xs (o.g y) := by
  intro xs o h y hy
  unfold S_b18 at h
  split at h
  · rename_i za0_0 na0_0 fa0_0 za1_0 na1_0 fa1_0
    cases h
    exact goodv_b18 fu (⟨za0_0, na0_0, fa0_0⟩ : (Sl S_impl_Vip)) (⟨za1_0, na1_0, fa1_0⟩ : (Sl S_impl_Vip)) y hy
  · cases h

/-! laws.eqConfig -/
def F_laws_eqConfig (fu : Nat) (a_0 : S_impl_Config) (b_1 : S_impl_Config) : Option (Bool) :=
  (bif (a_0.Version != b_1.Version) then (some false) else ((F_laws_eqBackendS fu a_0.Backends b_1.Backends).bind fun y159 => (bif (!y159) then (some false) else ((F_laws_eqVipS fu a_0.Vips b_1.Vips).bind fun y160 =>
    (bif (!y160) then (some false) else (some true))))))
def pcf_b19 (fu : Nat) (f : Nat) (xs : List (D RT den)) : Option (Out RT den) := match f with | 75 => S_b15 fu xs | 76 => S_b18 fu xs | _ => none
def pc_b19 (fu : Nat) : Pc RT den := ⟨pcf_b19 fu, fun _ => false, fun _ => false, pcd0, pcx0⟩
def msk_b19 (b : Nat) : List Nat := []
def lp_b19 (fu : Nat) : Lp RT den (Bool) := fun b s k => none
theorem ev_b19 (fu : Nat) (a_0 : S_impl_Config) (b_1 : S_impl_Config) : evFun E (pc_b19 fu) msk_b19 (lp_b19 fu) out_bo 23 [(.agg [(.int .i64 a_0.Version), (.rs a_0.Backends.z .impl_Backend a_0.Backends.n a_0.Backends.f), (.rs a_0.Vips.z .impl_Vip a_0.Vips.n a_0.Vips.f)]), (.agg [(.int .i64 b_1.Version), (.rs b_1.Backends.z .impl_Backend b_1.Backends.n b_1.Backends.f), (.rs b_1.Vips.z .impl_Vip b_1.Vips.n b_1.Vips.f)])] = F_laws_eqConfig fu a_0 b_1 := by kernel_rfl
noncomputable def body_b19 : Code := Try.f23.body.getD .skip
theorem lpok_b19 (fu : Nat) : LpOk E (pc_b19 fu) msk_b19 (lp_b19 fu) (loops 0 body_b19) := by
  have h : loops 0 body_b19 = [] := by kernel_rfl
  rw [h]; intro p hp; cases hp
def S_b19 (fu : Nat) (xs : List (D RT den)) : Option (Out RT den) := match xs with | [.agg [.int .i64 a0_1, .rs za0_2 .impl_Backend na0_2 fa0_2, .rs za0_3 .impl_Vip na0_3 fa0_3], .agg [.int .i64 a1_1, .rs za1_2 .impl_Backend na1_2 fa1_2, .rs za1_3 .impl_Vip na1_3 fa1_3]] => some ⟨Bool, F_laws_eqConfig fu (⟨a0_1, (⟨za0_2, na0_2, fa0_2⟩ : (Sl S_impl_Backend)), (⟨za0_3, na0_3, fa0_3⟩ : (Sl S_impl_Vip))⟩ : S_impl_Config) (⟨a1_1, (⟨za1_2, na1_2, fa1_2⟩ : (Sl S_impl_Backend)), (⟨za1_3, na1_3, fa1_3⟩ : (Sl S_impl_Vip))⟩ : S_impl_Config), enc_bo, fun _ => true⟩ | _ => none
theorem hpc_b19 (fu : Nat) : ∀ f xs o, pcf_b19 fu f xs = some o → ∀ y, o.x = some y → Good E Try.prog f xs (o.g y) := by
  intro f xs o h
  unfold pcf_b19 at h
  split at h
  · exact good_b15 fu xs o h
  · exact good_b18 fu xs o h
  · cases h
theorem goodv_b19 (fu : Nat) (a_0 : S_impl_Config) (b_1 : S_impl_Config) (y : Bool) (hy : F_laws_eqConfig fu a_0 b_1 = some y) : Good E Try.prog 23 [(.agg [(.int .i64 a_0.Version), (.rs a_0.Backends.z .impl_Backend a_0.Backends.n a_0.Backends.f), (.rs a_0.Vips.z .impl_Vip a_0.Vips.n a_0.Vips.f)]), (.agg [(.int .i64 b_1.Version), (.rs b_1.Backends.z .impl_Backend b_1.Backends.n b_1.Backends.f), (.rs b_1.Vips.z .impl_Vip b_1.Vips.n b_1.Vips.f)])] (enc_bo y) :=
  fun_good E_ok (pc_good (pc := pc_b19 fu) (hpc_b19 fu) hpx0) (fn := Try.f23) (c := body_b19) (out := out_bo) (y := y) (by kernel_rfl) (by kernel_rfl) (by kernel_rfl) (lpok_b19 fu) (fun d hd => out_bo_enc d _ hd) ((ev_b19 fu a_0 b_1).trans hy)
theorem good_b19 (fu : Nat) : ∀ xs o, S_b19 fu xs = some o → ∀ y, o.x = some y → Good E Try.prog 23 xs (o.g y) := by
  intro xs o h y hy
  unfold S_b19 at h
  split at h
  · rename_i a0_1 za0_2 na0_2 fa0_2 za0_3 na0_3 fa0_3 a1_1 za1_2 na1_2 fa1_2 za1_3 na1_3 fa1_3
    cases h
    exact goodv_b19 fu (⟨a0_1, (⟨za0_2, na0_2, fa0_2⟩ : (Sl S_impl_Backend)), (⟨za0_3, na0_3, fa0_3⟩ : (Sl S_impl_Vip))⟩ : S_impl_Config) (⟨a1_1, (⟨za1_2, na1_2, fa1_2⟩ : (Sl S_impl_Backend)), (⟨za1_3, na1_3, fa1_3⟩ : (Sl S_impl_Vip))⟩ : S_impl_Config) y hy
  · cases h

/-! laws.eqCmd -/
def F_laws_eqCmd (fu : Nat) (a_0 : S_impl_Cmd) (b_1 : S_impl_Cmd) : Option (Bool) :=
  (bif (a_0.Kind != b_1.Kind) then (some false) else (bif (a_0.Expect != b_1.Expect) then (some false) else (bif (a_0.Name != b_1.Name) then (some false) else (bif (a_0.Addr != b_1.Addr) then
    (some false) else (bif (a_0.Number != b_1.Number) then (some false) else (bif (a_0.Proto != b_1.Proto) then (some false) else (some true)))))))
def pc_b20 (fu : Nat) : Pc RT den := ⟨pcf0, fun _ => false, fun _ => false, pcd0, pcx0⟩
def msk_b20 (b : Nat) : List Nat := []
def lp_b20 (fu : Nat) : Lp RT den (Bool) := fun b s k => none
theorem ev_b20 (fu : Nat) (a_0 : S_impl_Cmd) (b_1 : S_impl_Cmd) : evFun E (pc_b20 fu) msk_b20 (lp_b20 fu) out_bo 137 [(.agg [(.int .i64 a_0.Kind), (.int .i64 a_0.Expect), (.int .i64 a_0.Name), (.int .i64 a_0.Addr), (.int .i64 a_0.Number), (.int .i64 a_0.Proto)]), (.agg [(.int .i64 b_1.Kind), (.int .i64 b_1.Expect), (.int .i64 b_1.Name), (.int .i64 b_1.Addr), (.int .i64 b_1.Number), (.int .i64 b_1.Proto)])] = F_laws_eqCmd fu a_0 b_1 := by kernel_rfl
noncomputable def body_b20 : Code := Try.f137.body.getD .skip
theorem lpok_b20 (fu : Nat) : LpOk E (pc_b20 fu) msk_b20 (lp_b20 fu) (loops 0 body_b20) := by
  have h : loops 0 body_b20 = [] := by kernel_rfl
  rw [h]; intro p hp; cases hp
def S_b20 (fu : Nat) (xs : List (D RT den)) : Option (Out RT den) := match xs with | [.agg [.int .i64 a0_1, .int .i64 a0_2, .int .i64 a0_3, .int .i64 a0_4, .int .i64 a0_5, .int .i64 a0_6], .agg [.int .i64 a1_1, .int .i64 a1_2, .int .i64 a1_3, .int .i64 a1_4, .int .i64 a1_5, .int .i64 a1_6]] => some ⟨Bool, F_laws_eqCmd fu (⟨a0_1, a0_2, a0_3, a0_4, a0_5, a0_6⟩ : S_impl_Cmd) (⟨a1_1, a1_2, a1_3, a1_4, a1_5, a1_6⟩ : S_impl_Cmd), enc_bo, fun _ => true⟩ | _ => none
theorem goodv_b20 (fu : Nat) (a_0 : S_impl_Cmd) (b_1 : S_impl_Cmd) (y : Bool) (hy : F_laws_eqCmd fu a_0 b_1 = some y) : Good E Try.prog 137 [(.agg [(.int .i64 a_0.Kind), (.int .i64 a_0.Expect), (.int .i64 a_0.Name), (.int .i64 a_0.Addr), (.int .i64 a_0.Number), (.int .i64 a_0.Proto)]), (.agg [(.int .i64 b_1.Kind), (.int .i64 b_1.Expect), (.int .i64 b_1.Name), (.int .i64 b_1.Addr), (.int .i64 b_1.Number), (.int .i64 b_1.Proto)])] (enc_bo y) :=
  fun_good E_ok (pc_good (pc := pc_b20 fu) hpc0 hpx0) (fn := Try.f137) (c := body_b20) (out := out_bo) (y := y) (by kernel_rfl) (by kernel_rfl) (by kernel_rfl) (lpok_b20 fu) (fun d hd => out_bo_enc d _ hd) ((ev_b20 fu a_0 b_1).trans hy)
theorem good_b20 (fu : Nat) : ∀ xs o, S_b20 fu xs = some o → ∀ y, o.x = some y → Good E Try.prog 137 xs (o.g y) := by
  intro xs o h y hy
  unfold S_b20 at h
  split at h
  · rename_i a0_1 a0_2 a0_3 a0_4 a0_5 a0_6 a1_1 a1_2 a1_3 a1_4 a1_5 a1_6
    cases h
    exact goodv_b20 fu (⟨a0_1, a0_2, a0_3, a0_4, a0_5, a0_6⟩ : S_impl_Cmd) (⟨a1_1, a1_2, a1_3, a1_4, a1_5, a1_6⟩ : S_impl_Cmd) y hy
  · cases h

/-! laws.eqCmdS -/
def F_laws_eqCmdS_B0 {ρ : Type} (fu : Nat) (a0_0 : (Sl S_impl_Cmd)) (b1_1 : (Sl S_impl_Cmd)) (k0 : Option ρ) (k1 : Option ρ) (i5_2 : Int) (go : Int → Option ρ) : Option ρ :=
  (bif (decide (i5_2 < ((a0_0.n : Nat) : Int))) then ((bif (decide (0 ≤ i5_2) && decide ((Int.toNat i5_2) < a0_0.n)) then some () else none : Option Unit).bind fun _ => ((bif (decide (0 ≤ i5_2) &&
    decide ((Int.toNat i5_2) < b1_1.n)) then some () else none : Option Unit).bind fun _ => ((F_laws_eqCmd fu (a0_0.f (Int.toNat i5_2)) (b1_1.f (Int.toNat i5_2))).bind fun y164 =>
    (bif (!y164) then k0 else (go (IntKind.wrap .i64 (i5_2 + 1))))))) else k1)
def F_laws_eqCmdS (fu : Nat) (a_0 : (Sl S_impl_Cmd)) (b_1 : (Sl S_impl_Cmd)) : Option (Bool) :=
  (bif (((a_0.n : Nat) : Int) != ((b_1.n : Nat) : Int)) then (some false) else (L (fun w0 go0 => F_laws_eqCmdS_B0 fu a_0 b_1 (some false) (some true) w0 go0) fu (0 : Int)))
def pcf_b21 (fu : Nat) (f : Nat) (xs : List (D RT den)) : Option (Out RT den) := match f with | 137 => S_b20 fu xs | _ => none
def pc_b21 (fu : Nat) : Pc RT den := ⟨pcf_b21 fu, fun _ => false, fun _ => false, pcd0, pcx0⟩
def msk_b21 (b : Nat) : List Nat := match b with | 0 => [2, 3, 4, 6, 7, 8, 9, 10, 11, 12, 13, 14, 15, 16, 17, 18, 19, 20, 21, 22, 23, 24, 25, 26] | 100000 => [0, 1, 2, 3, 5, 6, 7, 8, 9, 10, 11, 12, 13, 14, 15, 16, 17, 18, 19, 20, 21, 22, 23, 24, 25, 26] | _ => []
def ps_b21_0 : List (Pat RT) := [.flat (.rs .impl_Cmd), .flat (.rs .impl_Cmd), .flat .q, .flat .q, .flat .q, .flat (.int .i64), .flat .q, .flat .q, .flat .q, .flat .q, .flat .q, .flat .q, .flat .q, .flat .q, .flat .q, .flat .q, .flat .q, .flat .q, .flat .q, .flat .q, .flat .q, .flat .q, .flat .q, .flat .q, .flat .q, .flat .q, .flat .q]
def os_b21_0 : List (OP RT) := []
def conv_b21_0 (r : Raw den ps_b21_0 os_b21_0) : ((Sl S_impl_Cmd) × (Sl S_impl_Cmd)) × (Int) := ((r.1.1, r.1.2.1), r.1.2.2.2.2.2.1)
def back_b21_0 (c : (Sl S_impl_Cmd) × (Sl S_impl_Cmd)) (w : Int) : St RT den := ⟨[(.rs c.1.z .impl_Cmd c.1.n c.1.f), (.rs c.2.z .impl_Cmd c.2.n c.2.f), .q, .q, .q, (.int .i64 w), .q, .q, .q, .q, .q, .q, .q, .q, .q, .q, .q, .q, .q, .q, .q, .q, .q, .q, .q, .q, .q], []⟩
def Bk_b21_0 {ρ : Type} (fu : Nat) (c : (Sl S_impl_Cmd) × (Sl S_impl_Cmd)) (k : Ex → St RT den → Option ρ) (w : Int) (go : (Int) → Option ρ) : Option ρ := F_laws_eqCmdS_B0 fu c.1 c.2 (k .ret ⟨[.q, .q, .q, .q, (.bool false), .q, .q, .q, .q, .q, .q, .q, .q, .q, .q, .q, .q, .q, .q, .q, .q, .q, .q, .q, .q, .q, .q], []⟩) (k (.exit 0) ⟨[.q, .q, .q, .q, .q, .q, .q, .q, .q, .q, .q, .q, .q, .q, .q, .q, .q, .q, .q, .q, .q, .q, .q, .q, .q, .q, .q], []⟩) w go
def lp_b21 (fu : Nat) : Lp RT den (Bool) := fun b s k => match b with | 0 => handle ps_b21_0 os_b21_0 conv_b21_0 (Bk_b21_0 fu) fu s k | _ => none
theorem ev_b21 (fu : Nat) (a_0 : (Sl S_impl_Cmd)) (b_1 : (Sl S_impl_Cmd)) : evFun E (pc_b21 fu) msk_b21 (lp_b21 fu) out_bo 74 [(.rs a_0.z .impl_Cmd a_0.n a_0.f), (.rs b_1.z .impl_Cmd b_1.n b_1.f)] = F_laws_eqCmdS fu a_0 b_1 := by kernel_rfl
noncomputable def body_b21 : Code := Try.f74.body.getD .skip
noncomputable def lc_b21_0 : Code := ((loops 0 body_b21).getD 0 (0, .skip)).2
theorem round_b21_0 (fu : Nat) (it : St RT den → Option (Bool)) (k : Ex → St RT den → Option (Bool)) c w : evCode E (pc_b21 fu) msk_b21 (lp_b21 fu) 0 lc_b21_0 (back_b21_0 c w) (after (msk_b21 0) (msk_b21 100000) 0 it k) = Bk_b21_0 fu c k w (fun w => it (back_b21_0 c w)) := by kernel_rfl
theorem lpok_b21_0 (fu : Nat) : ∀ s k r, lp_b21 fu 0 s k = some r → ∃ fuel, iter (msk_b21 0) (msk_b21 100000) s.objs.length (evCode E (pc_b21 fu) msk_b21 (lp_b21 fu) 0 lc_b21_0) fuel s k = some r :=
  handle_ok (ps := ps_b21_0) (os := os_b21_0) (conv := conv_b21_0) (B := Bk_b21_0 fu) (fu := fu) back_b21_0 (fun raw => by kernel_rfl) 0 (fun c w => by kernel_rfl) (round_b21_0 fu)
theorem lpok_b21 (fu : Nat) : LpOk E (pc_b21 fu) msk_b21 (lp_b21 fu) (loops 0 body_b21) := loop_all 1 (by kernel_rfl) fun i hi => match i, hi with
  | 0, _ => by
    have h : (loops 0 body_b21).getD 0 (0, .skip) = (0, lc_b21_0) := by kernel_rfl
    rw [h]; exact lpok_b21_0 fu
  | i + 1, hi => absurd hi (by omega)
def S_b21 (fu : Nat) (xs : List (D RT den)) : Option (Out RT den) := match xs with | [.rs za0_0 .impl_Cmd na0_0 fa0_0, .rs za1_0 .impl_Cmd na1_0 fa1_0] => some ⟨Bool, F_laws_eqCmdS fu (⟨za0_0, na0_0, fa0_0⟩ : (Sl S_impl_Cmd)) (⟨za1_0, na1_0, fa1_0⟩ : (Sl S_impl_Cmd)), enc_bo, fun _ => true⟩ | _ => none
theorem hpc_b21 (fu : Nat) : ∀ f xs o, pcf_b21 fu f xs = some o → ∀ y, o.x = some y → Good E Try.prog f xs (o.g y) := by
  intro f xs o h
  unfold pcf_b21 at h
  split at h
  · exact good_b20 fu xs o h
  · cases h
theorem goodv_b21 (fu : Nat) (a_0 : (Sl S_impl_Cmd)) (b_1 : (Sl S_impl_Cmd)) (y : Bool) (hy : F_laws_eqCmdS fu a_0 b_1 = some y) : Good E Try.prog 74 [(.rs a_0.z .impl_Cmd a_0.n a_0.f), (.rs b_1.z .impl_Cmd b_1.n b_1.f)] (enc_bo y) :=
  fun_good E_ok (pc_good (pc := pc_b21 fu) (hpc_b21 fu) hpx0) (fn := Try.f74) (c := body_b21) (out := out_bo) (y := y) (by kernel_rfl) (by kernel_rfl) (by kernel_rfl) (lpok_b21 fu) (fun d hd => out_bo_enc d _ hd) ((ev_b21 fu a_0 b_1).trans hy)
theorem good_b21 (fu : Nat) : ∀ xs o, S_b21 fu xs = some o → ∀ y, o.x = some y → Good E Try.prog 74 xs (o.g y) := by
  intro xs o h y hy
  unfold S_b21 at h
  split at h
  · rename_i za0_0 na0_0 fa0_0 za1_0 na1_0 fa1_0
    cases h
    exact goodv_b21 fu (⟨za0_0, na0_0, fa0_0⟩ : (Sl S_impl_Cmd)) (⟨za1_0, na1_0, fa1_0⟩ : (Sl S_impl_Cmd)) y hy
  · cases h

/-! laws.eqUpdate -/
def F_laws_eqUpdate (fu : Nat) (a_0 : S_impl_Update) (b_1 : S_impl_Update) : Option (Bool) :=
  (bif (a_0.From != b_1.From) then (some false) else (bif (a_0.To != b_1.To) then (some false) else (bif (!(a_0.Full == b_1.Full)) then (some false) else ((F_laws_eqConfig fu a_0.Config b_1.Config).bind fun y157 =>
    (bif (!y157) then (some false) else ((F_laws_eqCmdS fu a_0.Cmds b_1.Cmds).bind fun y158 => (bif (!y158) then (some false) else (some true))))))))
def pcf_b22 (fu : Nat) (f : Nat) (xs : List (D RT den)) : Option (Out RT den) := match f with | 23 => S_b19 fu xs | 74 => S_b21 fu xs | _ => none
def pc_b22 (fu : Nat) : Pc RT den := ⟨pcf_b22 fu, fun _ => false, fun _ => false, pcd0, pcx0⟩
def msk_b22 (b : Nat) : List Nat := []
def lp_b22 (fu : Nat) : Lp RT den (Bool) := fun b s k => none
theorem ev_b22 (fu : Nat) (a_0 : S_impl_Update) (b_1 : S_impl_Update) : evFun E (pc_b22 fu) msk_b22 (lp_b22 fu) out_bo 84 [(.agg [(.int .i64 a_0.From), (.int .i64 a_0.To), (.bool a_0.Full), (.int .i64 a_0.Config.Version), (.rs a_0.Config.Backends.z .impl_Backend a_0.Config.Backends.n a_0.Config.Backends.f), (.rs a_0.Config.Vips.z .impl_Vip a_0.Config.Vips.n a_0.Config.Vips.f), (.rs a_0.Cmds.z .impl_Cmd a_0.Cmds.n a_0.Cmds.f)]), (.agg [(.int .i64 b_1.From), (.int .i64 b_1.To), (.bool b_1.Full), (.int .i64 b_1.Config.Version), (.rs b_1.Config.Backends.z .impl_Backend b_1.Config.Backends.n b_1.Config.Backends.f), (.rs b_1.Config.Vips.z .impl_Vip b_1.Config.Vips.n b_1.Config.Vips.f), (.rs b_1.Cmds.z .impl_Cmd b_1.Cmds.n b_1.Cmds.f)])] = F_laws_eqUpdate fu a_0 b_1 := by kernel_rfl
noncomputable def body_b22 : Code := Try.f84.body.getD .skip
theorem lpok_b22 (fu : Nat) : LpOk E (pc_b22 fu) msk_b22 (lp_b22 fu) (loops 0 body_b22) := by
  have h : loops 0 body_b22 = [] := by kernel_rfl
  rw [h]; intro p hp; cases hp
def S_b22 (fu : Nat) (xs : List (D RT den)) : Option (Out RT den) := match xs with | [.agg [.int .i64 a0_1, .int .i64 a0_2, .bool a0_3, .int .i64 a0_5, .rs za0_6 .impl_Backend na0_6 fa0_6, .rs za0_7 .impl_Vip na0_7 fa0_7, .rs za0_8 .impl_Cmd na0_8 fa0_8], .agg [.int .i64 a1_1, .int .i64 a1_2, .bool a1_3, .int .i64 a1_5, .rs za1_6 .impl_Backend na1_6 fa1_6, .rs za1_7 .impl_Vip na1_7 fa1_7, .rs za1_8 .impl_Cmd na1_8 fa1_8]] => some ⟨Bool, F_laws_eqUpdate fu (⟨a0_1, a0_2, a0_3, (⟨a0_5, (⟨za0_6, na0_6, fa0_6⟩ : (Sl S_impl_Backend)), (⟨za0_7, na0_7, fa0_7⟩ : (Sl S_impl_Vip))⟩ : S_impl_Config), (⟨za0_8, na0_8, fa0_8⟩ : (Sl S_impl_Cmd))⟩ : S_impl_Update) (⟨a1_1, a1_2, a1_3, (⟨a1_5, (⟨za1_6, na1_6, fa1_6⟩ : (Sl S_impl_Backend)), (⟨za1_7, na1_7, fa1_7⟩ : (Sl S_impl_Vip))⟩ : S_impl_Config), (⟨za1_8, na1_8, fa1_8⟩ : (Sl S_impl_Cmd))⟩ : S_impl_Update), enc_bo, fun _ => true⟩ | _ => none
theorem hpc_b22 (fu : Nat) : ∀ f xs o, pcf_b22 fu f xs = some o → ∀ y, o.x = some y → Good E Try.prog f xs (o.g y) := by
  intro f xs o h
  unfold pcf_b22 at h
  split at h
  · exact good_b19 fu xs o h
  · exact good_b21 fu xs o h
  · cases h
theorem goodv_b22 (fu : Nat) (a_0 : S_impl_Update) (b_1 : S_impl_Update) (y : Bool) (hy : F_laws_eqUpdate fu a_0 b_1 = some y) : Good E Try.prog 84 [(.agg [(.int .i64 a_0.From), (.int .i64 a_0.To), (.bool a_0.Full), (.int .i64 a_0.Config.Version), (.rs a_0.Config.Backends.z .impl_Backend a_0.Config.Backends.n a_0.Config.Backends.f), (.rs a_0.Config.Vips.z .impl_Vip a_0.Config.Vips.n a_0.Config.Vips.f), (.rs a_0.Cmds.z .impl_Cmd a_0.Cmds.n a_0.Cmds.f)]), (.agg [(.int .i64 b_1.From), (.int .i64 b_1.To), (.bool b_1.Full), (.int .i64 b_1.Config.Version), (.rs b_1.Config.Backends.z .impl_Backend b_1.Config.Backends.n b_1.Config.Backends.f), (.rs b_1.Config.Vips.z .impl_Vip b_1.Config.Vips.n b_1.Config.Vips.f), (.rs b_1.Cmds.z .impl_Cmd b_1.Cmds.n b_1.Cmds.f)])] (enc_bo y) :=
  fun_good E_ok (pc_good (pc := pc_b22 fu) (hpc_b22 fu) hpx0) (fn := Try.f84) (c := body_b22) (out := out_bo) (y := y) (by kernel_rfl) (by kernel_rfl) (by kernel_rfl) (lpok_b22 fu) (fun d hd => out_bo_enc d _ hd) ((ev_b22 fu a_0 b_1).trans hy)
theorem good_b22 (fu : Nat) : ∀ xs o, S_b22 fu xs = some o → ∀ y, o.x = some y → Good E Try.prog 84 xs (o.g y) := by
  intro xs o h y hy
  unfold S_b22 at h
  split at h
  · rename_i a0_1 a0_2 a0_3 a0_5 za0_6 na0_6 fa0_6 za0_7 na0_7 fa0_7 za0_8 na0_8 fa0_8 a1_1 a1_2 a1_3 a1_5 za1_6 na1_6 fa1_6 za1_7 na1_7 fa1_7 za1_8 na1_8 fa1_8
    cases h
    exact goodv_b22 fu (⟨a0_1, a0_2, a0_3, (⟨a0_5, (⟨za0_6, na0_6, fa0_6⟩ : (Sl S_impl_Backend)), (⟨za0_7, na0_7, fa0_7⟩ : (Sl S_impl_Vip))⟩ : S_impl_Config), (⟨za0_8, na0_8, fa0_8⟩ : (Sl S_impl_Cmd))⟩ : S_impl_Update) (⟨a1_1, a1_2, a1_3, (⟨a1_5, (⟨za1_6, na1_6, fa1_6⟩ : (Sl S_impl_Backend)), (⟨za1_7, na1_7, fa1_7⟩ : (Sl S_impl_Vip))⟩ : S_impl_Config), (⟨za1_8, na1_8, fa1_8⟩ : (Sl S_impl_Cmd))⟩ : S_impl_Update) y hy
  · cases h

/-! laws.eqUpdateResult -/
def F_laws_eqUpdateResult (fu : Nat) (a_0 : S_impl_UpdateResult) (b_1 : S_impl_UpdateResult) : Option (Bool) :=
  (bif (a_0.Code != b_1.Code) then (some false) else ((F_laws_eqUpdate fu a_0.Update b_1.Update).bind fun y156 => (bif (!y156) then (some false) else (some true))))
def pcf_b23 (fu : Nat) (f : Nat) (xs : List (D RT den)) : Option (Out RT den) := match f with | 84 => S_b22 fu xs | _ => none
def pc_b23 (fu : Nat) : Pc RT den := ⟨pcf_b23 fu, fun _ => false, fun _ => false, pcd0, pcx0⟩
def msk_b23 (b : Nat) : List Nat := []
def lp_b23 (fu : Nat) : Lp RT den (Bool) := fun b s k => none
theorem ev_b23 (fu : Nat) (a_0 : S_impl_UpdateResult) (b_1 : S_impl_UpdateResult) : evFun E (pc_b23 fu) msk_b23 (lp_b23 fu) out_bo 31 [(.agg [(.int .i64 a_0.Code), (.int .i64 a_0.Update.From), (.int .i64 a_0.Update.To), (.bool a_0.Update.Full), (.int .i64 a_0.Update.Config.Version), (.rs a_0.Update.Config.Backends.z .impl_Backend a_0.Update.Config.Backends.n a_0.Update.Config.Backends.f), (.rs a_0.Update.Config.Vips.z .impl_Vip a_0.Update.Config.Vips.n a_0.Update.Config.Vips.f), (.rs a_0.Update.Cmds.z .impl_Cmd a_0.Update.Cmds.n a_0.Update.Cmds.f)]), (.agg [(.int .i64 b_1.Code), (.int .i64 b_1.Update.From), (.int .i64 b_1.Update.To), (.bool b_1.Update.Full), (.int .i64 b_1.Update.Config.Version), (.rs b_1.Update.Config.Backends.z .impl_Backend b_1.Update.Config.Backends.n b_1.Update.Config.Backends.f), (.rs b_1.Update.Config.Vips.z .impl_Vip b_1.Update.Config.Vips.n b_1.Update.Config.Vips.f), (.rs b_1.Update.Cmds.z .impl_Cmd b_1.Update.Cmds.n b_1.Update.Cmds.f)])] = F_laws_eqUpdateResult fu a_0 b_1 := by kernel_rfl
noncomputable def body_b23 : Code := Try.f31.body.getD .skip
theorem lpok_b23 (fu : Nat) : LpOk E (pc_b23 fu) msk_b23 (lp_b23 fu) (loops 0 body_b23) := by
  have h : loops 0 body_b23 = [] := by kernel_rfl
  rw [h]; intro p hp; cases hp
def S_b23 (fu : Nat) (xs : List (D RT den)) : Option (Out RT den) := match xs with | [.agg [.int .i64 a0_1, .int .i64 a0_3, .int .i64 a0_4, .bool a0_5, .int .i64 a0_7, .rs za0_8 .impl_Backend na0_8 fa0_8, .rs za0_9 .impl_Vip na0_9 fa0_9, .rs za0_10 .impl_Cmd na0_10 fa0_10], .agg [.int .i64 a1_1, .int .i64 a1_3, .int .i64 a1_4, .bool a1_5, .int .i64 a1_7, .rs za1_8 .impl_Backend na1_8 fa1_8, .rs za1_9 .impl_Vip na1_9 fa1_9, .rs za1_10 .impl_Cmd na1_10 fa1_10]] => some ⟨Bool, F_laws_eqUpdateResult fu (⟨a0_1, (⟨a0_3, a0_4, a0_5, (⟨a0_7, (⟨za0_8, na0_8, fa0_8⟩ : (Sl S_impl_Backend)), (⟨za0_9, na0_9, fa0_9⟩ : (Sl S_impl_Vip))⟩ : S_impl_Config), (⟨za0_10, na0_10, fa0_10⟩ : (Sl S_impl_Cmd))⟩ : S_impl_Update)⟩ : S_impl_UpdateResult) (⟨a1_1, (⟨a1_3, a1_4, a1_5, (⟨a1_7, (⟨za1_8, na1_8, fa1_8⟩ : (Sl S_impl_Backend)), (⟨za1_9, na1_9, fa1_9⟩ : (Sl S_impl_Vip))⟩ : S_impl_Config), (⟨za1_10, na1_10, fa1_10⟩ : (Sl S_impl_Cmd))⟩ : S_impl_Update)⟩ : S_impl_UpdateResult), enc_bo, fun _ => true⟩ | _ => none
theorem hpc_b23 (fu : Nat) : ∀ f xs o, pcf_b23 fu f xs = some o → ∀ y, o.x = some y → Good E Try.prog f xs (o.g y) := by
  intro f xs o h
  unfold pcf_b23 at h
  split at h
  · exact good_b22 fu xs o h
  · cases h
theorem goodv_b23 (fu : Nat) (a_0 : S_impl_UpdateResult) (b_1 : S_impl_UpdateResult) (y : Bool) (hy : F_laws_eqUpdateResult fu a_0 b_1 = some y) : Good E Try.prog 31 [(.agg [(.int .i64 a_0.Code), (.int .i64 a_0.Update.From), (.int .i64 a_0.Update.To), (.bool a_0.Update.Full), (.int .i64 a_0.Update.Config.Version), (.rs a_0.Update.Config.Backends.z .impl_Backend a_0.Update.Config.Backends.n a_0.Update.Config.Backends.f), (.rs a_0.Update.Config.Vips.z .impl_Vip a_0.Update.Config.Vips.n a_0.Update.Config.Vips.f), (.rs a_0.Update.Cmds.z .impl_Cmd a_0.Update.Cmds.n a_0.Update.Cmds.f)]), (.agg [(.int .i64 b_1.Code), (.int .i64 b_1.Update.From), (.int .i64 b_1.Update.To), (.bool b_1.Update.Full), (.int .i64 b_1.Update.Config.Version), (.rs b_1.Update.Config.Backends.z .impl_Backend b_1.Update.Config.Backends.n b_1.Update.Config.Backends.f), (.rs b_1.Update.Config.Vips.z .impl_Vip b_1.Update.Config.Vips.n b_1.Update.Config.Vips.f), (.rs b_1.Update.Cmds.z .impl_Cmd b_1.Update.Cmds.n b_1.Update.Cmds.f)])] (enc_bo y) :=
  fun_good E_ok (pc_good (pc := pc_b23 fu) (hpc_b23 fu) hpx0) (fn := Try.f31) (c := body_b23) (out := out_bo) (y := y) (by kernel_rfl) (by kernel_rfl) (by kernel_rfl) (lpok_b23 fu) (fun d hd => out_bo_enc d _ hd) ((ev_b23 fu a_0 b_1).trans hy)
theorem good_b23 (fu : Nat) : ∀ xs o, S_b23 fu xs = some o → ∀ y, o.x = some y → Good E Try.prog 31 xs (o.g y) := by
  intro xs o h y hy
  unfold S_b23 at h
  split at h
  · rename_i a0_1 a0_3 a0_4 a0_5 a0_7 za0_8 na0_8 fa0_8 za0_9 na0_9 fa0_9 za0_10 na0_10 fa0_10 a1_1 a1_3 a1_4 a1_5 a1_7 za1_8 na1_8 fa1_8 za1_9 na1_9 fa1_9 za1_10 na1_10 fa1_10
    cases h
    exact goodv_b23 fu (⟨a0_1, (⟨a0_3, a0_4, a0_5, (⟨a0_7, (⟨za0_8, na0_8, fa0_8⟩ : (Sl S_impl_Backend)), (⟨za0_9, na0_9, fa0_9⟩ : (Sl S_impl_Vip))⟩ : S_impl_Config), (⟨za0_10, na0_10, fa0_10⟩ : (Sl S_impl_Cmd))⟩ : S_impl_Update)⟩ : S_impl_UpdateResult) (⟨a1_1, (⟨a1_3, a1_4, a1_5, (⟨a1_7, (⟨za1_8, na1_8, fa1_8⟩ : (Sl S_impl_Backend)), (⟨za1_9, na1_9, fa1_9⟩ : (Sl S_impl_Vip))⟩ : S_impl_Config), (⟨za1_10, na1_10, fa1_10⟩ : (Sl S_impl_Cmd))⟩ : S_impl_Update)⟩ : S_impl_UpdateResult) y hy
  · cases h

/-! laws.heldBackendS -/
def F_laws_heldBackendS_B0 {ρ : Type} (fu : Nat) (a0_0 : (Sl S_impl_Backend)) (k0 : Int → Option ρ) (k1 : Int → Option ρ) (k1_1 : Int) (i5_2 : Int) (go : Int → Int → Option ρ) : Option ρ :=
  (bif (decide (i5_2 < ((a0_0.n : Nat) : Int))) then ((bif (decide (0 ≤ i5_2) && decide ((Int.toNat i5_2) < a0_0.n)) then some () else none : Option Unit).bind fun _ => (bif ((a0_0.f (Int.toNat i5_2)).Name != k1_1) then
    (k0 k1_1) else ((bif (decide (0 ≤ i5_2) && decide ((Int.toNat i5_2) < a0_0.n)) then some () else none : Option Unit).bind fun _ => (bif ((a0_0.f (Int.toNat i5_2)).Address != (IntKind.wrap .i64 (k1_1 + 1))) then
    (k0 (IntKind.wrap .i64 (k1_1 + 1))) else ((bif (decide (0 ≤ i5_2) && decide ((Int.toNat i5_2) < a0_0.n)) then some () else none : Option Unit).bind fun _ => (bif ((a0_0.f (Int.toNat i5_2)).Weight != (IntKind.wrap .i64 ((IntKind.wrap .i64 (k1_1 + 1)) + 1))) then
    (k0 (IntKind.wrap .i64 ((IntKind.wrap .i64 (k1_1 + 1)) + 1))) else ((bif (decide (0 ≤ i5_2) && decide ((Int.toNat i5_2) < a0_0.n)) then some () else none : Option Unit).bind fun _ =>
    (bif ((a0_0.f (Int.toNat i5_2)).Stage != (IntKind.wrap .i64 ((IntKind.wrap .i64 ((IntKind.wrap .i64 (k1_1 + 1)) + 1)) + 1))) then (k0 (IntKind.wrap .i64 ((IntKind.wrap .i64 ((IntKind.wrap .i64 (k1_1 + 1)) + 1)) + 1))) else
    ((bif (decide (0 ≤ i5_2) && decide ((Int.toNat i5_2) < a0_0.n)) then some () else none : Option Unit).bind fun _ => (bif (!((a0_0.f (Int.toNat i5_2)).Up == ((Int.tmod (IntKind.wrap .i64 ((IntKind.wrap .i64 ((IntKind.wrap .i64 ((IntKind.wrap .i64 (k1_1 + 1)) + 1)) + 1)) + 1)) 3) == 0))) then
    (k0 (IntKind.wrap .i64 ((IntKind.wrap .i64 ((IntKind.wrap .i64 ((IntKind.wrap .i64 (k1_1 + 1)) + 1)) + 1)) + 1))) else (go (IntKind.wrap .i64 ((IntKind.wrap .i64 ((IntKind.wrap .i64 ((IntKind.wrap .i64 ((IntKind.wrap .i64 (k1_1 + 1)) + 1)) + 1)) + 1)) + 1)) (IntKind.wrap .i64 (i5_2 + 1))))))))))))) else
    (k1 k1_1))
def F_laws_heldBackendS (fu : Nat) (a_0 : (Sl S_impl_Backend)) (k_1 : Int) : Option (Int) :=
  (L (fun w0 go0 => F_laws_heldBackendS_B0 fu a_0 (fun z170 => (some (-1))) (fun z171 => (some z171)) w0.1 w0.2 (fun q0 q1 => go0 (q0, q1))) fu ((k_1, 0) : Int × Int))
def pc_b24 (fu : Nat) : Pc RT den := ⟨pcf0, fun _ => false, fun _ => false, pcd0, pcx0⟩
def msk_b24 (b : Nat) : List Nat := match b with | 0 => [2, 3, 4, 6, 7, 8, 9, 10, 11, 12, 13, 14, 15, 16, 17, 18, 19, 20, 21, 22, 23, 24, 25, 26, 27, 28, 29, 30, 31, 32, 33, 34, 35, 36, 37, 38, 39, 40, 41, 42, 43, 44, 45, 46, 47, 48, 49, 50, 51, 52, 53, 54, 55, 56, 57, 58, 59] | 100000 => [0, 2, 3, 5, 6, 7, 8, 9, 10, 11, 12, 13, 14, 15, 16, 17, 18, 19, 20, 21, 22, 23, 24, 25, 26, 27, 28, 29, 30, 31, 32, 33, 34, 35, 36, 37, 38, 39, 40, 41, 42, 43, 44, 45, 46, 47, 48, 49, 50, 51, 52, 53, 54, 55, 56, 57, 58, 59] | _ => []
def ps_b24_0 : List (Pat RT) := [.flat (.rs .impl_Backend), .flat (.int .i64), .flat .q, .flat .q, .flat .q, .flat (.int .i64), .flat .q, .flat .q, .flat .q, .flat .q, .flat .q, .flat .q, .flat .q, .flat .q, .flat .q, .flat .q, .flat .q, .flat .q, .flat .q, .flat .q, .flat .q, .flat .q, .flat .q, .flat .q, .flat .q, .flat .q, .flat .q, .flat .q, .flat .q, .flat .q, .flat .q, .flat .q, .flat .q, .flat .q, .flat .q, .flat .q, .flat .q, .flat .q, .flat .q, .flat .q, .flat .q, .flat .q, .flat .q, .flat .q, .flat .q, .flat .q, .flat .q, .flat .q, .flat .q, .flat .q, .flat .q, .flat .q, .flat .q, .flat .q, .flat .q, .flat .q, .flat .q, .flat .q, .flat .q, .flat .q]
def os_b24_0 : List (OP RT) := []
def conv_b24_0 (r : Raw den ps_b24_0 os_b24_0) : ((Sl S_impl_Backend)) × (Int × Int) := (r.1.1, (r.1.2.1, r.1.2.2.2.2.2.1))
def back_b24_0 (c : (Sl S_impl_Backend)) (w : Int × Int) : St RT den := ⟨[(.rs c.z .impl_Backend c.n c.f), (.int .i64 w.1), .q, .q, .q, (.int .i64 w.2), .q, .q, .q, .q, .q, .q, .q, .q, .q, .q, .q, .q, .q, .q, .q, .q, .q, .q, .q, .q, .q, .q, .q, .q, .q, .q, .q, .q, .q, .q, .q, .q, .q, .q, .q, .q, .q, .q, .q, .q, .q, .q, .q, .q, .q, .q, .q, .q, .q, .q, .q, .q, .q, .q], []⟩
def Bk_b24_0 {ρ : Type} (fu : Nat) (c : (Sl S_impl_Backend)) (k : Ex → St RT den → Option ρ) (w : Int × Int) (go : (Int × Int) → Option ρ) : Option ρ := F_laws_heldBackendS_B0 fu c (fun a0 => k .ret ⟨[.q, (.int .i64 a0), .q, .q, (.int .i64 (-1)), .q, .q, .q, .q, .q, .q, .q, .q, .q, .q, .q, .q, .q, .q, .q, .q, .q, .q, .q, .q, .q, .q, .q, .q, .q, .q, .q, .q, .q, .q, .q, .q, .q, .q, .q, .q, .q, .q, .q, .q, .q, .q, .q, .q, .q, .q, .q, .q, .q, .q, .q, .q, .q, .q, .q], []⟩) (fun a0 => k (.exit 0) ⟨[.q, (.int .i64 a0), .q, .q, .q, .q, .q, .q, .q, .q, .q, .q, .q, .q, .q, .q, .q, .q, .q, .q, .q, .q, .q, .q, .q, .q, .q, .q, .q, .q, .q, .q, .q, .q, .q, .q, .q, .q, .q, .q, .q, .q, .q, .q, .q, .q, .q, .q, .q, .q, .q, .q, .q, .q, .q, .q, .q, .q, .q, .q], []⟩) w.1 w.2 (fun q0 q1 => go (q0, q1))
def lp_b24 (fu : Nat) : Lp RT den (Int) := fun b s k => match b with | 0 => handle ps_b24_0 os_b24_0 conv_b24_0 (Bk_b24_0 fu) fu s k | _ => none
theorem ev_b24 (fu : Nat) (a_0 : (Sl S_impl_Backend)) (k_1 : Int) : evFun E (pc_b24 fu) msk_b24 (lp_b24 fu) out_i64 184 [(.rs a_0.z .impl_Backend a_0.n a_0.f), (.int .i64 k_1)] = F_laws_heldBackendS fu a_0 k_1 := by kernel_rfl
noncomputable def body_b24 : Code := Try.f184.body.getD .skip
noncomputable def lc_b24_0 : Code := ((loops 0 body_b24).getD 0 (0, .skip)).2
theorem round_b24_0 (fu : Nat) (it : St RT den → Option (Int)) (k : Ex → St RT den → Option (Int)) c w : evCode E (pc_b24 fu) msk_b24 (lp_b24 fu) 0 lc_b24_0 (back_b24_0 c w) (after (msk_b24 0) (msk_b24 100000) 0 it k) = Bk_b24_0 fu c k w (fun w => it (back_b24_0 c w)) := by kernel_rfl
theorem lpok_b24_0 (fu : Nat) : ∀ s k r, lp_b24 fu 0 s k = some r → ∃ fuel, iter (msk_b24 0) (msk_b24 100000) s.objs.length (evCode E (pc_b24 fu) msk_b24 (lp_b24 fu) 0 lc_b24_0) fuel s k = some r :=
  handle_ok (ps := ps_b24_0) (os := os_b24_0) (conv := conv_b24_0) (B := Bk_b24_0 fu) (fu := fu) back_b24_0 (fun raw => by kernel_rfl) 0 (fun c w => by kernel_rfl) (round_b24_0 fu)
theorem lpok_b24 (fu : Nat) : LpOk E (pc_b24 fu) msk_b24 (lp_b24 fu) (loops 0 body_b24) := loop_all 1 (by kernel_rfl) fun i hi => match i, hi with
  | 0, _ => by
    have h : (loops 0 body_b24).getD 0 (0, .skip) = (0, lc_b24_0) := by kernel_rfl
    rw [h]; exact lpok_b24_0 fu
  | i + 1, hi => absurd hi (by omega)
def S_b24 (fu : Nat) (xs : List (D RT den)) : Option (Out RT den) := match xs with | [.rs za0_0 .impl_Backend na0_0 fa0_0, .int .i64 a1_0] => some ⟨Int, F_laws_heldBackendS fu (⟨za0_0, na0_0, fa0_0⟩ : (Sl S_impl_Backend)) a1_0, enc_i64, fun _ => true⟩ | _ => none
theorem goodv_b24 (fu : Nat) (a_0 : (Sl S_impl_Backend)) (k_1 : Int) (y : Int) (hy : F_laws_heldBackendS fu a_0 k_1 = some y) : Good E Try.prog 184 [(.rs a_0.z .impl_Backend a_0.n a_0.f), (.int .i64 k_1)] (enc_i64 y) :=
  fun_good E_ok (pc_good (pc := pc_b24 fu) hpc0 hpx0) (fn := Try.f184) (c := body_b24) (out := out_i64) (y := y) (by kernel_rfl) (by kernel_rfl) (by kernel_rfl) (lpok_b24 fu) (fun d hd => out_i64_enc d _ hd) ((ev_b24 fu a_0 k_1).trans hy)
theorem good_b24 (fu : Nat) : ∀ xs o, S_b24 fu xs = some o → ∀ y, o.x = some y → Good E Try.prog 184 xs (o.g y) := by
  intro xs o h y hy
  unfold S_b24 at h
  split at h
  · rename_i za0_0 na0_0 fa0_0 a1_0
    cases h
    exact goodv_b24 fu (⟨za0_0, na0_0, fa0_0⟩ : (Sl S_impl_Backend)) a1_0 y hy
  · cases h

/-! laws.heldInt64S -/
def F_laws_heldInt64S_B0 {ρ : Type} (fu : Nat) (a0_0 : (Sl Int)) (k0 : Int → Option ρ) (k1 : Int → Option ρ) (k1_1 : Int) (i5_2 : Int) (go : Int → Int → Option ρ) : Option ρ :=
  (bif (decide (i5_2 < ((a0_0.n : Nat) : Int))) then ((bif (decide (0 ≤ i5_2) && decide ((Int.toNat i5_2) < a0_0.n)) then some () else none : Option Unit).bind fun _ => (bif ((a0_0.f (Int.toNat i5_2)) != k1_1) then
    (k0 k1_1) else (go (IntKind.wrap .i64 (k1_1 + 1)) (IntKind.wrap .i64 (i5_2 + 1))))) else (k1 k1_1))
def F_laws_heldInt64S (fu : Nat) (a_0 : (Sl Int)) (k_1 : Int) : Option (Int) :=
  (L (fun w0 go0 => F_laws_heldInt64S_B0 fu a_0 (fun z175 => (some (-1))) (fun z176 => (some z176)) w0.1 w0.2 (fun q0 q1 => go0 (q0, q1))) fu ((k_1, 0) : Int × Int))
def pc_b25 (fu : Nat) : Pc RT den := ⟨pcf0, fun _ => false, fun _ => false, pcd0, pcx0⟩
def msk_b25 (b : Nat) : List Nat := match b with | 0 => [2, 3, 4, 6, 7, 8, 9, 10, 11, 12, 13, 14, 15, 16, 17, 18, 19, 20] | 100000 => [0, 2, 3, 5, 6, 7, 8, 9, 10, 11, 12, 13, 14, 15, 16, 17, 18, 19, 20] | _ => []
def ps_b25_0 : List (Pat RT) := [.flat (.rs .i64), .flat (.int .i64), .flat .q, .flat .q, .flat .q, .flat (.int .i64), .flat .q, .flat .q, .flat .q, .flat .q, .flat .q, .flat .q, .flat .q, .flat .q, .flat .q, .flat .q, .flat .q, .flat .q, .flat .q, .flat .q, .flat .q]
def os_b25_0 : List (OP RT) := []
def conv_b25_0 (r : Raw den ps_b25_0 os_b25_0) : ((Sl Int)) × (Int × Int) := (r.1.1, (r.1.2.1, r.1.2.2.2.2.2.1))
def back_b25_0 (c : (Sl Int)) (w : Int × Int) : St RT den := ⟨[(.rs c.z .i64 c.n c.f), (.int .i64 w.1), .q, .q, .q, (.int .i64 w.2), .q, .q, .q, .q, .q, .q, .q, .q, .q, .q, .q, .q, .q, .q, .q], []⟩
def Bk_b25_0 {ρ : Type} (fu : Nat) (c : (Sl Int)) (k : Ex → St RT den → Option ρ) (w : Int × Int) (go : (Int × Int) → Option ρ) : Option ρ := F_laws_heldInt64S_B0 fu c (fun a0 => k .ret ⟨[.q, (.int .i64 a0), .q, .q, (.int .i64 (-1)), .q, .q, .q, .q, .q, .q, .q, .q, .q, .q, .q, .q, .q, .q, .q, .q], []⟩) (fun a0 => k (.exit 0) ⟨[.q, (.int .i64 a0), .q, .q, .q, .q, .q, .q, .q, .q, .q, .q, .q, .q, .q, .q, .q, .q, .q, .q, .q], []⟩) w.1 w.2 (fun q0 q1 => go (q0, q1))
def lp_b25 (fu : Nat) : Lp RT den (Int) := fun b s k => match b with | 0 => handle ps_b25_0 os_b25_0 conv_b25_0 (Bk_b25_0 fu) fu s k | _ => none
theorem ev_b25 (fu : Nat) (a_0 : (Sl Int)) (k_1 : Int) : evFun E (pc_b25 fu) msk_b25 (lp_b25 fu) out_i64 200 [(.rs a_0.z .i64 a_0.n a_0.f), (.int .i64 k_1)] = F_laws_heldInt64S fu a_0 k_1 := by kernel_rfl
noncomputable def body_b25 : Code := Try.f200.body.getD .skip
noncomputable def lc_b25_0 : Code := ((loops 0 body_b25).getD 0 (0, .skip)).2
theorem round_b25_0 (fu : Nat) (it : St RT den → Option (Int)) (k : Ex → St RT den → Option (Int)) c w : evCode E (pc_b25 fu) msk_b25 (lp_b25 fu) 0 lc_b25_0 (back_b25_0 c w) (after (msk_b25 0) (msk_b25 100000) 0 it k) = Bk_b25_0 fu c k w (fun w => it (back_b25_0 c w)) := by kernel_rfl
theorem lpok_b25_0 (fu : Nat) : ∀ s k r, lp_b25 fu 0 s k = some r → ∃ fuel, iter (msk_b25 0) (msk_b25 100000) s.objs.length (evCode E (pc_b25 fu) msk_b25 (lp_b25 fu) 0 lc_b25_0) fuel s k = some r :=
  handle_ok (ps := ps_b25_0) (os := os_b25_0) (conv := conv_b25_0) (B := Bk_b25_0 fu) (fu := fu) back_b25_0 (fun raw => by kernel_rfl) 0 (fun c w => by kernel_rfl) (round_b25_0 fu)
theorem lpok_b25 (fu : Nat) : LpOk E (pc_b25 fu) msk_b25 (lp_b25 fu) (loops 0 body_b25) := loop_all 1 (by kernel_rfl) fun i hi => match i, hi with
  | 0, _ => by
    have h : (loops 0 body_b25).getD 0 (0, .skip) = (0, lc_b25_0) := by kernel_rfl
    rw [h]; exact lpok_b25_0 fu
  | i + 1, hi => absurd hi (by omega)
def S_b25 (fu : Nat) (xs : List (D RT den)) : Option (Out RT den) := match xs with | [.rs za0_0 .i64 na0_0 fa0_0, .int .i64 a1_0] => some ⟨Int, F_laws_heldInt64S fu (⟨za0_0, na0_0, fa0_0⟩ : (Sl Int)) a1_0, enc_i64, fun _ => true⟩ | _ => none
theorem goodv_b25 (fu : Nat) (a_0 : (Sl Int)) (k_1 : Int) (y : Int) (hy : F_laws_heldInt64S fu a_0 k_1 = some y) : Good E Try.prog 200 [(.rs a_0.z .i64 a_0.n a_0.f), (.int .i64 k_1)] (enc_i64 y) :=
  fun_good E_ok (pc_good (pc := pc_b25 fu) hpc0 hpx0) (fn := Try.f200) (c := body_b25) (out := out_i64) (y := y) (by kernel_rfl) (by kernel_rfl) (by kernel_rfl) (lpok_b25 fu) (fun d hd => out_i64_enc d _ hd) ((ev_b25 fu a_0 k_1).trans hy)
theorem good_b25 (fu : Nat) : ∀ xs o, S_b25 fu xs = some o → ∀ y, o.x = some y → Good E Try.prog 200 xs (o.g y) := by
  intro xs o h y hy
  unfold S_b25 at h
  split at h
  · rename_i za0_0 na0_0 fa0_0 a1_0
    cases h
    exact goodv_b25 fu (⟨za0_0, na0_0, fa0_0⟩ : (Sl Int)) a1_0 y hy
  · cases h

/-! laws.heldVipS -/
def F_laws_heldVipS_B0 {ρ : Type} (fu : Nat) (a0_0 : (Sl S_impl_Vip)) (k0 : Int → Option ρ) (k1 : Int → Option ρ) (k1_1 : Int) (i5_2 : Int) (go : Int → Int → Option ρ) : Option ρ :=
  (bif (decide (i5_2 < ((a0_0.n : Nat) : Int))) then ((bif (decide (0 ≤ i5_2) && decide ((Int.toNat i5_2) < a0_0.n)) then some () else none : Option Unit).bind fun _ => (bif ((a0_0.f (Int.toNat i5_2)).Address != k1_1) then
    (k0 k1_1) else ((bif (decide (0 ≤ i5_2) && decide ((Int.toNat i5_2) < a0_0.n)) then some () else none : Option Unit).bind fun _ => (bif ((a0_0.f (Int.toNat i5_2)).Port != (IntKind.wrap .i64 (k1_1 + 1))) then
    (k0 (IntKind.wrap .i64 (k1_1 + 1))) else ((bif (decide (0 ≤ i5_2) && decide ((Int.toNat i5_2) < a0_0.n)) then some () else none : Option Unit).bind fun _ => (bif ((a0_0.f (Int.toNat i5_2)).Proto != (IntKind.wrap .i64 ((IntKind.wrap .i64 (k1_1 + 1)) + 1))) then
    (k0 (IntKind.wrap .i64 ((IntKind.wrap .i64 (k1_1 + 1)) + 1))) else ((bif (decide (0 ≤ i5_2) && decide ((Int.toNat i5_2) < a0_0.n)) then some () else none : Option Unit).bind fun _ =>
    ((F_laws_heldInt64S fu (a0_0.f (Int.toNat i5_2)).Names (IntKind.wrap .i64 ((IntKind.wrap .i64 ((IntKind.wrap .i64 (k1_1 + 1)) + 1)) + 1))).bind fun y172 => (bif (decide (y172 < 0)) then
    (k0 y172) else (go y172 (IntKind.wrap .i64 (i5_2 + 1)))))))))))) else (k1 k1_1))
def F_laws_heldVipS (fu : Nat) (a_0 : (Sl S_impl_Vip)) (k_1 : Int) : Option (Int) :=
  (L (fun w0 go0 => F_laws_heldVipS_B0 fu a_0 (fun z173 => (some (-1))) (fun z174 => (some z174)) w0.1 w0.2 (fun q0 q1 => go0 (q0, q1))) fu ((k_1, 0) : Int × Int))
def pcf_b26 (fu : Nat) (f : Nat) (xs : List (D RT den)) : Option (Out RT den) := match f with | 200 => S_b25 fu xs | _ => none
def pc_b26 (fu : Nat) : Pc RT den := ⟨pcf_b26 fu, fun _ => false, fun _ => false, pcd0, pcx0⟩
def msk_b26 (b : Nat) : List Nat := match b with | 0 => [2, 3, 4, 6, 7, 8, 9, 10, 11, 12, 13, 14, 15, 16, 17, 18, 19, 20, 21, 22, 23, 24, 25, 26, 27, 28, 29, 30, 31, 32, 33, 34, 35, 36, 37, 38, 39, 40, 41, 42, 43, 44, 45, 46, 47, 48] | 100000 => [0, 2, 3, 5, 6, 7, 8, 9, 10, 11, 12, 13, 14, 15, 16, 17, 18, 19, 20, 21, 22, 23, 24, 25, 26, 27, 28, 29, 30, 31, 32, 33, 34, 35, 36, 37, 38, 39, 40, 41, 42, 43, 44, 45, 46, 47, 48] | _ => []
def ps_b26_0 : List (Pat RT) := [.flat (.rs .impl_Vip), .flat (.int .i64), .flat .q, .flat .q, .flat .q, .flat (.int .i64), .flat .q, .flat .q, .flat .q, .flat .q, .flat .q, .flat .q, .flat .q, .flat .q, .flat .q, .flat .q, .flat .q, .flat .q, .flat .q, .flat .q, .flat .q, .flat .q, .flat .q, .flat .q, .flat .q, .flat .q, .flat .q, .flat .q, .flat .q, .flat .q, .flat .q, .flat .q, .flat .q, .flat .q, .flat .q, .flat .q, .flat .q, .flat .q, .flat .q, .flat .q, .flat .q, .flat .q, .flat .q, .flat .q, .flat .q, .flat .q, .flat .q, .flat .q, .flat .q]
def os_b26_0 : List (OP RT) := []
def conv_b26_0 (r : Raw den ps_b26_0 os_b26_0) : ((Sl S_impl_Vip)) × (Int × Int) := (r.1.1, (r.1.2.1, r.1.2.2.2.2.2.1))
def back_b26_0 (c : (Sl S_impl_Vip)) (w : Int × Int) : St RT den := ⟨[(.rs c.z .impl_Vip c.n c.f), (.int .i64 w.1), .q, .q, .q, (.int .i64 w.2), .q, .q, .q, .q, .q, .q, .q, .q, .q, .q, .q, .q, .q, .q, .q, .q, .q, .q, .q, .q, .q, .q, .q, .q, .q, .q, .q, .q, .q, .q, .q, .q, .q, .q, .q, .q, .q, .q, .q, .q, .q, .q, .q], []⟩
def Bk_b26_0 {ρ : Type} (fu : Nat) (c : (Sl S_impl_Vip)) (k : Ex → St RT den → Option ρ) (w : Int × Int) (go : (Int × Int) → Option ρ) : Option ρ := F_laws_heldVipS_B0 fu c (fun a0 => k .ret ⟨[.q, (.int .i64 a0), .q, .q, (.int .i64 (-1)), .q, .q, .q, .q, .q, .q, .q, .q, .q, .q, .q, .q, .q, .q, .q, .q, .q, .q, .q, .q, .q, .q, .q, .q, .q, .q, .q, .q, .q, .q, .q, .q, .q, .q, .q, .q, .q, .q, .q, .q, .q, .q, .q, .q], []⟩) (fun a0 => k (.exit 0) ⟨[.q, (.int .i64 a0), .q, .q, .q, .q, .q, .q, .q, .q, .q, .q, .q, .q, .q, .q, .q, .q, .q, .q, .q, .q, .q, .q, .q, .q, .q, .q, .q, .q, .q, .q, .q, .q, .q, .q, .q, .q, .q, .q, .q, .q, .q, .q, .q, .q, .q, .q, .q], []⟩) w.1 w.2 (fun q0 q1 => go (q0, q1))
def lp_b26 (fu : Nat) : Lp RT den (Int) := fun b s k => match b with | 0 => handle ps_b26_0 os_b26_0 conv_b26_0 (Bk_b26_0 fu) fu s k | _ => none
theorem ev_b26 (fu : Nat) (a_0 : (Sl S_impl_Vip)) (k_1 : Int) : evFun E (pc_b26 fu) msk_b26 (lp_b26 fu) out_i64 185 [(.rs a_0.z .impl_Vip a_0.n a_0.f), (.int .i64 k_1)] = F_laws_heldVipS fu a_0 k_1 := by kernel_rfl
noncomputable def body_b26 : Code := Try.f185.body.getD .skip
noncomputable def lc_b26_0 : Code := ((loops 0 body_b26).getD 0 (0, .skip)).2
theorem round_b26_0 (fu : Nat) (it : St RT den → Option (Int)) (k : Ex → St RT den → Option (Int)) c w : evCode E (pc_b26 fu) msk_b26 (lp_b26 fu) 0 lc_b26_0 (back_b26_0 c w) (after (msk_b26 0) (msk_b26 100000) 0 it k) = Bk_b26_0 fu c k w (fun w => it (back_b26_0 c w)) := by kernel_rfl
theorem lpok_b26_0 (fu : Nat) : ∀ s k r, lp_b26 fu 0 s k = some r → ∃ fuel, iter (msk_b26 0) (msk_b26 100000) s.objs.length (evCode E (pc_b26 fu) msk_b26 (lp_b26 fu) 0 lc_b26_0) fuel s k = some r :=
  handle_ok (ps := ps_b26_0) (os := os_b26_0) (conv := conv_b26_0) (B := Bk_b26_0 fu) (fu := fu) back_b26_0 (fun raw => by kernel_rfl) 0 (fun c w => by kernel_rfl) (round_b26_0 fu)
theorem lpok_b26 (fu : Nat) : LpOk E (pc_b26 fu) msk_b26 (lp_b26 fu) (loops 0 body_b26) := loop_all 1 (by kernel_rfl) fun i hi => match i, hi with
  | 0, _ => by
    have h : (loops 0 body_b26).getD 0 (0, .skip) = (0, lc_b26_0) := by kernel_rfl
    rw [h]; exact lpok_b26_0 fu
  | i + 1, hi => absurd hi (by omega)
def S_b26 (fu : Nat) (xs : List (D RT den)) : Option (Out RT den) := match xs with | [.rs za0_0 .impl_Vip na0_0 fa0_0, .int .i64 a1_0] => some ⟨Int, F_laws_heldVipS fu (⟨za0_0, na0_0, fa0_0⟩ : (Sl S_impl_Vip)) a1_0, enc_i64, fun _ => true⟩ | _ => none
theorem hpc_b26 (fu : Nat) : ∀ f xs o, pcf_b26 fu f xs = some o → ∀ y, o.x = some y → Good E Try.prog f xs (o.g y) := by
  intro f xs o h
  unfold pcf_b26 at h
  split at h
  · exact good_b25 fu xs o h
  · cases h
theorem goodv_b26 (fu : Nat) (a_0 : (Sl S_impl_Vip)) (k_1 : Int) (y : Int) (hy : F_laws_heldVipS fu a_0 k_1 = some y) : Good E Try.prog 185 [(.rs a_0.z .impl_Vip a_0.n a_0.f), (.int .i64 k_1)] (enc_i64 y) :=
  fun_good E_ok (pc_good (pc := pc_b26 fu) (hpc_b26 fu) hpx0) (fn := Try.f185) (c := body_b26) (out := out_i64) (y := y) (by kernel_rfl) (by kernel_rfl) (by kernel_rfl) (lpok_b26 fu) (fun d hd => out_i64_enc d _ hd) ((ev_b26 fu a_0 k_1).trans hy)
theorem good_b26 (fu : Nat) : ∀ xs o, S_b26 fu xs = some o → ∀ y, o.x = some y → Good E Try.prog 185 xs (o.g y) := by
  intro xs o h y hy
  unfold S_b26 at h
  split at h
  · rename_i za0_0 na0_0 fa0_0 a1_0
    cases h
    exact goodv_b26 fu (⟨za0_0, na0_0, fa0_0⟩ : (Sl S_impl_Vip)) a1_0 y hy
  · cases h

/-! laws.heldConfig -/
def F_laws_heldConfig (fu : Nat) (a_0 : S_impl_Config) (k_1 : Int) : Option (Int) :=
  ((F_laws_heldBackendS fu a_0.Backends k_1).bind fun y168 => (bif (decide (y168 < 0)) then (some (-1)) else ((F_laws_heldVipS fu a_0.Vips y168).bind fun y169 => (bif (decide (y169 < 0)) then
    (some (-1)) else (some y169)))))
def pcf_b27 (fu : Nat) (f : Nat) (xs : List (D RT den)) : Option (Out RT den) := match f with | 184 => S_b24 fu xs | 185 => S_b26 fu xs | _ => none
def pc_b27 (fu : Nat) : Pc RT den := ⟨pcf_b27 fu, fun _ => false, fun _ => false, pcd0, pcx0⟩
def msk_b27 (b : Nat) : List Nat := []
def lp_b27 (fu : Nat) : Lp RT den (Int) := fun b s k => none
theorem ev_b27 (fu : Nat) (a_0 : S_impl_Config) (k_1 : Int) : evFun E (pc_b27 fu) msk_b27 (lp_b27 fu) out_i64 141 [(.agg [(.int .i64 a_0.Version), (.rs a_0.Backends.z .impl_Backend a_0.Backends.n a_0.Backends.f), (.rs a_0.Vips.z .impl_Vip a_0.Vips.n a_0.Vips.f)]), (.int .i64 k_1)] = F_laws_heldConfig fu a_0 k_1 := by kernel_rfl
noncomputable def body_b27 : Code := Try.f141.body.getD .skip
theorem lpok_b27 (fu : Nat) : LpOk E (pc_b27 fu) msk_b27 (lp_b27 fu) (loops 0 body_b27) := by
  have h : loops 0 body_b27 = [] := by kernel_rfl
  rw [h]; intro p hp; cases hp
def S_b27 (fu : Nat) (xs : List (D RT den)) : Option (Out RT den) := match xs with | [.agg [.int .i64 a0_1, .rs za0_2 .impl_Backend na0_2 fa0_2, .rs za0_3 .impl_Vip na0_3 fa0_3], .int .i64 a1_0] => some ⟨Int, F_laws_heldConfig fu (⟨a0_1, (⟨za0_2, na0_2, fa0_2⟩ : (Sl S_impl_Backend)), (⟨za0_3, na0_3, fa0_3⟩ : (Sl S_impl_Vip))⟩ : S_impl_Config) a1_0, enc_i64, fun _ => true⟩ | _ => none
theorem hpc_b27 (fu : Nat) : ∀ f xs o, pcf_b27 fu f xs = some o → ∀ y, o.x = some y → Good E Try.prog f xs (o.g y) := by
  intro f xs o h
  unfold pcf_b27 at h
  split at h
  · exact good_b24 fu xs o h
  · exact good_b26 fu xs o h
  · cases h
theorem goodv_b27 (fu : Nat) (a_0 : S_impl_Config) (k_1 : Int) (y : Int) (hy : F_laws_heldConfig fu a_0 k_1 = some y) : Good E Try.prog 141 [(.agg [(.int .i64 a_0.Version), (.rs a_0.Backends.z .impl_Backend a_0.Backends.n a_0.Backends.f), (.rs a_0.Vips.z .impl_Vip a_0.Vips.n a_0.Vips.f)]), (.int .i64 k_1)] (enc_i64 y) :=
  fun_good E_ok (pc_good (pc := pc_b27 fu) (hpc_b27 fu) hpx0) (fn := Try.f141) (c := body_b27) (out := out_i64) (y := y) (by kernel_rfl) (by kernel_rfl) (by kernel_rfl) (lpok_b27 fu) (fun d hd => out_i64_enc d _ hd) ((ev_b27 fu a_0 k_1).trans hy)
theorem good_b27 (fu : Nat) : ∀ xs o, S_b27 fu xs = some o → ∀ y, o.x = some y → Good E Try.prog 141 xs (o.g y) := by
  intro xs o h y hy
  unfold S_b27 at h
  split at h
  · rename_i a0_1 za0_2 na0_2 fa0_2 za0_3 na0_3 fa0_3 a1_0
    cases h
    exact goodv_b27 fu (⟨a0_1, (⟨za0_2, na0_2, fa0_2⟩ : (Sl S_impl_Backend)), (⟨za0_3, na0_3, fa0_3⟩ : (Sl S_impl_Vip))⟩ : S_impl_Config) a1_0 y hy
  · cases h

/-! laws.heldCmdS -/
def F_laws_heldCmdS_B0 {ρ : Type} (fu : Nat) (a0_0 : (Sl S_impl_Cmd)) (k0 : Int → Option ρ) (k1 : Int → Option ρ) (k1_1 : Int) (i5_2 : Int) (go : Int → Int → Option ρ) : Option ρ :=
  (bif (decide (i5_2 < ((a0_0.n : Nat) : Int))) then ((bif (decide (0 ≤ i5_2) && decide ((Int.toNat i5_2) < a0_0.n)) then some () else none : Option Unit).bind fun _ => (bif ((a0_0.f (Int.toNat i5_2)).Kind != k1_1) then
    (k0 k1_1) else ((bif (decide (0 ≤ i5_2) && decide ((Int.toNat i5_2) < a0_0.n)) then some () else none : Option Unit).bind fun _ => (bif ((a0_0.f (Int.toNat i5_2)).Expect != (IntKind.wrap .i64 (k1_1 + 1))) then
    (k0 (IntKind.wrap .i64 (k1_1 + 1))) else ((bif (decide (0 ≤ i5_2) && decide ((Int.toNat i5_2) < a0_0.n)) then some () else none : Option Unit).bind fun _ => (bif ((a0_0.f (Int.toNat i5_2)).Name != (IntKind.wrap .i64 ((IntKind.wrap .i64 (k1_1 + 1)) + 1))) then
    (k0 (IntKind.wrap .i64 ((IntKind.wrap .i64 (k1_1 + 1)) + 1))) else ((bif (decide (0 ≤ i5_2) && decide ((Int.toNat i5_2) < a0_0.n)) then some () else none : Option Unit).bind fun _ =>
    (bif ((a0_0.f (Int.toNat i5_2)).Addr != (IntKind.wrap .i64 ((IntKind.wrap .i64 ((IntKind.wrap .i64 (k1_1 + 1)) + 1)) + 1))) then (k0 (IntKind.wrap .i64 ((IntKind.wrap .i64 ((IntKind.wrap .i64 (k1_1 + 1)) + 1)) + 1))) else
    ((bif (decide (0 ≤ i5_2) && decide ((Int.toNat i5_2) < a0_0.n)) then some () else none : Option Unit).bind fun _ => (bif ((a0_0.f (Int.toNat i5_2)).Number != (IntKind.wrap .i64 ((IntKind.wrap .i64 ((IntKind.wrap .i64 ((IntKind.wrap .i64 (k1_1 + 1)) + 1)) + 1)) + 1))) then
    (k0 (IntKind.wrap .i64 ((IntKind.wrap .i64 ((IntKind.wrap .i64 ((IntKind.wrap .i64 (k1_1 + 1)) + 1)) + 1)) + 1))) else ((bif (decide (0 ≤ i5_2) && decide ((Int.toNat i5_2) < a0_0.n)) then
    some () else none : Option Unit).bind fun _ => (bif ((a0_0.f (Int.toNat i5_2)).Proto != (IntKind.wrap .i64 ((IntKind.wrap .i64 ((IntKind.wrap .i64 ((IntKind.wrap .i64 ((IntKind.wrap .i64 (k1_1 + 1)) + 1)) + 1)) + 1)) + 1))) then
    (k0 (IntKind.wrap .i64 ((IntKind.wrap .i64 ((IntKind.wrap .i64 ((IntKind.wrap .i64 ((IntKind.wrap .i64 (k1_1 + 1)) + 1)) + 1)) + 1)) + 1))) else (go (IntKind.wrap .i64 ((IntKind.wrap .i64 ((IntKind.wrap .i64 ((IntKind.wrap .i64 ((IntKind.wrap .i64 ((IntKind.wrap .i64 (k1_1 + 1)) + 1)) + 1)) + 1)) + 1)) + 1)) (IntKind.wrap .i64 (i5_2 + 1))))))))))))))) else
    (k1 k1_1))
def F_laws_heldCmdS (fu : Nat) (a_0 : (Sl S_impl_Cmd)) (k_1 : Int) : Option (Int) :=
  (L (fun w0 go0 => F_laws_heldCmdS_B0 fu a_0 (fun z177 => (some (-1))) (fun z178 => (some z178)) w0.1 w0.2 (fun q0 q1 => go0 (q0, q1))) fu ((k_1, 0) : Int × Int))
def pc_b28 (fu : Nat) : Pc RT den := ⟨pcf0, fun _ => false, fun _ => false, pcd0, pcx0⟩
def msk_b28 (b : Nat) : List Nat := match b with | 0 => [2, 3, 4, 6, 7, 8, 9, 10, 11, 12, 13, 14, 15, 16, 17, 18, 19, 20, 21, 22, 23, 24, 25, 26, 27, 28, 29, 30, 31, 32, 33, 34, 35, 36, 37, 38, 39, 40, 41, 42, 43, 44, 45, 46, 47, 48, 49, 50, 51, 52, 53, 54, 55, 56, 57, 58, 59, 60, 61, 62, 63, 64, 65, 66] | 100000 => [0, 2, 3, 5, 6, 7, 8, 9, 10, 11, 12, 13, 14, 15, 16, 17, 18, 19, 20, 21, 22, 23, 24, 25, 26, 27, 28, 29, 30, 31, 32, 33, 34, 35, 36, 37, 38, 39, 40, 41, 42, 43, 44, 45, 46, 47, 48, 49, 50, 51, 52, 53, 54, 55, 56, 57, 58, 59, 60, 61, 62, 63, 64, 65, 66] | _ => []
def ps_b28_0 : List (Pat RT) := [.flat (.rs .impl_Cmd), .flat (.int .i64), .flat .q, .flat .q, .flat .q, .flat (.int .i64), .flat .q, .flat .q, .flat .q, .flat .q, .flat .q, .flat .q, .flat .q, .flat .q, .flat .q, .flat .q, .flat .q, .flat .q, .flat .q, .flat .q, .flat .q, .flat .q, .flat .q, .flat .q, .flat .q, .flat .q, .flat .q, .flat .q, .flat .q, .flat .q, .flat .q, .flat .q, .flat .q, .flat .q, .flat .q, .flat .q, .flat .q, .flat .q, .flat .q, .flat .q, .flat .q, .flat .q, .flat .q, .flat .q, .flat .q, .flat .q, .flat .q, .flat .q, .flat .q, .flat .q, .flat .q, .flat .q, .flat .q, .flat .q, .flat .q, .flat .q, .flat .q, .flat .q, .flat .q, .flat .q, .flat .q, .flat .q, .flat .q, .flat .q, .flat .q, .flat .q, .flat .q]
def os_b28_0 : List (OP RT) := []
def conv_b28_0 (r : Raw den ps_b28_0 os_b28_0) : ((Sl S_impl_Cmd)) × (Int × Int) := (r.1.1, (r.1.2.1, r.1.2.2.2.2.2.1))
def back_b28_0 (c : (Sl S_impl_Cmd)) (w : Int × Int) : St RT den := ⟨[(.rs c.z .impl_Cmd c.n c.f), (.int .i64 w.1), .q, .q, .q, (.int .i64 w.2), .q, .q, .q, .q, .q, .q, .q, .q, .q, .q, .q, .q, .q, .q, .q, .q, .q, .q, .q, .q, .q, .q, .q, .q, .q, .q, .q, .q, .q, .q, .q, .q, .q, .q, .q, .q, .q, .q, .q, .q, .q, .q, .q, .q, .q, .q, .q, .q, .q, .q, .q, .q, .q, .q, .q, .q, .q, .q, .q, .q, .q], []⟩
def Bk_b28_0 {ρ : Type} (fu : Nat) (c : (Sl S_impl_Cmd)) (k : Ex → St RT den → Option ρ) (w : Int × Int) (go : (Int × Int) → Option ρ) : Option ρ := F_laws_heldCmdS_B0 fu c (fun a0 => k .ret ⟨[.q, (.int .i64 a0), .q, .q, (.int .i64 (-1)), .q, .q, .q, .q, .q, .q, .q, .q, .q, .q, .q, .q, .q, .q, .q, .q, .q, .q, .q, .q, .q, .q, .q, .q, .q, .q, .q, .q, .q, .q, .q, .q, .q, .q, .q, .q, .q, .q, .q, .q, .q, .q, .q, .q, .q, .q, .q, .q, .q, .q, .q, .q, .q, .q, .q, .q, .q, .q, .q, .q, .q, .q], []⟩) (fun a0 => k (.exit 0) ⟨[.q, (.int .i64 a0), .q, .q, .q, .q, .q, .q, .q, .q, .q, .q, .q, .q, .q, .q, .q, .q, .q, .q, .q, .q, .q, .q, .q, .q, .q, .q, .q, .q, .q, .q, .q, .q, .q, .q, .q, .q, .q, .q, .q, .q, .q, .q, .q, .q, .q, .q, .q, .q, .q, .q, .q, .q, .q, .q, .q, .q, .q, .q, .q, .q, .q, .q, .q, .q, .q], []⟩) w.1 w.2 (fun q0 q1 => go (q0, q1))
def lp_b28 (fu : Nat) : Lp RT den (Int) := fun b s k => match b with | 0 => handle ps_b28_0 os_b28_0 conv_b28_0 (Bk_b28_0 fu) fu s k | _ => none
theorem ev_b28 (fu : Nat) (a_0 : (Sl S_impl_Cmd)) (k_1 : Int) : evFun E (pc_b28 fu) msk_b28 (lp_b28 fu) out_i64 81 [(.rs a_0.z .impl_Cmd a_0.n a_0.f), (.int .i64 k_1)] = F_laws_heldCmdS fu a_0 k_1 := by kernel_rfl
noncomputable def body_b28 : Code := Try.f81.body.getD .skip
noncomputable def lc_b28_0 : Code := ((loops 0 body_b28).getD 0 (0, .skip)).2
theorem round_b28_0 (fu : Nat) (it : St RT den → Option (Int)) (k : Ex → St RT den → Option (Int)) c w : evCode E (pc_b28 fu) msk_b28 (lp_b28 fu) 0 lc_b28_0 (back_b28_0 c w) (after (msk_b28 0) (msk_b28 100000) 0 it k) = Bk_b28_0 fu c k w (fun w => it (back_b28_0 c w)) := by kernel_rfl
theorem lpok_b28_0 (fu : Nat) : ∀ s k r, lp_b28 fu 0 s k = some r → ∃ fuel, iter (msk_b28 0) (msk_b28 100000) s.objs.length (evCode E (pc_b28 fu) msk_b28 (lp_b28 fu) 0 lc_b28_0) fuel s k = some r :=
  handle_ok (ps := ps_b28_0) (os := os_b28_0) (conv := conv_b28_0) (B := Bk_b28_0 fu) (fu := fu) back_b28_0 (fun raw => by kernel_rfl) 0 (fun c w => by kernel_rfl) (round_b28_0 fu)
theorem lpok_b28 (fu : Nat) : LpOk E (pc_b28 fu) msk_b28 (lp_b28 fu) (loops 0 body_b28) := loop_all 1 (by kernel_rfl) fun i hi => match i, hi with
  | 0, _ => by
    have h : (loops 0 body_b28).getD 0 (0, .skip) = (0, lc_b28_0) := by kernel_rfl
    rw [h]; exact lpok_b28_0 fu
  | i + 1, hi => absurd hi (by omega)
def S_b28 (fu : Nat) (xs : List (D RT den)) : Option (Out RT den) := match xs with | [.rs za0_0 .impl_Cmd na0_0 fa0_0, .int .i64 a1_0] => some ⟨Int, F_laws_heldCmdS fu (⟨za0_0, na0_0, fa0_0⟩ : (Sl S_impl_Cmd)) a1_0, enc_i64, fun _ => true⟩ | _ => none
theorem goodv_b28 (fu : Nat) (a_0 : (Sl S_impl_Cmd)) (k_1 : Int) (y : Int) (hy : F_laws_heldCmdS fu a_0 k_1 = some y) : Good E Try.prog 81 [(.rs a_0.z .impl_Cmd a_0.n a_0.f), (.int .i64 k_1)] (enc_i64 y) :=
  fun_good E_ok (pc_good (pc := pc_b28 fu) hpc0 hpx0) (fn := Try.f81) (c := body_b28) (out := out_i64) (y := y) (by kernel_rfl) (by kernel_rfl) (by kernel_rfl) (lpok_b28 fu) (fun d hd => out_i64_enc d _ hd) ((ev_b28 fu a_0 k_1).trans hy)
theorem good_b28 (fu : Nat) : ∀ xs o, S_b28 fu xs = some o → ∀ y, o.x = some y → Good E Try.prog 81 xs (o.g y) := by
  intro xs o h y hy
  unfold S_b28 at h
  split at h
  · rename_i za0_0 na0_0 fa0_0 a1_0
    cases h
    exact goodv_b28 fu (⟨za0_0, na0_0, fa0_0⟩ : (Sl S_impl_Cmd)) a1_0 y hy
  · cases h
end Go.Proofs.Ytmnbmponjhglcaa.Pd
