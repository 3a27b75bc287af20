/- The functions' evaluated forms, each a proved summary. Conditions: none. -/
import Derived.Test.YthbimpgiafhfoaaPcT
namespace Go.Proofs.Ythbimpgiafhfoaa.Pc
open Go Go.RowKit Go.Proofs Vm
set_option linter.unusedVariables false
set_option linter.unusedSimpArgs false
set_option maxRecDepth 100000
/-! laws.szBackendS -/
def F_laws_szBackendS (fu : Nat) (a_0 : (Sl S_impl_Backend)) (left_1 : Int) : Option (Int) :=
  (bif (decide ((IntKind.wrap .i64 (left_1 - ((a_0.n : Nat) : Int))) < 0)) then (some (-1)) else (some (IntKind.wrap .i64 (left_1 - ((a_0.n : Nat) : Int)))))
def pc_laws_szBackendS (fu : Nat) : Pc RT den := fun f xs => none
def msk_laws_szBackendS (b : Nat) : List Nat := []
def lp_laws_szBackendS (fu : Nat) : Lp RT den (Int) := fun b s k => none
theorem ev_laws_szBackendS (fu : Nat) (a_0 : (Sl S_impl_Backend)) (left_1 : Int) : evFun E (pc_laws_szBackendS fu) msk_laws_szBackendS (lp_laws_szBackendS fu) out_i64 63 [(.rs a_0.z .impl_Backend a_0.n a_0.f), (.int .i64 left_1)] = F_laws_szBackendS fu a_0 left_1 := by kernel_rfl
noncomputable def body_laws_szBackendS : Code := Try.f63.body.getD .skip
theorem lpok_laws_szBackendS (fu : Nat) : LpOk E (pc_laws_szBackendS fu) msk_laws_szBackendS (lp_laws_szBackendS fu) (loops 0 body_laws_szBackendS) := by
  have h : loops 0 body_laws_szBackendS = [] := by kernel_rfl
  rw [h]; intro p hp; cases hp
def S_laws_szBackendS (fu : Nat) (xs : List (D RT den)) : Option (Out RT den) := match xs with | [.rs za0_0 .impl_Backend na0_0 fa0_0, .int .i64 a1_0] => some ⟨Int, F_laws_szBackendS fu (⟨za0_0, na0_0, fa0_0⟩ : (Sl S_impl_Backend)) a1_0, enc_i64, fun _ => true⟩ | _ => none
theorem hpc_laws_szBackendS (fu : Nat) : ∀ f xs o, pc_laws_szBackendS fu f xs = some o → ∀ y, o.x = some y → Good E Try.prog f xs (o.g y) := by
  intro f xs o h
  cases h
theorem goodv_laws_szBackendS (fu : Nat) (a_0 : (Sl S_impl_Backend)) (left_1 : Int) (y : Int) (hy : F_laws_szBackendS fu a_0 left_1 = some y) : Good E Try.prog 63 [(.rs a_0.z .impl_Backend a_0.n a_0.f), (.int .i64 left_1)] (enc_i64 y) :=
  fun_good E_ok (pc_good (hpc_laws_szBackendS fu)) (fn := Try.f63) (c := body_laws_szBackendS) (out := out_i64) (y := y) (by kernel_rfl) (by kernel_rfl) (by kernel_rfl) (lpok_laws_szBackendS fu) (fun d hd => out_i64_enc d _ hd) ((ev_laws_szBackendS fu a_0 left_1).trans hy)
theorem good_laws_szBackendS (fu : Nat) : ∀ xs o, S_laws_szBackendS fu xs = some o → ∀ y, o.x = some y → Good E Try.prog 63 xs (o.g y) := by
  intro xs o h y hy
  unfold S_laws_szBackendS at h
  split at h
  · rename_i za0_0 na0_0 fa0_0 a1_0
    cases h
    exact goodv_laws_szBackendS fu (⟨za0_0, na0_0, fa0_0⟩ : (Sl S_impl_Backend)) a1_0 y hy
  · cases h

/-! laws.szInt64S -/
def F_laws_szInt64S (fu : Nat) (a_0 : (Sl Int)) (left_1 : Int) : Option (Int) :=
  (bif (decide ((IntKind.wrap .i64 (left_1 - ((a_0.n : Nat) : Int))) < 0)) then (some (-1)) else (some (IntKind.wrap .i64 (left_1 - ((a_0.n : Nat) : Int)))))
def pc_laws_szInt64S (fu : Nat) : Pc RT den := fun f xs => none
def msk_laws_szInt64S (b : Nat) : List Nat := []
def lp_laws_szInt64S (fu : Nat) : Lp RT den (Int) := fun b s k => none
theorem ev_laws_szInt64S (fu : Nat) (a_0 : (Sl Int)) (left_1 : Int) : evFun E (pc_laws_szInt64S fu) msk_laws_szInt64S (lp_laws_szInt64S fu) out_i64 147 [(.rs a_0.z .i64 a_0.n a_0.f), (.int .i64 left_1)] = F_laws_szInt64S fu a_0 left_1 := by kernel_rfl
noncomputable def body_laws_szInt64S : Code := Try.f147.body.getD .skip
theorem lpok_laws_szInt64S (fu : Nat) : LpOk E (pc_laws_szInt64S fu) msk_laws_szInt64S (lp_laws_szInt64S fu) (loops 0 body_laws_szInt64S) := by
  have h : loops 0 body_laws_szInt64S = [] := by kernel_rfl
  rw [h]; intro p hp; cases hp
def S_laws_szInt64S (fu : Nat) (xs : List (D RT den)) : Option (Out RT den) := match xs with | [.rs za0_0 .i64 na0_0 fa0_0, .int .i64 a1_0] => some ⟨Int, F_laws_szInt64S fu (⟨za0_0, na0_0, fa0_0⟩ : (Sl Int)) a1_0, enc_i64, fun _ => true⟩ | _ => none
theorem hpc_laws_szInt64S (fu : Nat) : ∀ f xs o, pc_laws_szInt64S fu f xs = some o → ∀ y, o.x = some y → Good E Try.prog f xs (o.g y) := by
  intro f xs o h
  cases h
theorem goodv_laws_szInt64S (fu : Nat) (a_0 : (Sl Int)) (left_1 : Int) (y : Int) (hy : F_laws_szInt64S fu a_0 left_1 = some y) : Good E Try.prog 147 [(.rs a_0.z .i64 a_0.n a_0.f), (.int .i64 left_1)] (enc_i64 y) :=
  fun_good E_ok (pc_good (hpc_laws_szInt64S fu)) (fn := Try.f147) (c := body_laws_szInt64S) (out := out_i64) (y := y) (by kernel_rfl) (by kernel_rfl) (by kernel_rfl) (lpok_laws_szInt64S fu) (fun d hd => out_i64_enc d _ hd) ((ev_laws_szInt64S fu a_0 left_1).trans hy)
theorem good_laws_szInt64S (fu : Nat) : ∀ xs o, S_laws_szInt64S fu xs = some o → ∀ y, o.x = some y → Good E Try.prog 147 xs (o.g y) := by
  intro xs o h y hy
  unfold S_laws_szInt64S at h
  split at h
  · rename_i za0_0 na0_0 fa0_0 a1_0
    cases h
    exact goodv_laws_szInt64S fu (⟨za0_0, na0_0, fa0_0⟩ : (Sl Int)) a1_0 y hy
  · cases h

/-! laws.szVip -/
def F_laws_szVip (fu : Nat) (a_0 : S_impl_Vip) (left_1 : Int) : Option (Int) :=
  ((F_laws_szInt64S fu a_0.Names left_1).bind fun y15 => (bif (decide (y15 < 0)) then (some (-1)) else (some y15)))
def pc_laws_szVip (fu : Nat) : Pc RT den := fun f xs => match f with | 147 => S_laws_szInt64S fu xs | _ => none
def msk_laws_szVip (b : Nat) : List Nat := []
def lp_laws_szVip (fu : Nat) : Lp RT den (Int) := fun b s k => none
theorem ev_laws_szVip (fu : Nat) (a_0 : S_impl_Vip) (left_1 : Int) : evFun E (pc_laws_szVip fu) msk_laws_szVip (lp_laws_szVip fu) out_i64 119 [(.agg [(.int .i64 a_0.Address), (.int .i64 a_0.Port), (.int .i64 a_0.Proto), (.rs a_0.Names.z .i64 a_0.Names.n a_0.Names.f)]), (.int .i64 left_1)] = F_laws_szVip fu a_0 left_1 := by kernel_rfl
noncomputable def body_laws_szVip : Code := Try.f119.body.getD .skip
theorem lpok_laws_szVip (fu : Nat) : LpOk E (pc_laws_szVip fu) msk_laws_szVip (lp_laws_szVip fu) (loops 0 body_laws_szVip) := by
  have h : loops 0 body_laws_szVip = [] := by kernel_rfl
  rw [h]; intro p hp; cases hp
def S_laws_szVip (fu : Nat) (xs : List (D RT den)) : Option (Out RT den) := match xs with | [.agg [.int .i64 a0_1, .int .i64 a0_2, .int .i64 a0_3, .rs za0_4 .i64 na0_4 fa0_4], .int .i64 a1_0] => some ⟨Int, F_laws_szVip fu (⟨a0_1, a0_2, a0_3, (⟨za0_4, na0_4, fa0_4⟩ : (Sl Int))⟩ : S_impl_Vip) a1_0, enc_i64, fun _ => true⟩ | _ => none
theorem hpc_laws_szVip (fu : Nat) : ∀ f xs o, pc_laws_szVip fu f xs = some o → ∀ y, o.x = some y → Good E Try.prog f xs (o.g y) := by
  intro f xs o h
  unfold pc_laws_szVip at h
  split at h
  · exact good_laws_szInt64S fu xs o h
  · cases h
theorem goodv_laws_szVip (fu : Nat) (a_0 : S_impl_Vip) (left_1 : Int) (y : Int) (hy : F_laws_szVip fu a_0 left_1 = some y) : Good E Try.prog 119 [(.agg [(.int .i64 a_0.Address), (.int .i64 a_0.Port), (.int .i64 a_0.Proto), (.rs a_0.Names.z .i64 a_0.Names.n a_0.Names.f)]), (.int .i64 left_1)] (enc_i64 y) :=
  fun_good E_ok (pc_good (hpc_laws_szVip fu)) (fn := Try.f119) (c := body_laws_szVip) (out := out_i64) (y := y) (by kernel_rfl) (by kernel_rfl) (by kernel_rfl) (lpok_laws_szVip fu) (fun d hd => out_i64_enc d _ hd) ((ev_laws_szVip fu a_0 left_1).trans hy)
theorem good_laws_szVip (fu : Nat) : ∀ xs o, S_laws_szVip fu xs = some o → ∀ y, o.x = some y → Good E Try.prog 119 xs (o.g y) := by
  intro xs o h y hy
  unfold S_laws_szVip at h
  split at h
  · rename_i a0_1 a0_2 a0_3 za0_4 na0_4 fa0_4 a1_0
    cases h
    exact goodv_laws_szVip fu (⟨a0_1, a0_2, a0_3, (⟨za0_4, na0_4, fa0_4⟩ : (Sl Int))⟩ : S_impl_Vip) a1_0 y hy
  · cases h

/-! laws.szVipS -/
def F_laws_szVipS_B0 {ρ : Type} (fu : Nat) (a0_0 : (Sl S_impl_Vip)) (k0 : Int → Option ρ) (k1 : Int → Option ρ) (left1_1 : Int) (i5_2 : Int) (go : Int → Int → Option ρ) : Option ρ :=
  (bif (decide (i5_2 < ((a0_0.n : Nat) : Int))) then ((bif (decide (0 ≤ i5_2) && decide ((Int.toNat i5_2) < a0_0.n)) then some () else none : Option Unit).bind fun _ =>
    ((F_laws_szVip fu (a0_0.f (Int.toNat i5_2)) left1_1).bind fun y12 => (bif (decide (y12 < 0)) then (k0 y12) else (go y12 (IntKind.wrap .i64 (i5_2 + 1)))))) else (k1 left1_1))
def F_laws_szVipS (fu : Nat) (a_0 : (Sl S_impl_Vip)) (left_1 : Int) : Option (Int) :=
  (bif (decide ((IntKind.wrap .i64 (left_1 - ((a_0.n : Nat) : Int))) < 0)) then (some (-1)) else (L (fun w0 go0 => F_laws_szVipS_B0 fu a_0 (fun z13 => (some (-1))) (fun z14 => (some z14)) w0.1 w0.2 (fun q0 q1 =>
    go0 (q0, q1))) fu (((IntKind.wrap .i64 (left_1 - ((a_0.n : Nat) : Int))), 0) : Int × Int)))
def pc_laws_szVipS (fu : Nat) : Pc RT den := fun f xs => match f with | 119 => S_laws_szVip fu xs | _ => none
def msk_laws_szVipS (b : Nat) : List Nat := match b with | 0 => [2, 3, 4, 6, 7, 8, 9, 10, 11, 12, 13, 14, 15, 16, 17, 18, 19, 20, 21, 22, 23, 24, 25, 26] | 100000 => [0, 2, 3, 5, 6, 7, 8, 9, 10, 11, 12, 13, 14, 15, 16, 17, 18, 19, 20, 21, 22, 23, 24, 25, 26] | _ => []
def ps_laws_szVipS_0 : List (Pat RT) := [.flat (.rs .impl_Vip), .flat (.int .i64), .flat .dead, .flat .dead, .flat .dead, .flat (.int .i64), .flat .dead, .flat .dead, .flat .dead, .flat .dead, .flat .dead, .flat .dead, .flat .dead, .flat .dead, .flat .dead, .flat .dead, .flat .dead, .flat .dead, .flat .dead, .flat .dead, .flat .dead, .flat .dead, .flat .dead, .flat .dead, .flat .dead, .flat .dead, .flat .dead]
def os_laws_szVipS_0 : List (OP RT) := []
def conv_laws_szVipS_0 (r : Raw den ps_laws_szVipS_0 os_laws_szVipS_0) : ((Sl S_impl_Vip)) × (Int × Int) := (r.1.1, (r.1.2.1, r.1.2.2.2.2.2.1))
def back_laws_szVipS_0 (c : (Sl S_impl_Vip)) (w : Int × Int) : St RT den := ⟨[(.rs c.z .impl_Vip c.n c.f), (.int .i64 w.1), .dead, .dead, .dead, (.int .i64 w.2), .dead, .dead, .dead, .dead, .dead, .dead, .dead, .dead, .dead, .dead, .dead, .dead, .dead, .dead, .dead, .dead, .dead, .dead, .dead, .dead, .dead], []⟩
def Bk_laws_szVipS_0 {ρ : Type} (fu : Nat) (c : (Sl S_impl_Vip)) (k : Ex → St RT den → Option ρ) (w : Int × Int) (go : (Int × Int) → Option ρ) : Option ρ := F_laws_szVipS_B0 fu c (fun a0 => k .ret ⟨[.dead, (.int .i64 a0), .dead, .dead, (.int .i64 (-1)), .dead, .dead, .dead, .dead, .dead, .dead, .dead, .dead, .dead, .dead, .dead, .dead, .dead, .dead, .dead, .dead, .dead, .dead, .dead, .dead, .dead, .dead], []⟩) (fun a0 => k (.exit 0) ⟨[.dead, (.int .i64 a0), .dead, .dead, .dead, .dead, .dead, .dead, .dead, .dead, .dead, .dead, .dead, .dead, .dead, .dead, .dead, .dead, .dead, .dead, .dead, .dead, .dead, .dead, .dead, .dead, .dead], []⟩) w.1 w.2 (fun q0 q1 => go (q0, q1))
def lp_laws_szVipS (fu : Nat) : Lp RT den (Int) := fun b s k => match b with | 0 => handle ps_laws_szVipS_0 os_laws_szVipS_0 conv_laws_szVipS_0 (Bk_laws_szVipS_0 fu) fu s k | _ => none
theorem ev_laws_szVipS (fu : Nat) (a_0 : (Sl S_impl_Vip)) (left_1 : Int) : evFun E (pc_laws_szVipS fu) msk_laws_szVipS (lp_laws_szVipS fu) out_i64 64 [(.rs a_0.z .impl_Vip a_0.n a_0.f), (.int .i64 left_1)] = F_laws_szVipS fu a_0 left_1 := by kernel_rfl
noncomputable def body_laws_szVipS : Code := Try.f64.body.getD .skip
noncomputable def lc_laws_szVipS_0 : Code := ((loops 0 body_laws_szVipS).getD 0 (0, .skip)).2
theorem round_laws_szVipS_0 (fu : Nat) (it : St RT den → Option (Int)) (k : Ex → St RT den → Option (Int)) c w : evCode E (pc_laws_szVipS fu) msk_laws_szVipS (lp_laws_szVipS fu) 0 lc_laws_szVipS_0 (back_laws_szVipS_0 c w) (after (msk_laws_szVipS 0) (msk_laws_szVipS 100000) 0 it k) = Bk_laws_szVipS_0 fu c k w (fun w => it (back_laws_szVipS_0 c w)) := by kernel_rfl
theorem lpok_laws_szVipS_0 (fu : Nat) : ∀ s k r, lp_laws_szVipS fu 0 s k = some r → ∃ fuel, iter (msk_laws_szVipS 0) (msk_laws_szVipS 100000) s.objs.length (evCode E (pc_laws_szVipS fu) msk_laws_szVipS (lp_laws_szVipS fu) 0 lc_laws_szVipS_0) fuel s k = some r :=
  handle_ok (ps := ps_laws_szVipS_0) (os := os_laws_szVipS_0) (conv := conv_laws_szVipS_0) (B := Bk_laws_szVipS_0 fu) (fu := fu) back_laws_szVipS_0 (fun raw => by kernel_rfl) 0 (fun c w => by kernel_rfl) (round_laws_szVipS_0 fu)
theorem lpok_laws_szVipS (fu : Nat) : LpOk E (pc_laws_szVipS fu) msk_laws_szVipS (lp_laws_szVipS fu) (loops 0 body_laws_szVipS) := loop_all 1 (by kernel_rfl) fun i hi => match i, hi with
  | 0, _ => by
    have h : (loops 0 body_laws_szVipS).getD 0 (0, .skip) = (0, lc_laws_szVipS_0) := by kernel_rfl
    rw [h]; exact lpok_laws_szVipS_0 fu
  | i + 1, hi => absurd hi (by omega)
def S_laws_szVipS (fu : Nat) (xs : List (D RT den)) : Option (Out RT den) := match xs with | [.rs za0_0 .impl_Vip na0_0 fa0_0, .int .i64 a1_0] => some ⟨Int, F_laws_szVipS fu (⟨za0_0, na0_0, fa0_0⟩ : (Sl S_impl_Vip)) a1_0, enc_i64, fun _ => true⟩ | _ => none
theorem hpc_laws_szVipS (fu : Nat) : ∀ f xs o, pc_laws_szVipS fu f xs = some o → ∀ y, o.x = some y → Good E Try.prog f xs (o.g y) := by
  intro f xs o h
  unfold pc_laws_szVipS at h
  split at h
  · exact good_laws_szVip fu xs o h
  · cases h
theorem goodv_laws_szVipS (fu : Nat) (a_0 : (Sl S_impl_Vip)) (left_1 : Int) (y : Int) (hy : F_laws_szVipS fu a_0 left_1 = some y) : Good E Try.prog 64 [(.rs a_0.z .impl_Vip a_0.n a_0.f), (.int .i64 left_1)] (enc_i64 y) :=
  fun_good E_ok (pc_good (hpc_laws_szVipS fu)) (fn := Try.f64) (c := body_laws_szVipS) (out := out_i64) (y := y) (by kernel_rfl) (by kernel_rfl) (by kernel_rfl) (lpok_laws_szVipS fu) (fun d hd => out_i64_enc d _ hd) ((ev_laws_szVipS fu a_0 left_1).trans hy)
theorem good_laws_szVipS (fu : Nat) : ∀ xs o, S_laws_szVipS fu xs = some o → ∀ y, o.x = some y → Good E Try.prog 64 xs (o.g y) := by
  intro xs o h y hy
  unfold S_laws_szVipS at h
  split at h
  · rename_i za0_0 na0_0 fa0_0 a1_0
    cases h
    exact goodv_laws_szVipS fu (⟨za0_0, na0_0, fa0_0⟩ : (Sl S_impl_Vip)) a1_0 y hy
  · cases h

/-! laws.szConfig -/
def F_laws_szConfig (fu : Nat) (a_0 : S_laws_Config) (left_1 : Int) : Option (Int) :=
  ((F_laws_szBackendS fu a_0.Backends left_1).bind fun y10 => (bif (decide (y10 < 0)) then (some (-1)) else ((F_laws_szVipS fu a_0.Vips y10).bind fun y11 => (bif (decide (y11 < 0)) then
    (some (-1)) else (some y11)))))
def pc_laws_szConfig (fu : Nat) : Pc RT den := fun f xs => match f with | 63 => S_laws_szBackendS fu xs | 64 => S_laws_szVipS fu xs | _ => none
def msk_laws_szConfig (b : Nat) : List Nat := []
def lp_laws_szConfig (fu : Nat) : Lp RT den (Int) := fun b s k => none
theorem ev_laws_szConfig (fu : Nat) (a_0 : S_laws_Config) (left_1 : Int) : evFun E (pc_laws_szConfig fu) msk_laws_szConfig (lp_laws_szConfig fu) out_i64 22 [(.agg [(.int .i64 a_0.Version), (.rs a_0.Backends.z .impl_Backend a_0.Backends.n a_0.Backends.f), (.rs a_0.Vips.z .impl_Vip a_0.Vips.n a_0.Vips.f)]), (.int .i64 left_1)] = F_laws_szConfig fu a_0 left_1 := by kernel_rfl
noncomputable def body_laws_szConfig : Code := Try.f22.body.getD .skip
theorem lpok_laws_szConfig (fu : Nat) : LpOk E (pc_laws_szConfig fu) msk_laws_szConfig (lp_laws_szConfig fu) (loops 0 body_laws_szConfig) := by
  have h : loops 0 body_laws_szConfig = [] := by kernel_rfl
  rw [h]; intro p hp; cases hp
def S_laws_szConfig (fu : Nat) (xs : List (D RT den)) : Option (Out RT den) := match xs with | [.agg [.int .i64 a0_1, .rs za0_2 .impl_Backend na0_2 fa0_2, .rs za0_3 .impl_Vip na0_3 fa0_3], .int .i64 a1_0] => some ⟨Int, F_laws_szConfig fu (⟨a0_1, (⟨za0_2, na0_2, fa0_2⟩ : (Sl S_impl_Backend)), (⟨za0_3, na0_3, fa0_3⟩ : (Sl S_impl_Vip))⟩ : S_laws_Config) a1_0, enc_i64, fun _ => true⟩ | _ => none
theorem hpc_laws_szConfig (fu : Nat) : ∀ f xs o, pc_laws_szConfig fu f xs = some o → ∀ y, o.x = some y → Good E Try.prog f xs (o.g y) := by
  intro f xs o h
  unfold pc_laws_szConfig at h
  split at h
  · exact good_laws_szBackendS fu xs o h
  · exact good_laws_szVipS fu xs o h
  · cases h
theorem goodv_laws_szConfig (fu : Nat) (a_0 : S_laws_Config) (left_1 : Int) (y : Int) (hy : F_laws_szConfig fu a_0 left_1 = some y) : Good E Try.prog 22 [(.agg [(.int .i64 a_0.Version), (.rs a_0.Backends.z .impl_Backend a_0.Backends.n a_0.Backends.f), (.rs a_0.Vips.z .impl_Vip a_0.Vips.n a_0.Vips.f)]), (.int .i64 left_1)] (enc_i64 y) :=
  fun_good E_ok (pc_good (hpc_laws_szConfig fu)) (fn := Try.f22) (c := body_laws_szConfig) (out := out_i64) (y := y) (by kernel_rfl) (by kernel_rfl) (by kernel_rfl) (lpok_laws_szConfig fu) (fun d hd => out_i64_enc d _ hd) ((ev_laws_szConfig fu a_0 left_1).trans hy)
theorem good_laws_szConfig (fu : Nat) : ∀ xs o, S_laws_szConfig fu xs = some o → ∀ y, o.x = some y → Good E Try.prog 22 xs (o.g y) := by
  intro xs o h y hy
  unfold S_laws_szConfig at h
  split at h
  · rename_i a0_1 za0_2 na0_2 fa0_2 za0_3 na0_3 fa0_3 a1_0
    cases h
    exact goodv_laws_szConfig fu (⟨a0_1, (⟨za0_2, na0_2, fa0_2⟩ : (Sl S_impl_Backend)), (⟨za0_3, na0_3, fa0_3⟩ : (Sl S_impl_Vip))⟩ : S_laws_Config) a1_0 y hy
  · cases h

/-! laws.szSessionS -/
def F_laws_szSessionS (fu : Nat) (a_0 : (Sl S_impl_Session)) (left_1 : Int) : Option (Int) :=
  (bif (decide ((IntKind.wrap .i64 (left_1 - ((a_0.n : Nat) : Int))) < 0)) then (some (-1)) else (some (IntKind.wrap .i64 (left_1 - ((a_0.n : Nat) : Int)))))
def pc_laws_szSessionS (fu : Nat) : Pc RT den := fun f xs => none
def msk_laws_szSessionS (b : Nat) : List Nat := []
def lp_laws_szSessionS (fu : Nat) : Lp RT den (Int) := fun b s k => none
theorem ev_laws_szSessionS (fu : Nat) (a_0 : (Sl S_impl_Session)) (left_1 : Int) : evFun E (pc_laws_szSessionS fu) msk_laws_szSessionS (lp_laws_szSessionS fu) out_i64 44 [(.rs a_0.z .impl_Session a_0.n a_0.f), (.int .i64 left_1)] = F_laws_szSessionS fu a_0 left_1 := by kernel_rfl
noncomputable def body_laws_szSessionS : Code := Try.f44.body.getD .skip
theorem lpok_laws_szSessionS (fu : Nat) : LpOk E (pc_laws_szSessionS fu) msk_laws_szSessionS (lp_laws_szSessionS fu) (loops 0 body_laws_szSessionS) := by
  have h : loops 0 body_laws_szSessionS = [] := by kernel_rfl
  rw [h]; intro p hp; cases hp
def S_laws_szSessionS (fu : Nat) (xs : List (D RT den)) : Option (Out RT den) := match xs with | [.rs za0_0 .impl_Session na0_0 fa0_0, .int .i64 a1_0] => some ⟨Int, F_laws_szSessionS fu (⟨za0_0, na0_0, fa0_0⟩ : (Sl S_impl_Session)) a1_0, enc_i64, fun _ => true⟩ | _ => none
theorem hpc_laws_szSessionS (fu : Nat) : ∀ f xs o, pc_laws_szSessionS fu f xs = some o → ∀ y, o.x = some y → Good E Try.prog f xs (o.g y) := by
  intro f xs o h
  cases h
theorem goodv_laws_szSessionS (fu : Nat) (a_0 : (Sl S_impl_Session)) (left_1 : Int) (y : Int) (hy : F_laws_szSessionS fu a_0 left_1 = some y) : Good E Try.prog 44 [(.rs a_0.z .impl_Session a_0.n a_0.f), (.int .i64 left_1)] (enc_i64 y) :=
  fun_good E_ok (pc_good (hpc_laws_szSessionS fu)) (fn := Try.f44) (c := body_laws_szSessionS) (out := out_i64) (y := y) (by kernel_rfl) (by kernel_rfl) (by kernel_rfl) (lpok_laws_szSessionS fu) (fun d hd => out_i64_enc d _ hd) ((ev_laws_szSessionS fu a_0 left_1).trans hy)
theorem good_laws_szSessionS (fu : Nat) : ∀ xs o, S_laws_szSessionS fu xs = some o → ∀ y, o.x = some y → Good E Try.prog 44 xs (o.g y) := by
  intro xs o h y hy
  unfold S_laws_szSessionS at h
  split at h
  · rename_i za0_0 na0_0 fa0_0 a1_0
    cases h
    exact goodv_laws_szSessionS fu (⟨za0_0, na0_0, fa0_0⟩ : (Sl S_impl_Session)) a1_0 y hy
  · cases h

/-! laws.szMachine -/
def F_laws_szMachine (fu : Nat) (a_0 : S_laws_Machine) (left_1 : Int) : Option (Int) :=
  ((F_laws_szConfig fu a_0.Config left_1).bind fun y8 => (bif (decide (y8 < 0)) then (some (-1)) else ((F_laws_szSessionS fu a_0.Sessions y8).bind fun y9 => (bif (decide (y9 < 0)) then
    (some (-1)) else (some y9)))))
def pc_laws_szMachine (fu : Nat) : Pc RT den := fun f xs => match f with | 22 => S_laws_szConfig fu xs | 44 => S_laws_szSessionS fu xs | _ => none
def msk_laws_szMachine (b : Nat) : List Nat := []
def lp_laws_szMachine (fu : Nat) : Lp RT den (Int) := fun b s k => none
theorem ev_laws_szMachine (fu : Nat) (a_0 : S_laws_Machine) (left_1 : Int) : evFun E (pc_laws_szMachine fu) msk_laws_szMachine (lp_laws_szMachine fu) out_i64 9 [(.agg [(.int .i64 a_0.Config.Version), (.rs a_0.Config.Backends.z .impl_Backend a_0.Config.Backends.n a_0.Config.Backends.f), (.rs a_0.Config.Vips.z .impl_Vip a_0.Config.Vips.n a_0.Config.Vips.f), (.rs a_0.Sessions.z .impl_Session a_0.Sessions.n a_0.Sessions.f)]), (.int .i64 left_1)] = F_laws_szMachine fu a_0 left_1 := by kernel_rfl
noncomputable def body_laws_szMachine : Code := Try.f9.body.getD .skip
theorem lpok_laws_szMachine (fu : Nat) : LpOk E (pc_laws_szMachine fu) msk_laws_szMachine (lp_laws_szMachine fu) (loops 0 body_laws_szMachine) := by
  have h : loops 0 body_laws_szMachine = [] := by kernel_rfl
  rw [h]; intro p hp; cases hp
def S_laws_szMachine (fu : Nat) (xs : List (D RT den)) : Option (Out RT den) := match xs with | [.agg [.int .i64 a0_2, .rs za0_3 .impl_Backend na0_3 fa0_3, .rs za0_4 .impl_Vip na0_4 fa0_4, .rs za0_5 .impl_Session na0_5 fa0_5], .int .i64 a1_0] => some ⟨Int, F_laws_szMachine fu (⟨(⟨a0_2, (⟨za0_3, na0_3, fa0_3⟩ : (Sl S_impl_Backend)), (⟨za0_4, na0_4, fa0_4⟩ : (Sl S_impl_Vip))⟩ : S_laws_Config), (⟨za0_5, na0_5, fa0_5⟩ : (Sl S_impl_Session))⟩ : S_laws_Machine) a1_0, enc_i64, fun _ => true⟩ | _ => none
theorem hpc_laws_szMachine (fu : Nat) : ∀ f xs o, pc_laws_szMachine fu f xs = some o → ∀ y, o.x = some y → Good E Try.prog f xs (o.g y) := by
  intro f xs o h
  unfold pc_laws_szMachine at h
  split at h
  · exact good_laws_szConfig fu xs o h
  · exact good_laws_szSessionS fu xs o h
  · cases h
theorem goodv_laws_szMachine (fu : Nat) (a_0 : S_laws_Machine) (left_1 : Int) (y : Int) (hy : F_laws_szMachine fu a_0 left_1 = some y) : Good E Try.prog 9 [(.agg [(.int .i64 a_0.Config.Version), (.rs a_0.Config.Backends.z .impl_Backend a_0.Config.Backends.n a_0.Config.Backends.f), (.rs a_0.Config.Vips.z .impl_Vip a_0.Config.Vips.n a_0.Config.Vips.f), (.rs a_0.Sessions.z .impl_Session a_0.Sessions.n a_0.Sessions.f)]), (.int .i64 left_1)] (enc_i64 y) :=
  fun_good E_ok (pc_good (hpc_laws_szMachine fu)) (fn := Try.f9) (c := body_laws_szMachine) (out := out_i64) (y := y) (by kernel_rfl) (by kernel_rfl) (by kernel_rfl) (lpok_laws_szMachine fu) (fun d hd => out_i64_enc d _ hd) ((ev_laws_szMachine fu a_0 left_1).trans hy)
theorem good_laws_szMachine (fu : Nat) : ∀ xs o, S_laws_szMachine fu xs = some o → ∀ y, o.x = some y → Good E Try.prog 9 xs (o.g y) := by
  intro xs o h y hy
  unfold S_laws_szMachine at h
  split at h
  · rename_i a0_2 za0_3 na0_3 fa0_3 za0_4 na0_4 fa0_4 za0_5 na0_5 fa0_5 a1_0
    cases h
    exact goodv_laws_szMachine fu (⟨(⟨a0_2, (⟨za0_3, na0_3, fa0_3⟩ : (Sl S_impl_Backend)), (⟨za0_4, na0_4, fa0_4⟩ : (Sl S_impl_Vip))⟩ : S_laws_Config), (⟨za0_5, na0_5, fa0_5⟩ : (Sl S_impl_Session))⟩ : S_laws_Machine) a1_0 y hy
  · cases h

/-! laws.toBackend -/
def F_laws_toBackend (fu : Nat) (a_0 : S_impl_Backend) : Option (S_impl_Backend) :=
  (some a_0)
def pc_laws_toBackend (fu : Nat) : Pc RT den := fun f xs => none
def msk_laws_toBackend (b : Nat) : List Nat := []
def lp_laws_toBackend (fu : Nat) : Lp RT den (S_impl_Backend) := fun b s k => none
theorem ev_laws_toBackend (fu : Nat) (a_0 : S_impl_Backend) : evFun E (pc_laws_toBackend fu) msk_laws_toBackend (lp_laws_toBackend fu) out_impl_Backend 120 [(.agg [(.int .i64 a_0.Name), (.int .i64 a_0.Address), (.int .i64 a_0.Weight), (.int .i64 a_0.Stage), (.bool a_0.Up)])] = F_laws_toBackend fu a_0 := by kernel_rfl
noncomputable def body_laws_toBackend : Code := Try.f120.body.getD .skip
theorem lpok_laws_toBackend (fu : Nat) : LpOk E (pc_laws_toBackend fu) msk_laws_toBackend (lp_laws_toBackend fu) (loops 0 body_laws_toBackend) := by
  have h : loops 0 body_laws_toBackend = [] := by kernel_rfl
  rw [h]; intro p hp; cases hp
def S_laws_toBackend (fu : Nat) (xs : List (D RT den)) : Option (Out RT den) := match xs with | [.agg [.int .i64 a0_1, .int .i64 a0_2, .int .i64 a0_3, .int .i64 a0_4, .bool a0_5]] => some ⟨S_impl_Backend, F_laws_toBackend fu (⟨a0_1, a0_2, a0_3, a0_4, a0_5⟩ : S_impl_Backend), enc_impl_Backend, fun _ => true⟩ | _ => none
theorem hpc_laws_toBackend (fu : Nat) : ∀ f xs o, pc_laws_toBackend fu f xs = some o → ∀ y, o.x = some y → Good E Try.prog f xs (o.g y) := by
  intro f xs o h
  cases h
theorem goodv_laws_toBackend (fu : Nat) (a_0 : S_impl_Backend) (y : S_impl_Backend) (hy : F_laws_toBackend fu a_0 = some y) : Good E Try.prog 120 [(.agg [(.int .i64 a_0.Name), (.int .i64 a_0.Address), (.int .i64 a_0.Weight), (.int .i64 a_0.Stage), (.bool a_0.Up)])] (enc_impl_Backend y) :=
  fun_good E_ok (pc_good (hpc_laws_toBackend fu)) (fn := Try.f120) (c := body_laws_toBackend) (out := out_impl_Backend) (y := y) (by kernel_rfl) (by kernel_rfl) (by kernel_rfl) (lpok_laws_toBackend fu) (fun d hd => out_impl_Backend_enc d _ hd) ((ev_laws_toBackend fu a_0).trans hy)
theorem good_laws_toBackend (fu : Nat) : ∀ xs o, S_laws_toBackend fu xs = some o → ∀ y, o.x = some y → Good E Try.prog 120 xs (o.g y) := by
  intro xs o h y hy
  unfold S_laws_toBackend at h
  split at h
  · rename_i a0_1 a0_2 a0_3 a0_4 a0_5
    cases h
    exact goodv_laws_toBackend fu (⟨a0_1, a0_2, a0_3, a0_4, a0_5⟩ : S_impl_Backend) y hy
  · cases h

/-! laws.toBackendS -/
def F_laws_toBackendS_B0 {ρ : Type} (fu : Nat) (a0_0 : (Sl S_impl_Backend)) (out3_1 : Nat) (on0_3 : Nat) (k0 : (Nat → S_impl_Backend) → Option ρ) (i4_2 : Int) (of0_4 : (Nat → S_impl_Backend)) (go : Int → (Nat → S_impl_Backend) → Option ρ) : Option ρ :=
  (bif (decide (i4_2 < ((a0_0.n : Nat) : Int))) then ((bif (decide (0 ≤ i4_2) && decide ((Int.toNat i4_2) < a0_0.n)) then some () else none : Option Unit).bind fun _ =>
    ((F_laws_toBackend fu (a0_0.f (Int.toNat i4_2))).bind fun y20 => ((bif (decide (0 ≤ i4_2) && decide ((Int.toNat i4_2) < out3_1)) then some () else none : Option Unit).bind fun _ =>
    (go (IntKind.wrap .i64 (i4_2 + 1)) (fun j => if j = (Int.toNat i4_2) then y20 else of0_4 j))))) else (k0 of0_4))
def F_laws_toBackendS (fu : Nat) (a_0 : (Sl S_impl_Backend)) : Option ((Sl S_impl_Backend)) :=
  (bif (decide (0 ≤ ((a_0.n : Nat) : Int)) && (decide (((a_0.n : Nat) : Int) = ((a_0.n : Nat) : Int)) && (decide ((40 : Int) * ((a_0.n : Nat) : Int) ≤ 281474976710656) && decide (((a_0.n : Nat) : Int) ≤ 9223372036854775807)))) then
    (L (fun w0 go0 => F_laws_toBackendS_B0 fu a_0 (Int.toNat ((a_0.n : Nat) : Int)) (Int.toNat ((a_0.n : Nat) : Int)) (fun z21 => (some (⟨none, (Int.toNat ((a_0.n : Nat) : Int)),
    z21⟩ : (Sl S_impl_Backend)))) w0.1 w0.2 (fun q0 q1 => go0 (q0, q1))) fu ((0, (fun _ => (⟨0, 0, 0, 0, false⟩ : S_impl_Backend))) : Int × (Nat → S_impl_Backend))) else none)
def pc_laws_toBackendS (fu : Nat) : Pc RT den := fun f xs => match f with | 120 => S_laws_toBackend fu xs | _ => none
def msk_laws_toBackendS (b : Nat) : List Nat := match b with | 0 => [1, 2, 5, 6, 7, 8, 9, 10, 11, 12, 13, 14, 15, 16, 17, 18, 19, 20, 21, 22] | 100000 => [0, 1, 4, 5, 6, 7, 8, 9, 10, 11, 12, 13, 14, 15, 16, 17, 18, 19, 20, 21, 22] | _ => []
def ps_laws_toBackendS_0 : List (Pat RT) := [.flat (.rs .impl_Backend), .flat .dead, .flat .dead, .flat (.os 0), .flat (.int .i64), .flat .dead, .flat .dead, .flat .dead, .flat .dead, .flat .dead, .flat .dead, .flat .dead, .flat .dead, .flat .dead, .flat .dead, .flat .dead, .flat .dead, .flat .dead, .flat .dead, .flat .dead, .flat .dead, .flat .dead, .flat .dead]
def os_laws_toBackendS_0 : List (OP RT) := [.row .impl_Backend]
def conv_laws_toBackendS_0 (r : Raw den ps_laws_toBackendS_0 os_laws_toBackendS_0) : ((Sl S_impl_Backend) × Nat × Nat) × (Int × (Nat → S_impl_Backend)) := ((r.1.1, r.1.2.2.2.1, r.2.1.1), (r.1.2.2.2.2.1, r.2.1.2))
def back_laws_toBackendS_0 (c : (Sl S_impl_Backend) × Nat × Nat) (w : Int × (Nat → S_impl_Backend)) : St RT den := ⟨[(.rs c.1.z .impl_Backend c.1.n c.1.f), .dead, .dead, (.os 0 c.2.1), (.int .i64 w.1), .dead, .dead, .dead, .dead, .dead, .dead, .dead, .dead, .dead, .dead, .dead, .dead, .dead, .dead, .dead, .dead, .dead, .dead], [(.row .impl_Backend c.2.2 w.2)]⟩
def Bk_laws_toBackendS_0 {ρ : Type} (fu : Nat) (c : (Sl S_impl_Backend) × Nat × Nat) (k : Ex → St RT den → Option ρ) (w : Int × (Nat → S_impl_Backend)) (go : (Int × (Nat → S_impl_Backend)) → Option ρ) : Option ρ := F_laws_toBackendS_B0 fu c.1 c.2.1 c.2.2 (fun a0 => k (.exit 0) ⟨[.dead, .dead, .dead, (.os 0 c.2.1), .dead, .dead, .dead, .dead, .dead, .dead, .dead, .dead, .dead, .dead, .dead, .dead, .dead, .dead, .dead, .dead, .dead, .dead, .dead], [(.row .impl_Backend c.2.2 a0)]⟩) w.1 w.2 (fun q0 q1 => go (q0, q1))
def lp_laws_toBackendS (fu : Nat) : Lp RT den ((Sl S_impl_Backend)) := fun b s k => match b with | 0 => handle ps_laws_toBackendS_0 os_laws_toBackendS_0 conv_laws_toBackendS_0 (Bk_laws_toBackendS_0 fu) fu s k | _ => none
theorem ev_laws_toBackendS (fu : Nat) (a_0 : (Sl S_impl_Backend)) : evFun E (pc_laws_toBackendS fu) msk_laws_toBackendS (lp_laws_toBackendS fu) out_sl_impl_Backend 66 [(.rs a_0.z .impl_Backend a_0.n a_0.f)] = F_laws_toBackendS fu a_0 := by kernel_rfl
noncomputable def body_laws_toBackendS : Code := Try.f66.body.getD .skip
noncomputable def lc_laws_toBackendS_0 : Code := ((loops 0 body_laws_toBackendS).getD 0 (0, .skip)).2
theorem round_laws_toBackendS_0 (fu : Nat) (it : St RT den → Option ((Sl S_impl_Backend))) (k : Ex → St RT den → Option ((Sl S_impl_Backend))) c w : evCode E (pc_laws_toBackendS fu) msk_laws_toBackendS (lp_laws_toBackendS fu) 0 lc_laws_toBackendS_0 (back_laws_toBackendS_0 c w) (after (msk_laws_toBackendS 0) (msk_laws_toBackendS 100000) 1 it k) = Bk_laws_toBackendS_0 fu c k w (fun w => it (back_laws_toBackendS_0 c w)) := by kernel_rfl
theorem lpok_laws_toBackendS_0 (fu : Nat) : ∀ s k r, lp_laws_toBackendS fu 0 s k = some r → ∃ fuel, iter (msk_laws_toBackendS 0) (msk_laws_toBackendS 100000) s.objs.length (evCode E (pc_laws_toBackendS fu) msk_laws_toBackendS (lp_laws_toBackendS fu) 0 lc_laws_toBackendS_0) fuel s k = some r :=
  handle_ok (ps := ps_laws_toBackendS_0) (os := os_laws_toBackendS_0) (conv := conv_laws_toBackendS_0) (B := Bk_laws_toBackendS_0 fu) (fu := fu) back_laws_toBackendS_0 (fun raw => by kernel_rfl) 1 (fun c w => by kernel_rfl) (round_laws_toBackendS_0 fu)
theorem lpok_laws_toBackendS (fu : Nat) : LpOk E (pc_laws_toBackendS fu) msk_laws_toBackendS (lp_laws_toBackendS fu) (loops 0 body_laws_toBackendS) := loop_all 1 (by kernel_rfl) fun i hi => match i, hi with
  | 0, _ => by
    have h : (loops 0 body_laws_toBackendS).getD 0 (0, .skip) = (0, lc_laws_toBackendS_0) := by kernel_rfl
    rw [h]; exact lpok_laws_toBackendS_0 fu
  | i + 1, hi => absurd hi (by omega)
def S_laws_toBackendS (fu : Nat) (xs : List (D RT den)) : Option (Out RT den) := match xs with | [.rs za0_0 .impl_Backend na0_0 fa0_0] => some ⟨(Sl S_impl_Backend), F_laws_toBackendS fu (⟨za0_0, na0_0, fa0_0⟩ : (Sl S_impl_Backend)), enc_sl_impl_Backend, fun _ => true⟩ | _ => none
theorem hpc_laws_toBackendS (fu : Nat) : ∀ f xs o, pc_laws_toBackendS fu f xs = some o → ∀ y, o.x = some y → Good E Try.prog f xs (o.g y) := by
  intro f xs o h
  unfold pc_laws_toBackendS at h
  split at h
  · exact good_laws_toBackend fu xs o h
  · cases h
theorem goodv_laws_toBackendS (fu : Nat) (a_0 : (Sl S_impl_Backend)) (y : (Sl S_impl_Backend)) (hy : F_laws_toBackendS fu a_0 = some y) : Good E Try.prog 66 [(.rs a_0.z .impl_Backend a_0.n a_0.f)] (enc_sl_impl_Backend y) :=
  fun_good E_ok (pc_good (hpc_laws_toBackendS fu)) (fn := Try.f66) (c := body_laws_toBackendS) (out := out_sl_impl_Backend) (y := y) (by kernel_rfl) (by kernel_rfl) (by kernel_rfl) (lpok_laws_toBackendS fu) (fun d hd => out_sl_impl_Backend_enc d _ hd) ((ev_laws_toBackendS fu a_0).trans hy)
theorem good_laws_toBackendS (fu : Nat) : ∀ xs o, S_laws_toBackendS fu xs = some o → ∀ y, o.x = some y → Good E Try.prog 66 xs (o.g y) := by
  intro xs o h y hy
  unfold S_laws_toBackendS at h
  split at h
  · rename_i za0_0 na0_0 fa0_0
    cases h
    exact goodv_laws_toBackendS fu (⟨za0_0, na0_0, fa0_0⟩ : (Sl S_impl_Backend)) y hy
  · cases h

/-! laws.toInt64S -/
def F_laws_toInt64S_B0 {ρ : Type} (fu : Nat) (a0_0 : (Sl Int)) (out3_1 : Nat) (on0_3 : Nat) (k0 : (Nat → Int) → Option ρ) (i4_2 : Int) (of0_4 : (Nat → Int)) (go : Int → (Nat → Int) → Option ρ) : Option ρ :=
  (bif (decide (i4_2 < ((a0_0.n : Nat) : Int))) then ((bif (decide (0 ≤ i4_2) && decide ((Int.toNat i4_2) < a0_0.n)) then some () else none : Option Unit).bind fun _ => ((bif (decide (0 ≤ i4_2) &&
    decide ((Int.toNat i4_2) < out3_1)) then some () else none : Option Unit).bind fun _ => (go (IntKind.wrap .i64 (i4_2 + 1)) (fun j => if j = (Int.toNat i4_2) then (a0_0.f (Int.toNat i4_2)) else
    of0_4 j)))) else (k0 of0_4))
def F_laws_toInt64S (fu : Nat) (a_0 : (Sl Int)) : Option ((Sl Int)) :=
  (bif (decide (0 ≤ ((a_0.n : Nat) : Int)) && (decide (((a_0.n : Nat) : Int) = ((a_0.n : Nat) : Int)) && (decide ((8 : Int) * ((a_0.n : Nat) : Int) ≤ 281474976710656) && decide (((a_0.n : Nat) : Int) ≤ 9223372036854775807)))) then
    (L (fun w0 go0 => F_laws_toInt64S_B0 fu a_0 (Int.toNat ((a_0.n : Nat) : Int)) (Int.toNat ((a_0.n : Nat) : Int)) (fun z25 => (some (⟨none, (Int.toNat ((a_0.n : Nat) : Int)), z25⟩ : (Sl Int)))) w0.1 w0.2 (fun q0 q1 =>
    go0 (q0, q1))) fu ((0, (fun _ => 0)) : Int × (Nat → Int))) else none)
def pc_laws_toInt64S (fu : Nat) : Pc RT den := fun f xs => none
def msk_laws_toInt64S (b : Nat) : List Nat := match b with | 0 => [1, 2, 5, 6, 7, 8, 9, 10, 11, 12, 13, 14, 15, 16, 17, 18, 19, 20, 21] | 100000 => [0, 1, 4, 5, 6, 7, 8, 9, 10, 11, 12, 13, 14, 15, 16, 17, 18, 19, 20, 21] | _ => []
def ps_laws_toInt64S_0 : List (Pat RT) := [.flat (.rs .i64), .flat .dead, .flat .dead, .flat (.os 0), .flat (.int .i64), .flat .dead, .flat .dead, .flat .dead, .flat .dead, .flat .dead, .flat .dead, .flat .dead, .flat .dead, .flat .dead, .flat .dead, .flat .dead, .flat .dead, .flat .dead, .flat .dead, .flat .dead, .flat .dead, .flat .dead]
def os_laws_toInt64S_0 : List (OP RT) := [.row .i64]
def conv_laws_toInt64S_0 (r : Raw den ps_laws_toInt64S_0 os_laws_toInt64S_0) : ((Sl Int) × Nat × Nat) × (Int × (Nat → Int)) := ((r.1.1, r.1.2.2.2.1, r.2.1.1), (r.1.2.2.2.2.1, r.2.1.2))
def back_laws_toInt64S_0 (c : (Sl Int) × Nat × Nat) (w : Int × (Nat → Int)) : St RT den := ⟨[(.rs c.1.z .i64 c.1.n c.1.f), .dead, .dead, (.os 0 c.2.1), (.int .i64 w.1), .dead, .dead, .dead, .dead, .dead, .dead, .dead, .dead, .dead, .dead, .dead, .dead, .dead, .dead, .dead, .dead, .dead], [(.row .i64 c.2.2 w.2)]⟩
def Bk_laws_toInt64S_0 {ρ : Type} (fu : Nat) (c : (Sl Int) × Nat × Nat) (k : Ex → St RT den → Option ρ) (w : Int × (Nat → Int)) (go : (Int × (Nat → Int)) → Option ρ) : Option ρ := F_laws_toInt64S_B0 fu c.1 c.2.1 c.2.2 (fun a0 => k (.exit 0) ⟨[.dead, .dead, .dead, (.os 0 c.2.1), .dead, .dead, .dead, .dead, .dead, .dead, .dead, .dead, .dead, .dead, .dead, .dead, .dead, .dead, .dead, .dead, .dead, .dead], [(.row .i64 c.2.2 a0)]⟩) w.1 w.2 (fun q0 q1 => go (q0, q1))
def lp_laws_toInt64S (fu : Nat) : Lp RT den ((Sl Int)) := fun b s k => match b with | 0 => handle ps_laws_toInt64S_0 os_laws_toInt64S_0 conv_laws_toInt64S_0 (Bk_laws_toInt64S_0 fu) fu s k | _ => none
theorem ev_laws_toInt64S (fu : Nat) (a_0 : (Sl Int)) : evFun E (pc_laws_toInt64S fu) msk_laws_toInt64S (lp_laws_toInt64S fu) out_sl_i64 148 [(.rs a_0.z .i64 a_0.n a_0.f)] = F_laws_toInt64S fu a_0 := by kernel_rfl
noncomputable def body_laws_toInt64S : Code := Try.f148.body.getD .skip
noncomputable def lc_laws_toInt64S_0 : Code := ((loops 0 body_laws_toInt64S).getD 0 (0, .skip)).2
theorem round_laws_toInt64S_0 (fu : Nat) (it : St RT den → Option ((Sl Int))) (k : Ex → St RT den → Option ((Sl Int))) c w : evCode E (pc_laws_toInt64S fu) msk_laws_toInt64S (lp_laws_toInt64S fu) 0 lc_laws_toInt64S_0 (back_laws_toInt64S_0 c w) (after (msk_laws_toInt64S 0) (msk_laws_toInt64S 100000) 1 it k) = Bk_laws_toInt64S_0 fu c k w (fun w => it (back_laws_toInt64S_0 c w)) := by kernel_rfl
theorem lpok_laws_toInt64S_0 (fu : Nat) : ∀ s k r, lp_laws_toInt64S fu 0 s k = some r → ∃ fuel, iter (msk_laws_toInt64S 0) (msk_laws_toInt64S 100000) s.objs.length (evCode E (pc_laws_toInt64S fu) msk_laws_toInt64S (lp_laws_toInt64S fu) 0 lc_laws_toInt64S_0) fuel s k = some r :=
  handle_ok (ps := ps_laws_toInt64S_0) (os := os_laws_toInt64S_0) (conv := conv_laws_toInt64S_0) (B := Bk_laws_toInt64S_0 fu) (fu := fu) back_laws_toInt64S_0 (fun raw => by kernel_rfl) 1 (fun c w => by kernel_rfl) (round_laws_toInt64S_0 fu)
theorem lpok_laws_toInt64S (fu : Nat) : LpOk E (pc_laws_toInt64S fu) msk_laws_toInt64S (lp_laws_toInt64S fu) (loops 0 body_laws_toInt64S) := loop_all 1 (by kernel_rfl) fun i hi => match i, hi with
  | 0, _ => by
    have h : (loops 0 body_laws_toInt64S).getD 0 (0, .skip) = (0, lc_laws_toInt64S_0) := by kernel_rfl
    rw [h]; exact lpok_laws_toInt64S_0 fu
  | i + 1, hi => absurd hi (by omega)
def S_laws_toInt64S (fu : Nat) (xs : List (D RT den)) : Option (Out RT den) := match xs with | [.rs za0_0 .i64 na0_0 fa0_0] => some ⟨(Sl Int), F_laws_toInt64S fu (⟨za0_0, na0_0, fa0_0⟩ : (Sl Int)), enc_sl_i64, fun _ => true⟩ | _ => none
theorem hpc_laws_toInt64S (fu : Nat) : ∀ f xs o, pc_laws_toInt64S fu f xs = some o → ∀ y, o.x = some y → Good E Try.prog f xs (o.g y) := by
  intro f xs o h
  cases h
theorem goodv_laws_toInt64S (fu : Nat) (a_0 : (Sl Int)) (y : (Sl Int)) (hy : F_laws_toInt64S fu a_0 = some y) : Good E Try.prog 148 [(.rs a_0.z .i64 a_0.n a_0.f)] (enc_sl_i64 y) :=
  fun_good E_ok (pc_good (hpc_laws_toInt64S fu)) (fn := Try.f148) (c := body_laws_toInt64S) (out := out_sl_i64) (y := y) (by kernel_rfl) (by kernel_rfl) (by kernel_rfl) (lpok_laws_toInt64S fu) (fun d hd => out_sl_i64_enc d _ hd) ((ev_laws_toInt64S fu a_0).trans hy)
theorem good_laws_toInt64S (fu : Nat) : ∀ xs o, S_laws_toInt64S fu xs = some o → ∀ y, o.x = some y → Good E Try.prog 148 xs (o.g y) := by
  intro xs o h y hy
  unfold S_laws_toInt64S at h
  split at h
  · rename_i za0_0 na0_0 fa0_0
    cases h
    exact goodv_laws_toInt64S fu (⟨za0_0, na0_0, fa0_0⟩ : (Sl Int)) y hy
  · cases h

/-! laws.toVip -/
def F_laws_toVip (fu : Nat) (a_0 : S_impl_Vip) : Option (S_impl_Vip) :=
  ((F_laws_toInt64S fu a_0.Names).bind fun y24 => (some (⟨a_0.Address, a_0.Port, a_0.Proto, y24⟩ : S_impl_Vip)))
def pc_laws_toVip (fu : Nat) : Pc RT den := fun f xs => match f with | 148 => S_laws_toInt64S fu xs | _ => none
def msk_laws_toVip (b : Nat) : List Nat := []
def lp_laws_toVip (fu : Nat) : Lp RT den (S_impl_Vip) := fun b s k => none
theorem ev_laws_toVip (fu : Nat) (a_0 : S_impl_Vip) : evFun E (pc_laws_toVip fu) msk_laws_toVip (lp_laws_toVip fu) out_impl_Vip 121 [(.agg [(.int .i64 a_0.Address), (.int .i64 a_0.Port), (.int .i64 a_0.Proto), (.rs a_0.Names.z .i64 a_0.Names.n a_0.Names.f)])] = F_laws_toVip fu a_0 := by kernel_rfl
noncomputable def body_laws_toVip : Code := Try.f121.body.getD .skip
theorem lpok_laws_toVip (fu : Nat) : LpOk E (pc_laws_toVip fu) msk_laws_toVip (lp_laws_toVip fu) (loops 0 body_laws_toVip) := by
  have h : loops 0 body_laws_toVip = [] := by kernel_rfl
  rw [h]; intro p hp; cases hp
def S_laws_toVip (fu : Nat) (xs : List (D RT den)) : Option (Out RT den) := match xs with | [.agg [.int .i64 a0_1, .int .i64 a0_2, .int .i64 a0_3, .rs za0_4 .i64 na0_4 fa0_4]] => some ⟨S_impl_Vip, F_laws_toVip fu (⟨a0_1, a0_2, a0_3, (⟨za0_4, na0_4, fa0_4⟩ : (Sl Int))⟩ : S_impl_Vip), enc_impl_Vip, fun _ => true⟩ | _ => none
theorem hpc_laws_toVip (fu : Nat) : ∀ f xs o, pc_laws_toVip fu f xs = some o → ∀ y, o.x = some y → Good E Try.prog f xs (o.g y) := by
  intro f xs o h
  unfold pc_laws_toVip at h
  split at h
  · exact good_laws_toInt64S fu xs o h
  · cases h
theorem goodv_laws_toVip (fu : Nat) (a_0 : S_impl_Vip) (y : S_impl_Vip) (hy : F_laws_toVip fu a_0 = some y) : Good E Try.prog 121 [(.agg [(.int .i64 a_0.Address), (.int .i64 a_0.Port), (.int .i64 a_0.Proto), (.rs a_0.Names.z .i64 a_0.Names.n a_0.Names.f)])] (enc_impl_Vip y) :=
  fun_good E_ok (pc_good (hpc_laws_toVip fu)) (fn := Try.f121) (c := body_laws_toVip) (out := out_impl_Vip) (y := y) (by kernel_rfl) (by kernel_rfl) (by kernel_rfl) (lpok_laws_toVip fu) (fun d hd => out_impl_Vip_enc d _ hd) ((ev_laws_toVip fu a_0).trans hy)
theorem good_laws_toVip (fu : Nat) : ∀ xs o, S_laws_toVip fu xs = some o → ∀ y, o.x = some y → Good E Try.prog 121 xs (o.g y) := by
  intro xs o h y hy
  unfold S_laws_toVip at h
  split at h
  · rename_i a0_1 a0_2 a0_3 za0_4 na0_4 fa0_4
    cases h
    exact goodv_laws_toVip fu (⟨a0_1, a0_2, a0_3, (⟨za0_4, na0_4, fa0_4⟩ : (Sl Int))⟩ : S_impl_Vip) y hy
  · cases h

/-! laws.toVipS -/
def F_laws_toVipS_B0 {ρ : Type} (fu : Nat) (a0_0 : (Sl S_impl_Vip)) (out3_1 : Nat) (on0_3 : Nat) (k0 : (Nat → S_impl_Vip) → Option ρ) (i4_2 : Int) (of0_4 : (Nat → S_impl_Vip)) (go : Int → (Nat → S_impl_Vip) → Option ρ) : Option ρ :=
  (bif (decide (i4_2 < ((a0_0.n : Nat) : Int))) then ((bif (decide (0 ≤ i4_2) && decide ((Int.toNat i4_2) < a0_0.n)) then some () else none : Option Unit).bind fun _ =>
    ((F_laws_toVip fu (a0_0.f (Int.toNat i4_2))).bind fun y22 => ((bif (decide (0 ≤ i4_2) && decide ((Int.toNat i4_2) < out3_1)) then some () else none : Option Unit).bind fun _ =>
    (go (IntKind.wrap .i64 (i4_2 + 1)) (fun j => if j = (Int.toNat i4_2) then y22 else of0_4 j))))) else (k0 of0_4))
def F_laws_toVipS (fu : Nat) (a_0 : (Sl S_impl_Vip)) : Option ((Sl S_impl_Vip)) :=
  (bif (decide (0 ≤ ((a_0.n : Nat) : Int)) && (decide (((a_0.n : Nat) : Int) = ((a_0.n : Nat) : Int)) && (decide ((48 : Int) * ((a_0.n : Nat) : Int) ≤ 281474976710656) && decide (((a_0.n : Nat) : Int) ≤ 9223372036854775807)))) then
    (L (fun w0 go0 => F_laws_toVipS_B0 fu a_0 (Int.toNat ((a_0.n : Nat) : Int)) (Int.toNat ((a_0.n : Nat) : Int)) (fun z23 => (some (⟨none, (Int.toNat ((a_0.n : Nat) : Int)), z23⟩ : (Sl S_impl_Vip)))) w0.1 w0.2 (fun q0 q1 =>
    go0 (q0, q1))) fu ((0, (fun _ => (⟨0, 0, 0, (⟨(some true), 0, (fun _ => dflt .i64)⟩ : (Sl Int))⟩ : S_impl_Vip))) : Int × (Nat → S_impl_Vip))) else none)
def pc_laws_toVipS (fu : Nat) : Pc RT den := fun f xs => match f with | 121 => S_laws_toVip fu xs | _ => none
def msk_laws_toVipS (b : Nat) : List Nat := match b with | 0 => [1, 2, 5, 6, 7, 8, 9, 10, 11, 12, 13, 14, 15, 16, 17, 18, 19, 20, 21, 22] | 100000 => [0, 1, 4, 5, 6, 7, 8, 9, 10, 11, 12, 13, 14, 15, 16, 17, 18, 19, 20, 21, 22] | _ => []
def ps_laws_toVipS_0 : List (Pat RT) := [.flat (.rs .impl_Vip), .flat .dead, .flat .dead, .flat (.os 0), .flat (.int .i64), .flat .dead, .flat .dead, .flat .dead, .flat .dead, .flat .dead, .flat .dead, .flat .dead, .flat .dead, .flat .dead, .flat .dead, .flat .dead, .flat .dead, .flat .dead, .flat .dead, .flat .dead, .flat .dead, .flat .dead, .flat .dead]
def os_laws_toVipS_0 : List (OP RT) := [.row .impl_Vip]
def conv_laws_toVipS_0 (r : Raw den ps_laws_toVipS_0 os_laws_toVipS_0) : ((Sl S_impl_Vip) × Nat × Nat) × (Int × (Nat → S_impl_Vip)) := ((r.1.1, r.1.2.2.2.1, r.2.1.1), (r.1.2.2.2.2.1, r.2.1.2))
def back_laws_toVipS_0 (c : (Sl S_impl_Vip) × Nat × Nat) (w : Int × (Nat → S_impl_Vip)) : St RT den := ⟨[(.rs c.1.z .impl_Vip c.1.n c.1.f), .dead, .dead, (.os 0 c.2.1), (.int .i64 w.1), .dead, .dead, .dead, .dead, .dead, .dead, .dead, .dead, .dead, .dead, .dead, .dead, .dead, .dead, .dead, .dead, .dead, .dead], [(.row .impl_Vip c.2.2 w.2)]⟩
def Bk_laws_toVipS_0 {ρ : Type} (fu : Nat) (c : (Sl S_impl_Vip) × Nat × Nat) (k : Ex → St RT den → Option ρ) (w : Int × (Nat → S_impl_Vip)) (go : (Int × (Nat → S_impl_Vip)) → Option ρ) : Option ρ := F_laws_toVipS_B0 fu c.1 c.2.1 c.2.2 (fun a0 => k (.exit 0) ⟨[.dead, .dead, .dead, (.os 0 c.2.1), .dead, .dead, .dead, .dead, .dead, .dead, .dead, .dead, .dead, .dead, .dead, .dead, .dead, .dead, .dead, .dead, .dead, .dead, .dead], [(.row .impl_Vip c.2.2 a0)]⟩) w.1 w.2 (fun q0 q1 => go (q0, q1))
def lp_laws_toVipS (fu : Nat) : Lp RT den ((Sl S_impl_Vip)) := fun b s k => match b with | 0 => handle ps_laws_toVipS_0 os_laws_toVipS_0 conv_laws_toVipS_0 (Bk_laws_toVipS_0 fu) fu s k | _ => none
theorem ev_laws_toVipS (fu : Nat) (a_0 : (Sl S_impl_Vip)) : evFun E (pc_laws_toVipS fu) msk_laws_toVipS (lp_laws_toVipS fu) out_sl_impl_Vip 67 [(.rs a_0.z .impl_Vip a_0.n a_0.f)] = F_laws_toVipS fu a_0 := by kernel_rfl
noncomputable def body_laws_toVipS : Code := Try.f67.body.getD .skip
noncomputable def lc_laws_toVipS_0 : Code := ((loops 0 body_laws_toVipS).getD 0 (0, .skip)).2
theorem round_laws_toVipS_0 (fu : Nat) (it : St RT den → Option ((Sl S_impl_Vip))) (k : Ex → St RT den → Option ((Sl S_impl_Vip))) c w : evCode E (pc_laws_toVipS fu) msk_laws_toVipS (lp_laws_toVipS fu) 0 lc_laws_toVipS_0 (back_laws_toVipS_0 c w) (after (msk_laws_toVipS 0) (msk_laws_toVipS 100000) 1 it k) = Bk_laws_toVipS_0 fu c k w (fun w => it (back_laws_toVipS_0 c w)) := by kernel_rfl
theorem lpok_laws_toVipS_0 (fu : Nat) : ∀ s k r, lp_laws_toVipS fu 0 s k = some r → ∃ fuel, iter (msk_laws_toVipS 0) (msk_laws_toVipS 100000) s.objs.length (evCode E (pc_laws_toVipS fu) msk_laws_toVipS (lp_laws_toVipS fu) 0 lc_laws_toVipS_0) fuel s k = some r :=
  handle_ok (ps := ps_laws_toVipS_0) (os := os_laws_toVipS_0) (conv := conv_laws_toVipS_0) (B := Bk_laws_toVipS_0 fu) (fu := fu) back_laws_toVipS_0 (fun raw => by kernel_rfl) 1 (fun c w => by kernel_rfl) (round_laws_toVipS_0 fu)
theorem lpok_laws_toVipS (fu : Nat) : LpOk E (pc_laws_toVipS fu) msk_laws_toVipS (lp_laws_toVipS fu) (loops 0 body_laws_toVipS) := loop_all 1 (by kernel_rfl) fun i hi => match i, hi with
  | 0, _ => by
    have h : (loops 0 body_laws_toVipS).getD 0 (0, .skip) = (0, lc_laws_toVipS_0) := by kernel_rfl
    rw [h]; exact lpok_laws_toVipS_0 fu
  | i + 1, hi => absurd hi (by omega)
def S_laws_toVipS (fu : Nat) (xs : List (D RT den)) : Option (Out RT den) := match xs with | [.rs za0_0 .impl_Vip na0_0 fa0_0] => some ⟨(Sl S_impl_Vip), F_laws_toVipS fu (⟨za0_0, na0_0, fa0_0⟩ : (Sl S_impl_Vip)), enc_sl_impl_Vip, fun _ => true⟩ | _ => none
theorem hpc_laws_toVipS (fu : Nat) : ∀ f xs o, pc_laws_toVipS fu f xs = some o → ∀ y, o.x = some y → Good E Try.prog f xs (o.g y) := by
  intro f xs o h
  unfold pc_laws_toVipS at h
  split at h
  · exact good_laws_toVip fu xs o h
  · cases h
theorem goodv_laws_toVipS (fu : Nat) (a_0 : (Sl S_impl_Vip)) (y : (Sl S_impl_Vip)) (hy : F_laws_toVipS fu a_0 = some y) : Good E Try.prog 67 [(.rs a_0.z .impl_Vip a_0.n a_0.f)] (enc_sl_impl_Vip y) :=
  fun_good E_ok (pc_good (hpc_laws_toVipS fu)) (fn := Try.f67) (c := body_laws_toVipS) (out := out_sl_impl_Vip) (y := y) (by kernel_rfl) (by kernel_rfl) (by kernel_rfl) (lpok_laws_toVipS fu) (fun d hd => out_sl_impl_Vip_enc d _ hd) ((ev_laws_toVipS fu a_0).trans hy)
theorem good_laws_toVipS (fu : Nat) : ∀ xs o, S_laws_toVipS fu xs = some o → ∀ y, o.x = some y → Good E Try.prog 67 xs (o.g y) := by
  intro xs o h y hy
  unfold S_laws_toVipS at h
  split at h
  · rename_i za0_0 na0_0 fa0_0
    cases h
    exact goodv_laws_toVipS fu (⟨za0_0, na0_0, fa0_0⟩ : (Sl S_impl_Vip)) y hy
  · cases h

/-! laws.toConfig -/
def F_laws_toConfig (fu : Nat) (a_0 : S_laws_Config) : Option (S_impl_Config) :=
  ((F_laws_toBackendS fu a_0.Backends).bind fun y18 => ((F_laws_toVipS fu a_0.Vips).bind fun y19 => (some (⟨a_0.Version, y18, y19⟩ : S_impl_Config))))
def pc_laws_toConfig (fu : Nat) : Pc RT den := fun f xs => match f with | 66 => S_laws_toBackendS fu xs | 67 => S_laws_toVipS fu xs | _ => none
def msk_laws_toConfig (b : Nat) : List Nat := []
def lp_laws_toConfig (fu : Nat) : Lp RT den (S_impl_Config) := fun b s k => none
theorem ev_laws_toConfig (fu : Nat) (a_0 : S_laws_Config) : evFun E (pc_laws_toConfig fu) msk_laws_toConfig (lp_laws_toConfig fu) out_impl_Config 24 [(.agg [(.int .i64 a_0.Version), (.rs a_0.Backends.z .impl_Backend a_0.Backends.n a_0.Backends.f), (.rs a_0.Vips.z .impl_Vip a_0.Vips.n a_0.Vips.f)])] = F_laws_toConfig fu a_0 := by kernel_rfl
noncomputable def body_laws_toConfig : Code := Try.f24.body.getD .skip
theorem lpok_laws_toConfig (fu : Nat) : LpOk E (pc_laws_toConfig fu) msk_laws_toConfig (lp_laws_toConfig fu) (loops 0 body_laws_toConfig) := by
  have h : loops 0 body_laws_toConfig = [] := by kernel_rfl
  rw [h]; intro p hp; cases hp
def S_laws_toConfig (fu : Nat) (xs : List (D RT den)) : Option (Out RT den) := match xs with | [.agg [.int .i64 a0_1, .rs za0_2 .impl_Backend na0_2 fa0_2, .rs za0_3 .impl_Vip na0_3 fa0_3]] => some ⟨S_impl_Config, F_laws_toConfig fu (⟨a0_1, (⟨za0_2, na0_2, fa0_2⟩ : (Sl S_impl_Backend)), (⟨za0_3, na0_3, fa0_3⟩ : (Sl S_impl_Vip))⟩ : S_laws_Config), enc_impl_Config, fun _ => true⟩ | _ => none
theorem hpc_laws_toConfig (fu : Nat) : ∀ f xs o, pc_laws_toConfig fu f xs = some o → ∀ y, o.x = some y → Good E Try.prog f xs (o.g y) := by
  intro f xs o h
  unfold pc_laws_toConfig at h
  split at h
  · exact good_laws_toBackendS fu xs o h
  · exact good_laws_toVipS fu xs o h
  · cases h
theorem goodv_laws_toConfig (fu : Nat) (a_0 : S_laws_Config) (y : S_impl_Config) (hy : F_laws_toConfig fu a_0 = some y) : Good E Try.prog 24 [(.agg [(.int .i64 a_0.Version), (.rs a_0.Backends.z .impl_Backend a_0.Backends.n a_0.Backends.f), (.rs a_0.Vips.z .impl_Vip a_0.Vips.n a_0.Vips.f)])] (enc_impl_Config y) :=
  fun_good E_ok (pc_good (hpc_laws_toConfig fu)) (fn := Try.f24) (c := body_laws_toConfig) (out := out_impl_Config) (y := y) (by kernel_rfl) (by kernel_rfl) (by kernel_rfl) (lpok_laws_toConfig fu) (fun d hd => out_impl_Config_enc d _ hd) ((ev_laws_toConfig fu a_0).trans hy)
theorem good_laws_toConfig (fu : Nat) : ∀ xs o, S_laws_toConfig fu xs = some o → ∀ y, o.x = some y → Good E Try.prog 24 xs (o.g y) := by
  intro xs o h y hy
  unfold S_laws_toConfig at h
  split at h
  · rename_i a0_1 za0_2 na0_2 fa0_2 za0_3 na0_3 fa0_3
    cases h
    exact goodv_laws_toConfig fu (⟨a0_1, (⟨za0_2, na0_2, fa0_2⟩ : (Sl S_impl_Backend)), (⟨za0_3, na0_3, fa0_3⟩ : (Sl S_impl_Vip))⟩ : S_laws_Config) y hy
  · cases h

/-! laws.toSession -/
def F_laws_toSession (fu : Nat) (a_0 : S_impl_Session) : Option (S_impl_Session) :=
  (some a_0)
def pc_laws_toSession (fu : Nat) : Pc RT den := fun f xs => none
def msk_laws_toSession (b : Nat) : List Nat := []
def lp_laws_toSession (fu : Nat) : Lp RT den (S_impl_Session) := fun b s k => none
theorem ev_laws_toSession (fu : Nat) (a_0 : S_impl_Session) : evFun E (pc_laws_toSession fu) msk_laws_toSession (lp_laws_toSession fu) out_impl_Session 99 [(.agg [(.int .i64 a_0.Client), (.int .i64 a_0.Seq), (.int .i64 a_0.Code)])] = F_laws_toSession fu a_0 := by kernel_rfl
noncomputable def body_laws_toSession : Code := Try.f99.body.getD .skip
theorem lpok_laws_toSession (fu : Nat) : LpOk E (pc_laws_toSession fu) msk_laws_toSession (lp_laws_toSession fu) (loops 0 body_laws_toSession) := by
  have h : loops 0 body_laws_toSession = [] := by kernel_rfl
  rw [h]; intro p hp; cases hp
def S_laws_toSession (fu : Nat) (xs : List (D RT den)) : Option (Out RT den) := match xs with | [.agg [.int .i64 a0_1, .int .i64 a0_2, .int .i64 a0_3]] => some ⟨S_impl_Session, F_laws_toSession fu (⟨a0_1, a0_2, a0_3⟩ : S_impl_Session), enc_impl_Session, fun _ => true⟩ | _ => none
theorem hpc_laws_toSession (fu : Nat) : ∀ f xs o, pc_laws_toSession fu f xs = some o → ∀ y, o.x = some y → Good E Try.prog f xs (o.g y) := by
  intro f xs o h
  cases h
theorem goodv_laws_toSession (fu : Nat) (a_0 : S_impl_Session) (y : S_impl_Session) (hy : F_laws_toSession fu a_0 = some y) : Good E Try.prog 99 [(.agg [(.int .i64 a_0.Client), (.int .i64 a_0.Seq), (.int .i64 a_0.Code)])] (enc_impl_Session y) :=
  fun_good E_ok (pc_good (hpc_laws_toSession fu)) (fn := Try.f99) (c := body_laws_toSession) (out := out_impl_Session) (y := y) (by kernel_rfl) (by kernel_rfl) (by kernel_rfl) (lpok_laws_toSession fu) (fun d hd => out_impl_Session_enc d _ hd) ((ev_laws_toSession fu a_0).trans hy)
theorem good_laws_toSession (fu : Nat) : ∀ xs o, S_laws_toSession fu xs = some o → ∀ y, o.x = some y → Good E Try.prog 99 xs (o.g y) := by
  intro xs o h y hy
  unfold S_laws_toSession at h
  split at h
  · rename_i a0_1 a0_2 a0_3
    cases h
    exact goodv_laws_toSession fu (⟨a0_1, a0_2, a0_3⟩ : S_impl_Session) y hy
  · cases h

/-! laws.toSessionS -/
def F_laws_toSessionS_B0 {ρ : Type} (fu : Nat) (a0_0 : (Sl S_impl_Session)) (out3_1 : Nat) (on0_3 : Nat) (k0 : (Nat → S_impl_Session) → Option ρ) (i4_2 : Int) (of0_4 : (Nat → S_impl_Session)) (go : Int → (Nat → S_impl_Session) → Option ρ) : Option ρ :=
  (bif (decide (i4_2 < ((a0_0.n : Nat) : Int))) then ((bif (decide (0 ≤ i4_2) && decide ((Int.toNat i4_2) < a0_0.n)) then some () else none : Option Unit).bind fun _ =>
    ((F_laws_toSession fu (a0_0.f (Int.toNat i4_2))).bind fun y26 => ((bif (decide (0 ≤ i4_2) && decide ((Int.toNat i4_2) < out3_1)) then some () else none : Option Unit).bind fun _ =>
    (go (IntKind.wrap .i64 (i4_2 + 1)) (fun j => if j = (Int.toNat i4_2) then y26 else of0_4 j))))) else (k0 of0_4))
def F_laws_toSessionS (fu : Nat) (a_0 : (Sl S_impl_Session)) : Option ((Sl S_impl_Session)) :=
  (bif (decide (0 ≤ ((a_0.n : Nat) : Int)) && (decide (((a_0.n : Nat) : Int) = ((a_0.n : Nat) : Int)) && (decide ((24 : Int) * ((a_0.n : Nat) : Int) ≤ 281474976710656) && decide (((a_0.n : Nat) : Int) ≤ 9223372036854775807)))) then
    (L (fun w0 go0 => F_laws_toSessionS_B0 fu a_0 (Int.toNat ((a_0.n : Nat) : Int)) (Int.toNat ((a_0.n : Nat) : Int)) (fun z27 => (some (⟨none, (Int.toNat ((a_0.n : Nat) : Int)),
    z27⟩ : (Sl S_impl_Session)))) w0.1 w0.2 (fun q0 q1 => go0 (q0, q1))) fu ((0, (fun _ => (⟨0, 0, 0⟩ : S_impl_Session))) : Int × (Nat → S_impl_Session))) else none)
def pc_laws_toSessionS (fu : Nat) : Pc RT den := fun f xs => match f with | 99 => S_laws_toSession fu xs | _ => none
def msk_laws_toSessionS (b : Nat) : List Nat := match b with | 0 => [1, 2, 5, 6, 7, 8, 9, 10, 11, 12, 13, 14, 15, 16, 17, 18, 19, 20, 21, 22] | 100000 => [0, 1, 4, 5, 6, 7, 8, 9, 10, 11, 12, 13, 14, 15, 16, 17, 18, 19, 20, 21, 22] | _ => []
def ps_laws_toSessionS_0 : List (Pat RT) := [.flat (.rs .impl_Session), .flat .dead, .flat .dead, .flat (.os 0), .flat (.int .i64), .flat .dead, .flat .dead, .flat .dead, .flat .dead, .flat .dead, .flat .dead, .flat .dead, .flat .dead, .flat .dead, .flat .dead, .flat .dead, .flat .dead, .flat .dead, .flat .dead, .flat .dead, .flat .dead, .flat .dead, .flat .dead]
def os_laws_toSessionS_0 : List (OP RT) := [.row .impl_Session]
def conv_laws_toSessionS_0 (r : Raw den ps_laws_toSessionS_0 os_laws_toSessionS_0) : ((Sl S_impl_Session) × Nat × Nat) × (Int × (Nat → S_impl_Session)) := ((r.1.1, r.1.2.2.2.1, r.2.1.1), (r.1.2.2.2.2.1, r.2.1.2))
def back_laws_toSessionS_0 (c : (Sl S_impl_Session) × Nat × Nat) (w : Int × (Nat → S_impl_Session)) : St RT den := ⟨[(.rs c.1.z .impl_Session c.1.n c.1.f), .dead, .dead, (.os 0 c.2.1), (.int .i64 w.1), .dead, .dead, .dead, .dead, .dead, .dead, .dead, .dead, .dead, .dead, .dead, .dead, .dead, .dead, .dead, .dead, .dead, .dead], [(.row .impl_Session c.2.2 w.2)]⟩
def Bk_laws_toSessionS_0 {ρ : Type} (fu : Nat) (c : (Sl S_impl_Session) × Nat × Nat) (k : Ex → St RT den → Option ρ) (w : Int × (Nat → S_impl_Session)) (go : (Int × (Nat → S_impl_Session)) → Option ρ) : Option ρ := F_laws_toSessionS_B0 fu c.1 c.2.1 c.2.2 (fun a0 => k (.exit 0) ⟨[.dead, .dead, .dead, (.os 0 c.2.1), .dead, .dead, .dead, .dead, .dead, .dead, .dead, .dead, .dead, .dead, .dead, .dead, .dead, .dead, .dead, .dead, .dead, .dead, .dead], [(.row .impl_Session c.2.2 a0)]⟩) w.1 w.2 (fun q0 q1 => go (q0, q1))
def lp_laws_toSessionS (fu : Nat) : Lp RT den ((Sl S_impl_Session)) := fun b s k => match b with | 0 => handle ps_laws_toSessionS_0 os_laws_toSessionS_0 conv_laws_toSessionS_0 (Bk_laws_toSessionS_0 fu) fu s k | _ => none
theorem ev_laws_toSessionS (fu : Nat) (a_0 : (Sl S_impl_Session)) : evFun E (pc_laws_toSessionS fu) msk_laws_toSessionS (lp_laws_toSessionS fu) out_sl_impl_Session 46 [(.rs a_0.z .impl_Session a_0.n a_0.f)] = F_laws_toSessionS fu a_0 := by kernel_rfl
noncomputable def body_laws_toSessionS : Code := Try.f46.body.getD .skip
noncomputable def lc_laws_toSessionS_0 : Code := ((loops 0 body_laws_toSessionS).getD 0 (0, .skip)).2
theorem round_laws_toSessionS_0 (fu : Nat) (it : St RT den → Option ((Sl S_impl_Session))) (k : Ex → St RT den → Option ((Sl S_impl_Session))) c w : evCode E (pc_laws_toSessionS fu) msk_laws_toSessionS (lp_laws_toSessionS fu) 0 lc_laws_toSessionS_0 (back_laws_toSessionS_0 c w) (after (msk_laws_toSessionS 0) (msk_laws_toSessionS 100000) 1 it k) = Bk_laws_toSessionS_0 fu c k w (fun w => it (back_laws_toSessionS_0 c w)) := by kernel_rfl
theorem lpok_laws_toSessionS_0 (fu : Nat) : ∀ s k r, lp_laws_toSessionS fu 0 s k = some r → ∃ fuel, iter (msk_laws_toSessionS 0) (msk_laws_toSessionS 100000) s.objs.length (evCode E (pc_laws_toSessionS fu) msk_laws_toSessionS (lp_laws_toSessionS fu) 0 lc_laws_toSessionS_0) fuel s k = some r :=
  handle_ok (ps := ps_laws_toSessionS_0) (os := os_laws_toSessionS_0) (conv := conv_laws_toSessionS_0) (B := Bk_laws_toSessionS_0 fu) (fu := fu) back_laws_toSessionS_0 (fun raw => by kernel_rfl) 1 (fun c w => by kernel_rfl) (round_laws_toSessionS_0 fu)
theorem lpok_laws_toSessionS (fu : Nat) : LpOk E (pc_laws_toSessionS fu) msk_laws_toSessionS (lp_laws_toSessionS fu) (loops 0 body_laws_toSessionS) := loop_all 1 (by kernel_rfl) fun i hi => match i, hi with
  | 0, _ => by
    have h : (loops 0 body_laws_toSessionS).getD 0 (0, .skip) = (0, lc_laws_toSessionS_0) := by kernel_rfl
    rw [h]; exact lpok_laws_toSessionS_0 fu
  | i + 1, hi => absurd hi (by omega)
def S_laws_toSessionS (fu : Nat) (xs : List (D RT den)) : Option (Out RT den) := match xs with | [.rs za0_0 .impl_Session na0_0 fa0_0] => some ⟨(Sl S_impl_Session), F_laws_toSessionS fu (⟨za0_0, na0_0, fa0_0⟩ : (Sl S_impl_Session)), enc_sl_impl_Session, fun _ => true⟩ | _ => none
theorem hpc_laws_toSessionS (fu : Nat) : ∀ f xs o, pc_laws_toSessionS fu f xs = some o → ∀ y, o.x = some y → Good E Try.prog f xs (o.g y) := by
  intro f xs o h
  unfold pc_laws_toSessionS at h
  split at h
  · exact good_laws_toSession fu xs o h
  · cases h
theorem goodv_laws_toSessionS (fu : Nat) (a_0 : (Sl S_impl_Session)) (y : (Sl S_impl_Session)) (hy : F_laws_toSessionS fu a_0 = some y) : Good E Try.prog 46 [(.rs a_0.z .impl_Session a_0.n a_0.f)] (enc_sl_impl_Session y) :=
  fun_good E_ok (pc_good (hpc_laws_toSessionS fu)) (fn := Try.f46) (c := body_laws_toSessionS) (out := out_sl_impl_Session) (y := y) (by kernel_rfl) (by kernel_rfl) (by kernel_rfl) (lpok_laws_toSessionS fu) (fun d hd => out_sl_impl_Session_enc d _ hd) ((ev_laws_toSessionS fu a_0).trans hy)
theorem good_laws_toSessionS (fu : Nat) : ∀ xs o, S_laws_toSessionS fu xs = some o → ∀ y, o.x = some y → Good E Try.prog 46 xs (o.g y) := by
  intro xs o h y hy
  unfold S_laws_toSessionS at h
  split at h
  · rename_i za0_0 na0_0 fa0_0
    cases h
    exact goodv_laws_toSessionS fu (⟨za0_0, na0_0, fa0_0⟩ : (Sl S_impl_Session)) y hy
  · cases h

/-! laws.toMachine -/
def F_laws_toMachine (fu : Nat) (a_0 : S_laws_Machine) : Option (S_impl_Machine) :=
  ((F_laws_toConfig fu a_0.Config).bind fun y16 => ((F_laws_toSessionS fu a_0.Sessions).bind fun y17 => (some (⟨y16, y17⟩ : S_impl_Machine))))
def pc_laws_toMachine (fu : Nat) : Pc RT den := fun f xs => match f with | 24 => S_laws_toConfig fu xs | 46 => S_laws_toSessionS fu xs | _ => none
def msk_laws_toMachine (b : Nat) : List Nat := []
def lp_laws_toMachine (fu : Nat) : Lp RT den (S_impl_Machine) := fun b s k => none
theorem ev_laws_toMachine (fu : Nat) (a_0 : S_laws_Machine) : evFun E (pc_laws_toMachine fu) msk_laws_toMachine (lp_laws_toMachine fu) out_impl_Machine 11 [(.agg [(.int .i64 a_0.Config.Version), (.rs a_0.Config.Backends.z .impl_Backend a_0.Config.Backends.n a_0.Config.Backends.f), (.rs a_0.Config.Vips.z .impl_Vip a_0.Config.Vips.n a_0.Config.Vips.f), (.rs a_0.Sessions.z .impl_Session a_0.Sessions.n a_0.Sessions.f)])] = F_laws_toMachine fu a_0 := by kernel_rfl
noncomputable def body_laws_toMachine : Code := Try.f11.body.getD .skip
theorem lpok_laws_toMachine (fu : Nat) : LpOk E (pc_laws_toMachine fu) msk_laws_toMachine (lp_laws_toMachine fu) (loops 0 body_laws_toMachine) := by
  have h : loops 0 body_laws_toMachine = [] := by kernel_rfl
  rw [h]; intro p hp; cases hp
def S_laws_toMachine (fu : Nat) (xs : List (D RT den)) : Option (Out RT den) := match xs with | [.agg [.int .i64 a0_2, .rs za0_3 .impl_Backend na0_3 fa0_3, .rs za0_4 .impl_Vip na0_4 fa0_4, .rs za0_5 .impl_Session na0_5 fa0_5]] => some ⟨S_impl_Machine, F_laws_toMachine fu (⟨(⟨a0_2, (⟨za0_3, na0_3, fa0_3⟩ : (Sl S_impl_Backend)), (⟨za0_4, na0_4, fa0_4⟩ : (Sl S_impl_Vip))⟩ : S_laws_Config), (⟨za0_5, na0_5, fa0_5⟩ : (Sl S_impl_Session))⟩ : S_laws_Machine), enc_impl_Machine, fun _ => true⟩ | _ => none
theorem hpc_laws_toMachine (fu : Nat) : ∀ f xs o, pc_laws_toMachine fu f xs = some o → ∀ y, o.x = some y → Good E Try.prog f xs (o.g y) := by
  intro f xs o h
  unfold pc_laws_toMachine at h
  split at h
  · exact good_laws_toConfig fu xs o h
  · exact good_laws_toSessionS fu xs o h
  · cases h
theorem goodv_laws_toMachine (fu : Nat) (a_0 : S_laws_Machine) (y : S_impl_Machine) (hy : F_laws_toMachine fu a_0 = some y) : Good E Try.prog 11 [(.agg [(.int .i64 a_0.Config.Version), (.rs a_0.Config.Backends.z .impl_Backend a_0.Config.Backends.n a_0.Config.Backends.f), (.rs a_0.Config.Vips.z .impl_Vip a_0.Config.Vips.n a_0.Config.Vips.f), (.rs a_0.Sessions.z .impl_Session a_0.Sessions.n a_0.Sessions.f)])] (enc_impl_Machine y) :=
  fun_good E_ok (pc_good (hpc_laws_toMachine fu)) (fn := Try.f11) (c := body_laws_toMachine) (out := out_impl_Machine) (y := y) (by kernel_rfl) (by kernel_rfl) (by kernel_rfl) (lpok_laws_toMachine fu) (fun d hd => out_impl_Machine_enc d _ hd) ((ev_laws_toMachine fu a_0).trans hy)
theorem good_laws_toMachine (fu : Nat) : ∀ xs o, S_laws_toMachine fu xs = some o → ∀ y, o.x = some y → Good E Try.prog 11 xs (o.g y) := by
  intro xs o h y hy
  unfold S_laws_toMachine at h
  split at h
  · rename_i a0_2 za0_3 na0_3 fa0_3 za0_4 na0_4 fa0_4 za0_5 na0_5 fa0_5
    cases h
    exact goodv_laws_toMachine fu (⟨(⟨a0_2, (⟨za0_3, na0_3, fa0_3⟩ : (Sl S_impl_Backend)), (⟨za0_4, na0_4, fa0_4⟩ : (Sl S_impl_Vip))⟩ : S_laws_Config), (⟨za0_5, na0_5, fa0_5⟩ : (Sl S_impl_Session))⟩ : S_laws_Machine) y hy
  · cases h

/-! spec.l1In -/
def F_spec_l1In (fu : Nat) (v_0 : Int) (low_1 : Int) (high_2 : Int) : Option (Bool) :=
  (((bif (decide (v_0 ≥ low_1)) then (some (decide (v_0 ≤ high_2))) else (some false)) : Option Bool).bind fun m48 => (some m48))
def pc_spec_l1In (fu : Nat) : Pc RT den := fun f xs => none
def msk_spec_l1In (b : Nat) : List Nat := match b with | 200001 => [6] | _ => []
def lp_spec_l1In (fu : Nat) : Lp RT den (Bool) := fun b s k => none
theorem ev_spec_l1In (fu : Nat) (v_0 : Int) (low_1 : Int) (high_2 : Int) : evFun E (pc_spec_l1In fu) msk_spec_l1In (lp_spec_l1In fu) out_bo 76 [(.int .i64 v_0), (.int .i64 low_1), (.int .i64 high_2)] = F_spec_l1In fu v_0 low_1 high_2 := by kernel_rfl
noncomputable def body_spec_l1In : Code := Try.f76.body.getD .skip
theorem lpok_spec_l1In (fu : Nat) : LpOk E (pc_spec_l1In fu) msk_spec_l1In (lp_spec_l1In fu) (loops 0 body_spec_l1In) := by
  have h : loops 0 body_spec_l1In = [] := by kernel_rfl
  rw [h]; intro p hp; cases hp
def S_spec_l1In (fu : Nat) (xs : List (D RT den)) : Option (Out RT den) := match xs with | [.int .i64 a0_0, .int .i64 a1_0, .int .i64 a2_0] => some ⟨Bool, F_spec_l1In fu a0_0 a1_0 a2_0, enc_bo, fun _ => true⟩ | _ => none
theorem hpc_spec_l1In (fu : Nat) : ∀ f xs o, pc_spec_l1In fu f xs = some o → ∀ y, o.x = some y → Good E Try.prog f xs (o.g y) := by
  intro f xs o h
  cases h
theorem goodv_spec_l1In (fu : Nat) (v_0 : Int) (low_1 : Int) (high_2 : Int) (y : Bool) (hy : F_spec_l1In fu v_0 low_1 high_2 = some y) : Good E Try.prog 76 [(.int .i64 v_0), (.int .i64 low_1), (.int .i64 high_2)] (enc_bo y) :=
  fun_good E_ok (pc_good (hpc_spec_l1In fu)) (fn := Try.f76) (c := body_spec_l1In) (out := out_bo) (y := y) (by kernel_rfl) (by kernel_rfl) (by kernel_rfl) (lpok_spec_l1In fu) (fun d hd => out_bo_enc d _ hd) ((ev_spec_l1In fu v_0 low_1 high_2).trans hy)
theorem good_spec_l1In (fu : Nat) : ∀ xs o, S_spec_l1In fu xs = some o → ∀ y, o.x = some y → Good E Try.prog 76 xs (o.g y) := by
  intro xs o h y hy
  unfold S_spec_l1In at h
  split at h
  · rename_i a0_0 a1_0 a2_0
    cases h
    exact goodv_spec_l1In fu a0_0 a1_0 a2_0 y hy
  · cases h

/-! spec.l5Version -/
def F_spec_l5Version (fu : Nat) (v_0 : Int) : Option (Bool) :=
  ((F_spec_l1In fu v_0 0 1000000).bind fun y47 => (some y47))
def pc_spec_l5Version (fu : Nat) : Pc RT den := fun f xs => match f with | 76 => S_spec_l1In fu xs | _ => none
def msk_spec_l5Version (b : Nat) : List Nat := []
def lp_spec_l5Version (fu : Nat) : Lp RT den (Bool) := fun b s k => none
theorem ev_spec_l5Version (fu : Nat) (v_0 : Int) : evFun E (pc_spec_l5Version fu) msk_spec_l5Version (lp_spec_l5Version fu) out_bo 54 [(.int .i64 v_0)] = F_spec_l5Version fu v_0 := by kernel_rfl
noncomputable def body_spec_l5Version : Code := Try.f54.body.getD .skip
theorem lpok_spec_l5Version (fu : Nat) : LpOk E (pc_spec_l5Version fu) msk_spec_l5Version (lp_spec_l5Version fu) (loops 0 body_spec_l5Version) := by
  have h : loops 0 body_spec_l5Version = [] := by kernel_rfl
  rw [h]; intro p hp; cases hp
def S_spec_l5Version (fu : Nat) (xs : List (D RT den)) : Option (Out RT den) := match xs with | [.int .i64 a0_0] => some ⟨Bool, F_spec_l5Version fu a0_0, enc_bo, fun _ => true⟩ | _ => none
theorem hpc_spec_l5Version (fu : Nat) : ∀ f xs o, pc_spec_l5Version fu f xs = some o → ∀ y, o.x = some y → Good E Try.prog f xs (o.g y) := by
  intro f xs o h
  unfold pc_spec_l5Version at h
  split at h
  · exact good_spec_l1In fu xs o h
  · cases h
theorem goodv_spec_l5Version (fu : Nat) (v_0 : Int) (y : Bool) (hy : F_spec_l5Version fu v_0 = some y) : Good E Try.prog 54 [(.int .i64 v_0)] (enc_bo y) :=
  fun_good E_ok (pc_good (hpc_spec_l5Version fu)) (fn := Try.f54) (c := body_spec_l5Version) (out := out_bo) (y := y) (by kernel_rfl) (by kernel_rfl) (by kernel_rfl) (lpok_spec_l5Version fu) (fun d hd => out_bo_enc d _ hd) ((ev_spec_l5Version fu v_0).trans hy)
theorem good_spec_l5Version (fu : Nat) : ∀ xs o, S_spec_l5Version fu xs = some o → ∀ y, o.x = some y → Good E Try.prog 54 xs (o.g y) := by
  intro xs o h y hy
  unfold S_spec_l5Version at h
  split at h
  · rename_i a0_0
    cases h
    exact goodv_spec_l5Version fu a0_0 y hy
  · cases h

/-! spec.l3Name -/
def F_spec_l3Name (fu : Nat) (name_0 : Int) : Option (Bool) :=
  ((F_spec_l1In fu name_0 1 999).bind fun y54 => (some y54))
def pc_spec_l3Name (fu : Nat) : Pc RT den := fun f xs => match f with | 76 => S_spec_l1In fu xs | _ => none
def msk_spec_l3Name (b : Nat) : List Nat := []
def lp_spec_l3Name (fu : Nat) : Lp RT den (Bool) := fun b s k => none
theorem ev_spec_l3Name (fu : Nat) (name_0 : Int) : evFun E (pc_spec_l3Name fu) msk_spec_l3Name (lp_spec_l3Name fu) out_bo 112 [(.int .i64 name_0)] = F_spec_l3Name fu name_0 := by kernel_rfl
noncomputable def body_spec_l3Name : Code := Try.f112.body.getD .skip
theorem lpok_spec_l3Name (fu : Nat) : LpOk E (pc_spec_l3Name fu) msk_spec_l3Name (lp_spec_l3Name fu) (loops 0 body_spec_l3Name) := by
  have h : loops 0 body_spec_l3Name = [] := by kernel_rfl
  rw [h]; intro p hp; cases hp
def S_spec_l3Name (fu : Nat) (xs : List (D RT den)) : Option (Out RT den) := match xs with | [.int .i64 a0_0] => some ⟨Bool, F_spec_l3Name fu a0_0, enc_bo, fun _ => true⟩ | _ => none
theorem hpc_spec_l3Name (fu : Nat) : ∀ f xs o, pc_spec_l3Name fu f xs = some o → ∀ y, o.x = some y → Good E Try.prog f xs (o.g y) := by
  intro f xs o h
  unfold pc_spec_l3Name at h
  split at h
  · exact good_spec_l1In fu xs o h
  · cases h
theorem goodv_spec_l3Name (fu : Nat) (name_0 : Int) (y : Bool) (hy : F_spec_l3Name fu name_0 = some y) : Good E Try.prog 112 [(.int .i64 name_0)] (enc_bo y) :=
  fun_good E_ok (pc_good (hpc_spec_l3Name fu)) (fn := Try.f112) (c := body_spec_l3Name) (out := out_bo) (y := y) (by kernel_rfl) (by kernel_rfl) (by kernel_rfl) (lpok_spec_l3Name fu) (fun d hd => out_bo_enc d _ hd) ((ev_spec_l3Name fu name_0).trans hy)
theorem good_spec_l3Name (fu : Nat) : ∀ xs o, S_spec_l3Name fu xs = some o → ∀ y, o.x = some y → Good E Try.prog 112 xs (o.g y) := by
  intro xs o h y hy
  unfold S_spec_l3Name at h
  split at h
  · rename_i a0_0
    cases h
    exact goodv_spec_l3Name fu a0_0 y hy
  · cases h

/-! spec.l2Address -/
def F_spec_l2Address (fu : Nat) (a_0 : Int) : Option (Bool) :=
  ((F_spec_l1In fu a_0 0 4294967295).bind fun y55 => (some y55))
def pc_spec_l2Address (fu : Nat) : Pc RT den := fun f xs => match f with | 76 => S_spec_l1In fu xs | _ => none
def msk_spec_l2Address (b : Nat) : List Nat := []
def lp_spec_l2Address (fu : Nat) : Lp RT den (Bool) := fun b s k => none
theorem ev_spec_l2Address (fu : Nat) (a_0 : Int) : evFun E (pc_spec_l2Address fu) msk_spec_l2Address (lp_spec_l2Address fu) out_bo 113 [(.int .i64 a_0)] = F_spec_l2Address fu a_0 := by kernel_rfl
noncomputable def body_spec_l2Address : Code := Try.f113.body.getD .skip
theorem lpok_spec_l2Address (fu : Nat) : LpOk E (pc_spec_l2Address fu) msk_spec_l2Address (lp_spec_l2Address fu) (loops 0 body_spec_l2Address) := by
  have h : loops 0 body_spec_l2Address = [] := by kernel_rfl
  rw [h]; intro p hp; cases hp
def S_spec_l2Address (fu : Nat) (xs : List (D RT den)) : Option (Out RT den) := match xs with | [.int .i64 a0_0] => some ⟨Bool, F_spec_l2Address fu a0_0, enc_bo, fun _ => true⟩ | _ => none
theorem hpc_spec_l2Address (fu : Nat) : ∀ f xs o, pc_spec_l2Address fu f xs = some o → ∀ y, o.x = some y → Good E Try.prog f xs (o.g y) := by
  intro f xs o h
  unfold pc_spec_l2Address at h
  split at h
  · exact good_spec_l1In fu xs o h
  · cases h
theorem goodv_spec_l2Address (fu : Nat) (a_0 : Int) (y : Bool) (hy : F_spec_l2Address fu a_0 = some y) : Good E Try.prog 113 [(.int .i64 a_0)] (enc_bo y) :=
  fun_good E_ok (pc_good (hpc_spec_l2Address fu)) (fn := Try.f113) (c := body_spec_l2Address) (out := out_bo) (y := y) (by kernel_rfl) (by kernel_rfl) (by kernel_rfl) (lpok_spec_l2Address fu) (fun d hd => out_bo_enc d _ hd) ((ev_spec_l2Address fu a_0).trans hy)
theorem good_spec_l2Address (fu : Nat) : ∀ xs o, S_spec_l2Address fu xs = some o → ∀ y, o.x = some y → Good E Try.prog 113 xs (o.g y) := by
  intro xs o h y hy
  unfold S_spec_l2Address at h
  split at h
  · rename_i a0_0
    cases h
    exact goodv_spec_l2Address fu a0_0 y hy
  · cases h

/-! spec.l5Backend -/
def F_spec_l5Backend (fu : Nat) (b_0 : S_impl_Backend) : Option (Bool) :=
  ((((F_spec_l3Name fu b_0.Name).bind fun y49 => (bif y49 then ((F_spec_l2Address fu b_0.Address).bind fun y50 => (bif y50 then ((F_spec_l1In fu b_0.Weight 0 9).bind fun y51 => (bif y51 then
    ((F_spec_l1In fu b_0.Stage 1 3).bind fun y52 => (some y52)) else (some false))) else (some false))) else (some false))) : Option Bool).bind fun m53 => (some m53))
def pc_spec_l5Backend (fu : Nat) : Pc RT den := fun f xs => match f with | 76 => S_spec_l1In fu xs | 112 => S_spec_l3Name fu xs | 113 => S_spec_l2Address fu xs | _ => none
def msk_spec_l5Backend (b : Nat) : List Nat := match b with | 200001 => [2] | _ => []
def lp_spec_l5Backend (fu : Nat) : Lp RT den (Bool) := fun b s k => none
theorem ev_spec_l5Backend (fu : Nat) (b_0 : S_impl_Backend) : evFun E (pc_spec_l5Backend fu) msk_spec_l5Backend (lp_spec_l5Backend fu) out_bo 109 [(.agg [(.int .i64 b_0.Name), (.int .i64 b_0.Address), (.int .i64 b_0.Weight), (.int .i64 b_0.Stage), (.bool b_0.Up)])] = F_spec_l5Backend fu b_0 := by kernel_rfl
noncomputable def body_spec_l5Backend : Code := Try.f109.body.getD .skip
theorem lpok_spec_l5Backend (fu : Nat) : LpOk E (pc_spec_l5Backend fu) msk_spec_l5Backend (lp_spec_l5Backend fu) (loops 0 body_spec_l5Backend) := by
  have h : loops 0 body_spec_l5Backend = [] := by kernel_rfl
  rw [h]; intro p hp; cases hp
def S_spec_l5Backend (fu : Nat) (xs : List (D RT den)) : Option (Out RT den) := match xs with | [.agg [.int .i64 a0_1, .int .i64 a0_2, .int .i64 a0_3, .int .i64 a0_4, .bool a0_5]] => some ⟨Bool, F_spec_l5Backend fu (⟨a0_1, a0_2, a0_3, a0_4, a0_5⟩ : S_impl_Backend), enc_bo, fun _ => true⟩ | _ => none
theorem hpc_spec_l5Backend (fu : Nat) : ∀ f xs o, pc_spec_l5Backend fu f xs = some o → ∀ y, o.x = some y → Good E Try.prog f xs (o.g y) := by
  intro f xs o h
  unfold pc_spec_l5Backend at h
  split at h
  · exact good_spec_l1In fu xs o h
  · exact good_spec_l3Name fu xs o h
  · exact good_spec_l2Address fu xs o h
  · cases h
theorem goodv_spec_l5Backend (fu : Nat) (b_0 : S_impl_Backend) (y : Bool) (hy : F_spec_l5Backend fu b_0 = some y) : Good E Try.prog 109 [(.agg [(.int .i64 b_0.Name), (.int .i64 b_0.Address), (.int .i64 b_0.Weight), (.int .i64 b_0.Stage), (.bool b_0.Up)])] (enc_bo y) :=
  fun_good E_ok (pc_good (hpc_spec_l5Backend fu)) (fn := Try.f109) (c := body_spec_l5Backend) (out := out_bo) (y := y) (by kernel_rfl) (by kernel_rfl) (by kernel_rfl) (lpok_spec_l5Backend fu) (fun d hd => out_bo_enc d _ hd) ((ev_spec_l5Backend fu b_0).trans hy)
theorem good_spec_l5Backend (fu : Nat) : ∀ xs o, S_spec_l5Backend fu xs = some o → ∀ y, o.x = some y → Good E Try.prog 109 xs (o.g y) := by
  intro xs o h y hy
  unfold S_spec_l5Backend at h
  split at h
  · rename_i a0_1 a0_2 a0_3 a0_4 a0_5
    cases h
    exact goodv_spec_l5Backend fu (⟨a0_1, a0_2, a0_3, a0_4, a0_5⟩ : S_impl_Backend) y hy
  · cases h

/-! spec.l2Port -/
def F_spec_l2Port (fu : Nat) (p_0 : Int) : Option (Bool) :=
  ((F_spec_l1In fu p_0 0 65535).bind fun y63 => (some y63))
def pc_spec_l2Port (fu : Nat) : Pc RT den := fun f xs => match f with | 76 => S_spec_l1In fu xs | _ => none
def msk_spec_l2Port (b : Nat) : List Nat := []
def lp_spec_l2Port (fu : Nat) : Lp RT den (Bool) := fun b s k => none
theorem ev_spec_l2Port (fu : Nat) (p_0 : Int) : evFun E (pc_spec_l2Port fu) msk_spec_l2Port (lp_spec_l2Port fu) out_bo 143 [(.int .i64 p_0)] = F_spec_l2Port fu p_0 := by kernel_rfl
noncomputable def body_spec_l2Port : Code := Try.f143.body.getD .skip
theorem lpok_spec_l2Port (fu : Nat) : LpOk E (pc_spec_l2Port fu) msk_spec_l2Port (lp_spec_l2Port fu) (loops 0 body_spec_l2Port) := by
  have h : loops 0 body_spec_l2Port = [] := by kernel_rfl
  rw [h]; intro p hp; cases hp
def S_spec_l2Port (fu : Nat) (xs : List (D RT den)) : Option (Out RT den) := match xs with | [.int .i64 a0_0] => some ⟨Bool, F_spec_l2Port fu a0_0, enc_bo, fun _ => true⟩ | _ => none
theorem hpc_spec_l2Port (fu : Nat) : ∀ f xs o, pc_spec_l2Port fu f xs = some o → ∀ y, o.x = some y → Good E Try.prog f xs (o.g y) := by
  intro f xs o h
  unfold pc_spec_l2Port at h
  split at h
  · exact good_spec_l1In fu xs o h
  · cases h
theorem goodv_spec_l2Port (fu : Nat) (p_0 : Int) (y : Bool) (hy : F_spec_l2Port fu p_0 = some y) : Good E Try.prog 143 [(.int .i64 p_0)] (enc_bo y) :=
  fun_good E_ok (pc_good (hpc_spec_l2Port fu)) (fn := Try.f143) (c := body_spec_l2Port) (out := out_bo) (y := y) (by kernel_rfl) (by kernel_rfl) (by kernel_rfl) (lpok_spec_l2Port fu) (fun d hd => out_bo_enc d _ hd) ((ev_spec_l2Port fu p_0).trans hy)
theorem good_spec_l2Port (fu : Nat) : ∀ xs o, S_spec_l2Port fu xs = some o → ∀ y, o.x = some y → Good E Try.prog 143 xs (o.g y) := by
  intro xs o h y hy
  unfold S_spec_l2Port at h
  split at h
  · rename_i a0_0
    cases h
    exact goodv_spec_l2Port fu a0_0 y hy
  · cases h

/-! spec.l5Proto -/
def F_spec_l5Proto (fu : Nat) (p_0 : Int) : Option (Bool) :=
  (((bif (p_0 == 6) then (some true) else (some (p_0 == 17))) : Option Bool).bind fun m64 => (some m64))
def pc_spec_l5Proto (fu : Nat) : Pc RT den := fun f xs => none
def msk_spec_l5Proto (b : Nat) : List Nat := match b with | 200001 => [2] | _ => []
def lp_spec_l5Proto (fu : Nat) : Lp RT den (Bool) := fun b s k => none
theorem ev_spec_l5Proto (fu : Nat) (p_0 : Int) : evFun E (pc_spec_l5Proto fu) msk_spec_l5Proto (lp_spec_l5Proto fu) out_bo 115 [(.int .i64 p_0)] = F_spec_l5Proto fu p_0 := by kernel_rfl
noncomputable def body_spec_l5Proto : Code := Try.f115.body.getD .skip
theorem lpok_spec_l5Proto (fu : Nat) : LpOk E (pc_spec_l5Proto fu) msk_spec_l5Proto (lp_spec_l5Proto fu) (loops 0 body_spec_l5Proto) := by
  have h : loops 0 body_spec_l5Proto = [] := by kernel_rfl
  rw [h]; intro p hp; cases hp
def S_spec_l5Proto (fu : Nat) (xs : List (D RT den)) : Option (Out RT den) := match xs with | [.int .i64 a0_0] => some ⟨Bool, F_spec_l5Proto fu a0_0, enc_bo, fun _ => true⟩ | _ => none
theorem hpc_spec_l5Proto (fu : Nat) : ∀ f xs o, pc_spec_l5Proto fu f xs = some o → ∀ y, o.x = some y → Good E Try.prog f xs (o.g y) := by
  intro f xs o h
  cases h
theorem goodv_spec_l5Proto (fu : Nat) (p_0 : Int) (y : Bool) (hy : F_spec_l5Proto fu p_0 = some y) : Good E Try.prog 115 [(.int .i64 p_0)] (enc_bo y) :=
  fun_good E_ok (pc_good (hpc_spec_l5Proto fu)) (fn := Try.f115) (c := body_spec_l5Proto) (out := out_bo) (y := y) (by kernel_rfl) (by kernel_rfl) (by kernel_rfl) (lpok_spec_l5Proto fu) (fun d hd => out_bo_enc d _ hd) ((ev_spec_l5Proto fu p_0).trans hy)
theorem good_spec_l5Proto (fu : Nat) : ∀ xs o, S_spec_l5Proto fu xs = some o → ∀ y, o.x = some y → Good E Try.prog 115 xs (o.g y) := by
  intro xs o h y hy
  unfold S_spec_l5Proto at h
  split at h
  · rename_i a0_0
    cases h
    exact goodv_spec_l5Proto fu a0_0 y hy
  · cases h

/-! spec.l5Behind -/
def F_spec_l5Behind (fu : Nat) (a_0 : S_impl_Vip) (b_1 : S_impl_Vip) : Option (Bool) :=
  (bif (a_0.Address != b_1.Address) then (some (decide (a_0.Address < b_1.Address))) else (bif (a_0.Port != b_1.Port) then (some (decide (a_0.Port < b_1.Port))) else (some (decide (a_0.Proto < b_1.Proto)))))
def pc_spec_l5Behind (fu : Nat) : Pc RT den := fun f xs => none
def msk_spec_l5Behind (b : Nat) : List Nat := []
def lp_spec_l5Behind (fu : Nat) : Lp RT den (Bool) := fun b s k => none
theorem ev_spec_l5Behind (fu : Nat) (a_0 : S_impl_Vip) (b_1 : S_impl_Vip) : evFun E (pc_spec_l5Behind fu) msk_spec_l5Behind (lp_spec_l5Behind fu) out_bo 144 [(.agg [(.int .i64 a_0.Address), (.int .i64 a_0.Port), (.int .i64 a_0.Proto), (.rs a_0.Names.z .i64 a_0.Names.n a_0.Names.f)]), (.agg [(.int .i64 b_1.Address), (.int .i64 b_1.Port), (.int .i64 b_1.Proto), (.rs b_1.Names.z .i64 b_1.Names.n b_1.Names.f)])] = F_spec_l5Behind fu a_0 b_1 := by kernel_rfl
noncomputable def body_spec_l5Behind : Code := Try.f144.body.getD .skip
theorem lpok_spec_l5Behind (fu : Nat) : LpOk E (pc_spec_l5Behind fu) msk_spec_l5Behind (lp_spec_l5Behind fu) (loops 0 body_spec_l5Behind) := by
  have h : loops 0 body_spec_l5Behind = [] := by kernel_rfl
  rw [h]; intro p hp; cases hp
def S_spec_l5Behind (fu : Nat) (xs : List (D RT den)) : Option (Out RT den) := match xs with | [.agg [.int .i64 a0_1, .int .i64 a0_2, .int .i64 a0_3, .rs za0_4 .i64 na0_4 fa0_4], .agg [.int .i64 a1_1, .int .i64 a1_2, .int .i64 a1_3, .rs za1_4 .i64 na1_4 fa1_4]] => some ⟨Bool, F_spec_l5Behind fu (⟨a0_1, a0_2, a0_3, (⟨za0_4, na0_4, fa0_4⟩ : (Sl Int))⟩ : S_impl_Vip) (⟨a1_1, a1_2, a1_3, (⟨za1_4, na1_4, fa1_4⟩ : (Sl Int))⟩ : S_impl_Vip), enc_bo, fun _ => true⟩ | _ => none
theorem hpc_spec_l5Behind (fu : Nat) : ∀ f xs o, pc_spec_l5Behind fu f xs = some o → ∀ y, o.x = some y → Good E Try.prog f xs (o.g y) := by
  intro f xs o h
  cases h
theorem goodv_spec_l5Behind (fu : Nat) (a_0 : S_impl_Vip) (b_1 : S_impl_Vip) (y : Bool) (hy : F_spec_l5Behind fu a_0 b_1 = some y) : Good E Try.prog 144 [(.agg [(.int .i64 a_0.Address), (.int .i64 a_0.Port), (.int .i64 a_0.Proto), (.rs a_0.Names.z .i64 a_0.Names.n a_0.Names.f)]), (.agg [(.int .i64 b_1.Address), (.int .i64 b_1.Port), (.int .i64 b_1.Proto), (.rs b_1.Names.z .i64 b_1.Names.n b_1.Names.f)])] (enc_bo y) :=
  fun_good E_ok (pc_good (hpc_spec_l5Behind fu)) (fn := Try.f144) (c := body_spec_l5Behind) (out := out_bo) (y := y) (by kernel_rfl) (by kernel_rfl) (by kernel_rfl) (lpok_spec_l5Behind fu) (fun d hd => out_bo_enc d _ hd) ((ev_spec_l5Behind fu a_0 b_1).trans hy)
theorem good_spec_l5Behind (fu : Nat) : ∀ xs o, S_spec_l5Behind fu xs = some o → ∀ y, o.x = some y → Good E Try.prog 144 xs (o.g y) := by
  intro xs o h y hy
  unfold S_spec_l5Behind at h
  split at h
  · rename_i a0_1 a0_2 a0_3 za0_4 na0_4 fa0_4 a1_1 a1_2 a1_3 za1_4 na1_4 fa1_4
    cases h
    exact goodv_spec_l5Behind fu (⟨a0_1, a0_2, a0_3, (⟨za0_4, na0_4, fa0_4⟩ : (Sl Int))⟩ : S_impl_Vip) (⟨a1_1, a1_2, a1_3, (⟨za1_4, na1_4, fa1_4⟩ : (Sl Int))⟩ : S_impl_Vip) y hy
  · cases h

/-! spec.l5At -/
def F_spec_l5At_B0 {ρ : Type} (fu : Nat) (c0_0 : Int) (c0_1 : (Sl S_impl_Backend)) (c0_2 : (Sl S_impl_Vip)) (name1_3 : Int) (k0 : Int → Option ρ) (k1 : Option ρ) (i5_4 : Int) (go : Int → Option ρ) : Option ρ :=
  (bif (decide (i5_4 < ((c0_1.n : Nat) : Int))) then ((bif (decide (0 ≤ i5_4) && decide ((Int.toNat i5_4) < c0_1.n)) then some () else none : Option Unit).bind fun _ => (bif ((c0_1.f (Int.toNat i5_4)).Name == name1_3) then
    (k0 i5_4) else (go (IntKind.wrap .i64 (i5_4 + 1))))) else k1)
def F_spec_l5At (fu : Nat) (c_0 : S_impl_Config) (name_1 : Int) : Option (Int) :=
  (L (fun w0 go0 => F_spec_l5At_B0 fu c_0.Version c_0.Backends c_0.Vips name_1 (fun z65 => (some z65)) (some (-1)) w0 go0) fu (0 : Int))
def pc_spec_l5At (fu : Nat) : Pc RT den := fun f xs => none
def msk_spec_l5At (b : Nat) : List Nat := match b with | 0 => [2, 3, 4, 6, 7, 8, 9, 10, 11, 12, 13, 14, 15, 16, 17, 18, 19, 20, 21, 22, 23, 24, 25] | 100000 => [0, 1, 2, 3, 5, 6, 7, 8, 9, 10, 11, 12, 13, 14, 15, 16, 17, 18, 19, 20, 21, 22, 23, 24, 25] | _ => []
def ps_spec_l5At_0 : List (Pat RT) := [.rptr [(.int .i64), (.rs .impl_Backend), (.rs .impl_Vip)], .flat (.int .i64), .flat .dead, .flat .dead, .flat .dead, .flat (.int .i64), .flat .dead, .flat .dead, .flat .dead, .flat .dead, .flat .dead, .flat .dead, .flat .dead, .flat .dead, .flat .dead, .flat .dead, .flat .dead, .flat .dead, .flat .dead, .flat .dead, .flat .dead, .flat .dead, .flat .dead, .flat .dead, .flat .dead, .flat .dead]
def os_spec_l5At_0 : List (OP RT) := []
def conv_spec_l5At_0 (r : Raw den ps_spec_l5At_0 os_spec_l5At_0) : (Int × (Sl S_impl_Backend) × (Sl S_impl_Vip) × Int) × (Int) := ((r.1.1.1, r.1.1.2.1, r.1.1.2.2.1, r.1.2.1), r.1.2.2.2.2.2.1)
def back_spec_l5At_0 (c : Int × (Sl S_impl_Backend) × (Sl S_impl_Vip) × Int) (w : Int) : St RT den := ⟨[(.rptr [(.int .i64 c.1), (.rs c.2.1.z .impl_Backend c.2.1.n c.2.1.f), (.rs c.2.2.1.z .impl_Vip c.2.2.1.n c.2.2.1.f)]), (.int .i64 c.2.2.2), .dead, .dead, .dead, (.int .i64 w), .dead, .dead, .dead, .dead, .dead, .dead, .dead, .dead, .dead, .dead, .dead, .dead, .dead, .dead, .dead, .dead, .dead, .dead, .dead, .dead], []⟩
def Bk_spec_l5At_0 {ρ : Type} (fu : Nat) (c : Int × (Sl S_impl_Backend) × (Sl S_impl_Vip) × Int) (k : Ex → St RT den → Option ρ) (w : Int) (go : (Int) → Option ρ) : Option ρ := F_spec_l5At_B0 fu c.1 c.2.1 c.2.2.1 c.2.2.2 (fun a0 => k .ret ⟨[.dead, .dead, .dead, .dead, (.int .i64 a0), .dead, .dead, .dead, .dead, .dead, .dead, .dead, .dead, .dead, .dead, .dead, .dead, .dead, .dead, .dead, .dead, .dead, .dead, .dead, .dead, .dead], []⟩) (k (.exit 0) ⟨[.dead, .dead, .dead, .dead, .dead, .dead, .dead, .dead, .dead, .dead, .dead, .dead, .dead, .dead, .dead, .dead, .dead, .dead, .dead, .dead, .dead, .dead, .dead, .dead, .dead, .dead], []⟩) w go
def lp_spec_l5At (fu : Nat) : Lp RT den (Int) := fun b s k => match b with | 0 => handle ps_spec_l5At_0 os_spec_l5At_0 conv_spec_l5At_0 (Bk_spec_l5At_0 fu) fu s k | _ => none
theorem ev_spec_l5At (fu : Nat) (c_0 : S_impl_Config) (name_1 : Int) : evFun E (pc_spec_l5At fu) msk_spec_l5At (lp_spec_l5At fu) out_i64 87 [(.rptr [(.int .i64 c_0.Version), (.rs c_0.Backends.z .impl_Backend c_0.Backends.n c_0.Backends.f), (.rs c_0.Vips.z .impl_Vip c_0.Vips.n c_0.Vips.f)]), (.int .i64 name_1)] = F_spec_l5At fu c_0 name_1 := by kernel_rfl
noncomputable def body_spec_l5At : Code := Try.f87.body.getD .skip
noncomputable def lc_spec_l5At_0 : Code := ((loops 0 body_spec_l5At).getD 0 (0, .skip)).2
theorem round_spec_l5At_0 (fu : Nat) (it : St RT den → Option (Int)) (k : Ex → St RT den → Option (Int)) c w : evCode E (pc_spec_l5At fu) msk_spec_l5At (lp_spec_l5At fu) 0 lc_spec_l5At_0 (back_spec_l5At_0 c w) (after (msk_spec_l5At 0) (msk_spec_l5At 100000) 0 it k) = Bk_spec_l5At_0 fu c k w (fun w => it (back_spec_l5At_0 c w)) := by kernel_rfl
theorem lpok_spec_l5At_0 (fu : Nat) : ∀ s k r, lp_spec_l5At fu 0 s k = some r → ∃ fuel, iter (msk_spec_l5At 0) (msk_spec_l5At 100000) s.objs.length (evCode E (pc_spec_l5At fu) msk_spec_l5At (lp_spec_l5At fu) 0 lc_spec_l5At_0) fuel s k = some r :=
  handle_ok (ps := ps_spec_l5At_0) (os := os_spec_l5At_0) (conv := conv_spec_l5At_0) (B := Bk_spec_l5At_0 fu) (fu := fu) back_spec_l5At_0 (fun raw => by kernel_rfl) 0 (fun c w => by kernel_rfl) (round_spec_l5At_0 fu)
theorem lpok_spec_l5At (fu : Nat) : LpOk E (pc_spec_l5At fu) msk_spec_l5At (lp_spec_l5At fu) (loops 0 body_spec_l5At) := loop_all 1 (by kernel_rfl) fun i hi => match i, hi with
  | 0, _ => by
    have h : (loops 0 body_spec_l5At).getD 0 (0, .skip) = (0, lc_spec_l5At_0) := by kernel_rfl
    rw [h]; exact lpok_spec_l5At_0 fu
  | i + 1, hi => absurd hi (by omega)
def S_spec_l5At (fu : Nat) (xs : List (D RT den)) : Option (Out RT den) := match xs with | [.rptr (.int .i64 a0_1 :: .rs za0_2 .impl_Backend na0_2 fa0_2 :: .rs za0_3 .impl_Vip na0_3 fa0_3 :: ra0), .int .i64 a1_0] => some ⟨Int, F_spec_l5At fu (⟨a0_1, (⟨za0_2, na0_2, fa0_2⟩ : (Sl S_impl_Backend)), (⟨za0_3, na0_3, fa0_3⟩ : (Sl S_impl_Vip))⟩ : S_impl_Config) a1_0, enc_i64, fun _ => true⟩ | _ => none
theorem hpc_spec_l5At (fu : Nat) : ∀ f xs o, pc_spec_l5At fu f xs = some o → ∀ y, o.x = some y → Good E Try.prog f xs (o.g y) := by
  intro f xs o h
  cases h
theorem goodv_spec_l5At (fu : Nat) (c_0 : S_impl_Config) (name_1 : Int) (y : Int) (hy : F_spec_l5At fu c_0 name_1 = some y) : Good E Try.prog 87 [(.rptr [(.int .i64 c_0.Version), (.rs c_0.Backends.z .impl_Backend c_0.Backends.n c_0.Backends.f), (.rs c_0.Vips.z .impl_Vip c_0.Vips.n c_0.Vips.f)]), (.int .i64 name_1)] (enc_i64 y) :=
  fun_good E_ok (pc_good (hpc_spec_l5At fu)) (fn := Try.f87) (c := body_spec_l5At) (out := out_i64) (y := y) (by kernel_rfl) (by kernel_rfl) (by kernel_rfl) (lpok_spec_l5At fu) (fun d hd => out_i64_enc d _ hd) ((ev_spec_l5At fu c_0 name_1).trans hy)
theorem good_spec_l5At (fu : Nat) : ∀ xs o, S_spec_l5At fu xs = some o → ∀ y, o.x = some y → Good E Try.prog 87 xs (o.g y) := by
  intro xs o h y hy
  unfold S_spec_l5At at h
  split at h
  · rename_i a0_1 za0_2 na0_2 fa0_2 za0_3 na0_3 fa0_3 ra0 a1_0
    cases h
    exact (goodv_spec_l5At fu (⟨a0_1, (⟨za0_2, na0_2, fa0_2⟩ : (Sl S_impl_Backend)), (⟨za0_3, na0_3, fa0_3⟩ : (Sl S_impl_Vip))⟩ : S_impl_Config) a1_0 y hy).sub ⟨Sub.of_eq ra0 rfl, .refl _, trivial⟩
  · cases h
end Go.Proofs.Ythbimpgiafhfoaa.Pc
