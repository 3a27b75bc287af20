/- The functions' evaluated forms, each a proved summary. Conditions: none. -/
import Derived.Test.YtnocoglmchnggaaPcF1
namespace Go.Proofs.Ytnocoglmchnggaa.Pc
open Go Go.RowKit Go.Proofs Vm
set_option linter.unusedVariables false
set_option linter.unusedSimpArgs false
set_option maxRecDepth 100000
/-! laws.toBackend -/
def F_laws_toBackend (fu : Nat) (a_0 : S_impl_Backend) : Option (S_impl_Backend) :=
  (some a_0)
def pc_laws_toBackend (fu : Nat) : Pc RT den := fun f xs => none
def msk_laws_toBackend (b : Nat) : List Nat := []
def lp_laws_toBackend (fu : Nat) : Lp RT den (S_impl_Backend) := fun b s k => none
theorem ev_laws_toBackend (fu : Nat) (a_0 : S_impl_Backend) : evFun E (pc_laws_toBackend fu) msk_laws_toBackend (lp_laws_toBackend fu) out_impl_Backend 94 [(.agg [(.int .i64 a_0.Name), (.int .i64 a_0.Address), (.int .i64 a_0.Weight), (.int .i64 a_0.Stage), (.bool a_0.Up)])] = F_laws_toBackend fu a_0 := by kernel_rfl
noncomputable def body_laws_toBackend : Code := Try.f94.body.getD .skip
theorem lpok_laws_toBackend (fu : Nat) : LpOk E (pc_laws_toBackend fu) msk_laws_toBackend (lp_laws_toBackend fu) (loops 0 body_laws_toBackend) := by
  have h : loops 0 body_laws_toBackend = [] := by kernel_rfl
  rw [h]; intro p hp; cases hp
def S_laws_toBackend (fu : Nat) (xs : List (D RT den)) : Option (Out RT den) := match xs with | [.agg [.int .i64 a0_1, .int .i64 a0_2, .int .i64 a0_3, .int .i64 a0_4, .bool a0_5]] => some ⟨S_impl_Backend, F_laws_toBackend fu (⟨a0_1, a0_2, a0_3, a0_4, a0_5⟩ : S_impl_Backend), enc_impl_Backend, fun _ => true⟩ | _ => none
theorem hpc_laws_toBackend (fu : Nat) : ∀ f xs o, pc_laws_toBackend fu f xs = some o → ∀ y, o.x = some y → Good E Try.prog f xs (o.g y) := by
  intro f xs o h
  cases h
theorem goodv_laws_toBackend (fu : Nat) (a_0 : S_impl_Backend) (y : S_impl_Backend) (hy : F_laws_toBackend fu a_0 = some y) : Good E Try.prog 94 [(.agg [(.int .i64 a_0.Name), (.int .i64 a_0.Address), (.int .i64 a_0.Weight), (.int .i64 a_0.Stage), (.bool a_0.Up)])] (enc_impl_Backend y) :=
  fun_good E_ok (pc_good (hpc_laws_toBackend fu)) (fn := Try.f94) (c := body_laws_toBackend) (out := out_impl_Backend) (y := y) (by kernel_rfl) (by kernel_rfl) (by kernel_rfl) (lpok_laws_toBackend fu) (fun d hd => out_impl_Backend_enc d _ hd) ((ev_laws_toBackend fu a_0).trans hy)
theorem good_laws_toBackend (fu : Nat) : ∀ xs o, S_laws_toBackend fu xs = some o → ∀ y, o.x = some y → Good E Try.prog 94 xs (o.g y) := by
  intro xs o h y hy
  unfold S_laws_toBackend at h
  split at h
  · rename_i a0_1 a0_2 a0_3 a0_4 a0_5
    cases h
    exact goodv_laws_toBackend fu (⟨a0_1, a0_2, a0_3, a0_4, a0_5⟩ : S_impl_Backend) y hy
  · cases h

/-! laws.toBackendS -/
def F_laws_toBackendS_B0 {ρ : Type} (fu : Nat) (a0_0 : (Sl S_impl_Backend)) (out3_1 : Nat) (on0_3 : Nat) (k0 : (Nat → S_impl_Backend) → Option ρ) (i4_2 : Int) (of0_4 : (Nat → S_impl_Backend)) (go : Int → (Nat → S_impl_Backend) → Option ρ) : Option ρ :=
  (bif (decide (i4_2 < ((a0_0.n : Nat) : Int))) then ((bif (decide (0 ≤ i4_2) && decide ((Int.toNat i4_2) < a0_0.n)) then some () else none : Option Unit).bind fun _ =>
    ((F_laws_toBackend fu (a0_0.f (Int.toNat i4_2))).bind fun y120 => ((bif (decide (0 ≤ i4_2) && decide ((Int.toNat i4_2) < out3_1)) then some () else none : Option Unit).bind fun _ =>
    (go (IntKind.wrap .i64 (i4_2 + 1)) (fun j => if j = (Int.toNat i4_2) then y120 else of0_4 j))))) else (k0 of0_4))
def F_laws_toBackendS (fu : Nat) (a_0 : (Sl S_impl_Backend)) : Option ((Sl S_impl_Backend)) :=
  (bif (decide (0 ≤ ((a_0.n : Nat) : Int)) && (decide (((a_0.n : Nat) : Int) = ((a_0.n : Nat) : Int)) && (decide ((40 : Int) * ((a_0.n : Nat) : Int) ≤ 281474976710656) && decide (((a_0.n : Nat) : Int) ≤ 9223372036854775807)))) then
    (L (fun w0 go0 => F_laws_toBackendS_B0 fu a_0 (Int.toNat ((a_0.n : Nat) : Int)) (Int.toNat ((a_0.n : Nat) : Int)) (fun z121 => (some (⟨none, (Int.toNat ((a_0.n : Nat) : Int)),
    z121⟩ : (Sl S_impl_Backend)))) w0.1 w0.2 (fun q0 q1 => go0 (q0, q1))) fu ((0, (fun _ => (⟨0, 0, 0, 0, false⟩ : S_impl_Backend))) : Int × (Nat → S_impl_Backend))) else none)
def pc_laws_toBackendS (fu : Nat) : Pc RT den := fun f xs => match f with | 94 => S_laws_toBackend fu xs | _ => none
def msk_laws_toBackendS (b : Nat) : List Nat := match b with | 0 => [1, 2, 5, 6, 7, 8, 9, 10, 11, 12, 13, 14, 15, 16, 17, 18, 19, 20, 21, 22] | 100000 => [0, 1, 4, 5, 6, 7, 8, 9, 10, 11, 12, 13, 14, 15, 16, 17, 18, 19, 20, 21, 22] | _ => []
def ps_laws_toBackendS_0 : List (Pat RT) := [.flat (.rs .impl_Backend), .flat .dead, .flat .dead, .flat (.os 0), .flat (.int .i64), .flat .dead, .flat .dead, .flat .dead, .flat .dead, .flat .dead, .flat .dead, .flat .dead, .flat .dead, .flat .dead, .flat .dead, .flat .dead, .flat .dead, .flat .dead, .flat .dead, .flat .dead, .flat .dead, .flat .dead, .flat .dead]
def os_laws_toBackendS_0 : List (OP RT) := [.row .impl_Backend]
def conv_laws_toBackendS_0 (r : Raw den ps_laws_toBackendS_0 os_laws_toBackendS_0) : ((Sl S_impl_Backend) × Nat × Nat) × (Int × (Nat → S_impl_Backend)) := ((r.1.1, r.1.2.2.2.1, r.2.1.1), (r.1.2.2.2.2.1, r.2.1.2))
def back_laws_toBackendS_0 (c : (Sl S_impl_Backend) × Nat × Nat) (w : Int × (Nat → S_impl_Backend)) : St RT den := ⟨[(.rs c.1.z .impl_Backend c.1.n c.1.f), .dead, .dead, (.os 0 c.2.1), (.int .i64 w.1), .dead, .dead, .dead, .dead, .dead, .dead, .dead, .dead, .dead, .dead, .dead, .dead, .dead, .dead, .dead, .dead, .dead, .dead], [(.row .impl_Backend c.2.2 w.2)]⟩
def Bk_laws_toBackendS_0 {ρ : Type} (fu : Nat) (c : (Sl S_impl_Backend) × Nat × Nat) (k : Ex → St RT den → Option ρ) (w : Int × (Nat → S_impl_Backend)) (go : (Int × (Nat → S_impl_Backend)) → Option ρ) : Option ρ := F_laws_toBackendS_B0 fu c.1 c.2.1 c.2.2 (fun a0 => k (.exit 0) ⟨[.dead, .dead, .dead, (.os 0 c.2.1), .dead, .dead, .dead, .dead, .dead, .dead, .dead, .dead, .dead, .dead, .dead, .dead, .dead, .dead, .dead, .dead, .dead, .dead, .dead], [(.row .impl_Backend c.2.2 a0)]⟩) w.1 w.2 (fun q0 q1 => go (q0, q1))
def lp_laws_toBackendS (fu : Nat) : Lp RT den ((Sl S_impl_Backend)) := fun b s k => match b with | 0 => handle ps_laws_toBackendS_0 os_laws_toBackendS_0 conv_laws_toBackendS_0 (Bk_laws_toBackendS_0 fu) fu s k | _ => none
theorem ev_laws_toBackendS (fu : Nat) (a_0 : (Sl S_impl_Backend)) : evFun E (pc_laws_toBackendS fu) msk_laws_toBackendS (lp_laws_toBackendS fu) out_sl_impl_Backend 73 [(.rs a_0.z .impl_Backend a_0.n a_0.f)] = F_laws_toBackendS fu a_0 := by kernel_rfl
noncomputable def body_laws_toBackendS : Code := Try.f73.body.getD .skip
noncomputable def lc_laws_toBackendS_0 : Code := ((loops 0 body_laws_toBackendS).getD 0 (0, .skip)).2
theorem round_laws_toBackendS_0 (fu : Nat) (it : St RT den → Option ((Sl S_impl_Backend))) (k : Ex → St RT den → Option ((Sl S_impl_Backend))) c w : evCode E (pc_laws_toBackendS fu) msk_laws_toBackendS (lp_laws_toBackendS fu) 0 lc_laws_toBackendS_0 (back_laws_toBackendS_0 c w) (after (msk_laws_toBackendS 0) (msk_laws_toBackendS 100000) 1 it k) = Bk_laws_toBackendS_0 fu c k w (fun w => it (back_laws_toBackendS_0 c w)) := by kernel_rfl
theorem lpok_laws_toBackendS_0 (fu : Nat) : ∀ s k r, lp_laws_toBackendS fu 0 s k = some r → ∃ fuel, iter (msk_laws_toBackendS 0) (msk_laws_toBackendS 100000) s.objs.length (evCode E (pc_laws_toBackendS fu) msk_laws_toBackendS (lp_laws_toBackendS fu) 0 lc_laws_toBackendS_0) fuel s k = some r :=
  handle_ok (ps := ps_laws_toBackendS_0) (os := os_laws_toBackendS_0) (conv := conv_laws_toBackendS_0) (B := Bk_laws_toBackendS_0 fu) (fu := fu) back_laws_toBackendS_0 (fun raw => by kernel_rfl) 1 (fun c w => by kernel_rfl) (round_laws_toBackendS_0 fu)
theorem lpok_laws_toBackendS (fu : Nat) : LpOk E (pc_laws_toBackendS fu) msk_laws_toBackendS (lp_laws_toBackendS fu) (loops 0 body_laws_toBackendS) := loop_all 1 (by kernel_rfl) fun i hi => match i, hi with
  | 0, _ => by
    have h : (loops 0 body_laws_toBackendS).getD 0 (0, .skip) = (0, lc_laws_toBackendS_0) := by kernel_rfl
    rw [h]; exact lpok_laws_toBackendS_0 fu
  | i + 1, hi => absurd hi (by omega)
def S_laws_toBackendS (fu : Nat) (xs : List (D RT den)) : Option (Out RT den) := match xs with | [.rs za0_0 .impl_Backend na0_0 fa0_0] => some ⟨(Sl S_impl_Backend), F_laws_toBackendS fu (⟨za0_0, na0_0, fa0_0⟩ : (Sl S_impl_Backend)), enc_sl_impl_Backend, fun _ => true⟩ | _ => none
theorem hpc_laws_toBackendS (fu : Nat) : ∀ f xs o, pc_laws_toBackendS fu f xs = some o → ∀ y, o.x = some y → Good E Try.prog f xs (o.g y) := by
  intro f xs o h
  unfold pc_laws_toBackendS at h
  split at h
  · exact good_laws_toBackend fu xs o h
  · cases h
theorem goodv_laws_toBackendS (fu : Nat) (a_0 : (Sl S_impl_Backend)) (y : (Sl S_impl_Backend)) (hy : F_laws_toBackendS fu a_0 = some y) : Good E Try.prog 73 [(.rs a_0.z .impl_Backend a_0.n a_0.f)] (enc_sl_impl_Backend y) :=
  fun_good E_ok (pc_good (hpc_laws_toBackendS fu)) (fn := Try.f73) (c := body_laws_toBackendS) (out := out_sl_impl_Backend) (y := y) (by kernel_rfl) (by kernel_rfl) (by kernel_rfl) (lpok_laws_toBackendS fu) (fun d hd => out_sl_impl_Backend_enc d _ hd) ((ev_laws_toBackendS fu a_0).trans hy)
theorem good_laws_toBackendS (fu : Nat) : ∀ xs o, S_laws_toBackendS fu xs = some o → ∀ y, o.x = some y → Good E Try.prog 73 xs (o.g y) := by
  intro xs o h y hy
  unfold S_laws_toBackendS at h
  split at h
  · rename_i za0_0 na0_0 fa0_0
    cases h
    exact goodv_laws_toBackendS fu (⟨za0_0, na0_0, fa0_0⟩ : (Sl S_impl_Backend)) y hy
  · cases h

/-! laws.toInt64S -/
def F_laws_toInt64S_B0 {ρ : Type} (fu : Nat) (a0_0 : (Sl Int)) (out3_1 : Nat) (on0_3 : Nat) (k0 : (Nat → Int) → Option ρ) (i4_2 : Int) (of0_4 : (Nat → Int)) (go : Int → (Nat → Int) → Option ρ) : Option ρ :=
  (bif (decide (i4_2 < ((a0_0.n : Nat) : Int))) then ((bif (decide (0 ≤ i4_2) && decide ((Int.toNat i4_2) < a0_0.n)) then some () else none : Option Unit).bind fun _ => ((bif (decide (0 ≤ i4_2) &&
    decide ((Int.toNat i4_2) < out3_1)) then some () else none : Option Unit).bind fun _ => (go (IntKind.wrap .i64 (i4_2 + 1)) (fun j => if j = (Int.toNat i4_2) then (a0_0.f (Int.toNat i4_2)) else
    of0_4 j)))) else (k0 of0_4))
def F_laws_toInt64S (fu : Nat) (a_0 : (Sl Int)) : Option ((Sl Int)) :=
  (bif (decide (0 ≤ ((a_0.n : Nat) : Int)) && (decide (((a_0.n : Nat) : Int) = ((a_0.n : Nat) : Int)) && (decide ((8 : Int) * ((a_0.n : Nat) : Int) ≤ 281474976710656) && decide (((a_0.n : Nat) : Int) ≤ 9223372036854775807)))) then
    (L (fun w0 go0 => F_laws_toInt64S_B0 fu a_0 (Int.toNat ((a_0.n : Nat) : Int)) (Int.toNat ((a_0.n : Nat) : Int)) (fun z125 => (some (⟨none, (Int.toNat ((a_0.n : Nat) : Int)),
    z125⟩ : (Sl Int)))) w0.1 w0.2 (fun q0 q1 => go0 (q0, q1))) fu ((0, (fun _ => 0)) : Int × (Nat → Int))) else none)
def pc_laws_toInt64S (fu : Nat) : Pc RT den := fun f xs => none
def msk_laws_toInt64S (b : Nat) : List Nat := match b with | 0 => [1, 2, 5, 6, 7, 8, 9, 10, 11, 12, 13, 14, 15, 16, 17, 18, 19, 20, 21] | 100000 => [0, 1, 4, 5, 6, 7, 8, 9, 10, 11, 12, 13, 14, 15, 16, 17, 18, 19, 20, 21] | _ => []
def ps_laws_toInt64S_0 : List (Pat RT) := [.flat (.rs .i64), .flat .dead, .flat .dead, .flat (.os 0), .flat (.int .i64), .flat .dead, .flat .dead, .flat .dead, .flat .dead, .flat .dead, .flat .dead, .flat .dead, .flat .dead, .flat .dead, .flat .dead, .flat .dead, .flat .dead, .flat .dead, .flat .dead, .flat .dead, .flat .dead, .flat .dead]
def os_laws_toInt64S_0 : List (OP RT) := [.row .i64]
def conv_laws_toInt64S_0 (r : Raw den ps_laws_toInt64S_0 os_laws_toInt64S_0) : ((Sl Int) × Nat × Nat) × (Int × (Nat → Int)) := ((r.1.1, r.1.2.2.2.1, r.2.1.1), (r.1.2.2.2.2.1, r.2.1.2))
def back_laws_toInt64S_0 (c : (Sl Int) × Nat × Nat) (w : Int × (Nat → Int)) : St RT den := ⟨[(.rs c.1.z .i64 c.1.n c.1.f), .dead, .dead, (.os 0 c.2.1), (.int .i64 w.1), .dead, .dead, .dead, .dead, .dead, .dead, .dead, .dead, .dead, .dead, .dead, .dead, .dead, .dead, .dead, .dead, .dead], [(.row .i64 c.2.2 w.2)]⟩
def Bk_laws_toInt64S_0 {ρ : Type} (fu : Nat) (c : (Sl Int) × Nat × Nat) (k : Ex → St RT den → Option ρ) (w : Int × (Nat → Int)) (go : (Int × (Nat → Int)) → Option ρ) : Option ρ := F_laws_toInt64S_B0 fu c.1 c.2.1 c.2.2 (fun a0 => k (.exit 0) ⟨[.dead, .dead, .dead, (.os 0 c.2.1), .dead, .dead, .dead, .dead, .dead, .dead, .dead, .dead, .dead, .dead, .dead, .dead, .dead, .dead, .dead, .dead, .dead, .dead], [(.row .i64 c.2.2 a0)]⟩) w.1 w.2 (fun q0 q1 => go (q0, q1))
def lp_laws_toInt64S (fu : Nat) : Lp RT den ((Sl Int)) := fun b s k => match b with | 0 => handle ps_laws_toInt64S_0 os_laws_toInt64S_0 conv_laws_toInt64S_0 (Bk_laws_toInt64S_0 fu) fu s k | _ => none
theorem ev_laws_toInt64S (fu : Nat) (a_0 : (Sl Int)) : evFun E (pc_laws_toInt64S fu) msk_laws_toInt64S (lp_laws_toInt64S fu) out_sl_i64 110 [(.rs a_0.z .i64 a_0.n a_0.f)] = F_laws_toInt64S fu a_0 := by kernel_rfl
noncomputable def body_laws_toInt64S : Code := Try.f110.body.getD .skip
noncomputable def lc_laws_toInt64S_0 : Code := ((loops 0 body_laws_toInt64S).getD 0 (0, .skip)).2
theorem round_laws_toInt64S_0 (fu : Nat) (it : St RT den → Option ((Sl Int))) (k : Ex → St RT den → Option ((Sl Int))) c w : evCode E (pc_laws_toInt64S fu) msk_laws_toInt64S (lp_laws_toInt64S fu) 0 lc_laws_toInt64S_0 (back_laws_toInt64S_0 c w) (after (msk_laws_toInt64S 0) (msk_laws_toInt64S 100000) 1 it k) = Bk_laws_toInt64S_0 fu c k w (fun w => it (back_laws_toInt64S_0 c w)) := by kernel_rfl
theorem lpok_laws_toInt64S_0 (fu : Nat) : ∀ s k r, lp_laws_toInt64S fu 0 s k = some r → ∃ fuel, iter (msk_laws_toInt64S 0) (msk_laws_toInt64S 100000) s.objs.length (evCode E (pc_laws_toInt64S fu) msk_laws_toInt64S (lp_laws_toInt64S fu) 0 lc_laws_toInt64S_0) fuel s k = some r :=
  handle_ok (ps := ps_laws_toInt64S_0) (os := os_laws_toInt64S_0) (conv := conv_laws_toInt64S_0) (B := Bk_laws_toInt64S_0 fu) (fu := fu) back_laws_toInt64S_0 (fun raw => by kernel_rfl) 1 (fun c w => by kernel_rfl) (round_laws_toInt64S_0 fu)
theorem lpok_laws_toInt64S (fu : Nat) : LpOk E (pc_laws_toInt64S fu) msk_laws_toInt64S (lp_laws_toInt64S fu) (loops 0 body_laws_toInt64S) := loop_all 1 (by kernel_rfl) fun i hi => match i, hi with
  | 0, _ => by
    have h : (loops 0 body_laws_toInt64S).getD 0 (0, .skip) = (0, lc_laws_toInt64S_0) := by kernel_rfl
    rw [h]; exact lpok_laws_toInt64S_0 fu
  | i + 1, hi => absurd hi (by omega)
def S_laws_toInt64S (fu : Nat) (xs : List (D RT den)) : Option (Out RT den) := match xs with | [.rs za0_0 .i64 na0_0 fa0_0] => some ⟨(Sl Int), F_laws_toInt64S fu (⟨za0_0, na0_0, fa0_0⟩ : (Sl Int)), enc_sl_i64, fun _ => true⟩ | _ => none
theorem hpc_laws_toInt64S (fu : Nat) : ∀ f xs o, pc_laws_toInt64S fu f xs = some o → ∀ y, o.x = some y → Good E Try.prog f xs (o.g y) := by
  intro f xs o h
  cases h
theorem goodv_laws_toInt64S (fu : Nat) (a_0 : (Sl Int)) (y : (Sl Int)) (hy : F_laws_toInt64S fu a_0 = some y) : Good E Try.prog 110 [(.rs a_0.z .i64 a_0.n a_0.f)] (enc_sl_i64 y) :=
  fun_good E_ok (pc_good (hpc_laws_toInt64S fu)) (fn := Try.f110) (c := body_laws_toInt64S) (out := out_sl_i64) (y := y) (by kernel_rfl) (by kernel_rfl) (by kernel_rfl) (lpok_laws_toInt64S fu) (fun d hd => out_sl_i64_enc d _ hd) ((ev_laws_toInt64S fu a_0).trans hy)
theorem good_laws_toInt64S (fu : Nat) : ∀ xs o, S_laws_toInt64S fu xs = some o → ∀ y, o.x = some y → Good E Try.prog 110 xs (o.g y) := by
  intro xs o h y hy
  unfold S_laws_toInt64S at h
  split at h
  · rename_i za0_0 na0_0 fa0_0
    cases h
    exact goodv_laws_toInt64S fu (⟨za0_0, na0_0, fa0_0⟩ : (Sl Int)) y hy
  · cases h

/-! laws.toVip -/
def F_laws_toVip (fu : Nat) (a_0 : S_impl_Vip) : Option (S_impl_Vip) :=
  ((F_laws_toInt64S fu a_0.Names).bind fun y124 => (some (⟨a_0.Address, a_0.Port, a_0.Proto, y124⟩ : S_impl_Vip)))
def pc_laws_toVip (fu : Nat) : Pc RT den := fun f xs => match f with | 110 => S_laws_toInt64S fu xs | _ => none
def msk_laws_toVip (b : Nat) : List Nat := []
def lp_laws_toVip (fu : Nat) : Lp RT den (S_impl_Vip) := fun b s k => none
theorem ev_laws_toVip (fu : Nat) (a_0 : S_impl_Vip) : evFun E (pc_laws_toVip fu) msk_laws_toVip (lp_laws_toVip fu) out_impl_Vip 95 [(.agg [(.int .i64 a_0.Address), (.int .i64 a_0.Port), (.int .i64 a_0.Proto), (.rs a_0.Names.z .i64 a_0.Names.n a_0.Names.f)])] = F_laws_toVip fu a_0 := by kernel_rfl
noncomputable def body_laws_toVip : Code := Try.f95.body.getD .skip
theorem lpok_laws_toVip (fu : Nat) : LpOk E (pc_laws_toVip fu) msk_laws_toVip (lp_laws_toVip fu) (loops 0 body_laws_toVip) := by
  have h : loops 0 body_laws_toVip = [] := by kernel_rfl
  rw [h]; intro p hp; cases hp
def S_laws_toVip (fu : Nat) (xs : List (D RT den)) : Option (Out RT den) := match xs with | [.agg [.int .i64 a0_1, .int .i64 a0_2, .int .i64 a0_3, .rs za0_4 .i64 na0_4 fa0_4]] => some ⟨S_impl_Vip, F_laws_toVip fu (⟨a0_1, a0_2, a0_3, (⟨za0_4, na0_4, fa0_4⟩ : (Sl Int))⟩ : S_impl_Vip), enc_impl_Vip, fun _ => true⟩ | _ => none
theorem hpc_laws_toVip (fu : Nat) : ∀ f xs o, pc_laws_toVip fu f xs = some o → ∀ y, o.x = some y → Good E Try.prog f xs (o.g y) := by
  intro f xs o h
  unfold pc_laws_toVip at h
  split at h
  · exact good_laws_toInt64S fu xs o h
  · cases h
theorem goodv_laws_toVip (fu : Nat) (a_0 : S_impl_Vip) (y : S_impl_Vip) (hy : F_laws_toVip fu a_0 = some y) : Good E Try.prog 95 [(.agg [(.int .i64 a_0.Address), (.int .i64 a_0.Port), (.int .i64 a_0.Proto), (.rs a_0.Names.z .i64 a_0.Names.n a_0.Names.f)])] (enc_impl_Vip y) :=
  fun_good E_ok (pc_good (hpc_laws_toVip fu)) (fn := Try.f95) (c := body_laws_toVip) (out := out_impl_Vip) (y := y) (by kernel_rfl) (by kernel_rfl) (by kernel_rfl) (lpok_laws_toVip fu) (fun d hd => out_impl_Vip_enc d _ hd) ((ev_laws_toVip fu a_0).trans hy)
theorem good_laws_toVip (fu : Nat) : ∀ xs o, S_laws_toVip fu xs = some o → ∀ y, o.x = some y → Good E Try.prog 95 xs (o.g y) := by
  intro xs o h y hy
  unfold S_laws_toVip at h
  split at h
  · rename_i a0_1 a0_2 a0_3 za0_4 na0_4 fa0_4
    cases h
    exact goodv_laws_toVip fu (⟨a0_1, a0_2, a0_3, (⟨za0_4, na0_4, fa0_4⟩ : (Sl Int))⟩ : S_impl_Vip) y hy
  · cases h

/-! laws.toVipS -/
def F_laws_toVipS_B0 {ρ : Type} (fu : Nat) (a0_0 : (Sl S_impl_Vip)) (out3_1 : Nat) (on0_3 : Nat) (k0 : (Nat → S_impl_Vip) → Option ρ) (i4_2 : Int) (of0_4 : (Nat → S_impl_Vip)) (go : Int → (Nat → S_impl_Vip) → Option ρ) : Option ρ :=
  (bif (decide (i4_2 < ((a0_0.n : Nat) : Int))) then ((bif (decide (0 ≤ i4_2) && decide ((Int.toNat i4_2) < a0_0.n)) then some () else none : Option Unit).bind fun _ =>
    ((F_laws_toVip fu (a0_0.f (Int.toNat i4_2))).bind fun y122 => ((bif (decide (0 ≤ i4_2) && decide ((Int.toNat i4_2) < out3_1)) then some () else none : Option Unit).bind fun _ =>
    (go (IntKind.wrap .i64 (i4_2 + 1)) (fun j => if j = (Int.toNat i4_2) then y122 else of0_4 j))))) else (k0 of0_4))
def F_laws_toVipS (fu : Nat) (a_0 : (Sl S_impl_Vip)) : Option ((Sl S_impl_Vip)) :=
  (bif (decide (0 ≤ ((a_0.n : Nat) : Int)) && (decide (((a_0.n : Nat) : Int) = ((a_0.n : Nat) : Int)) && (decide ((48 : Int) * ((a_0.n : Nat) : Int) ≤ 281474976710656) && decide (((a_0.n : Nat) : Int) ≤ 9223372036854775807)))) then
    (L (fun w0 go0 => F_laws_toVipS_B0 fu a_0 (Int.toNat ((a_0.n : Nat) : Int)) (Int.toNat ((a_0.n : Nat) : Int)) (fun z123 => (some (⟨none, (Int.toNat ((a_0.n : Nat) : Int)), z123⟩ : (Sl S_impl_Vip)))) w0.1 w0.2 (fun q0 q1 =>
    go0 (q0, q1))) fu ((0, (fun _ => (⟨0, 0, 0, (⟨(some true), 0, (fun _ => dflt .i64)⟩ : (Sl Int))⟩ : S_impl_Vip))) : Int × (Nat → S_impl_Vip))) else none)
def pc_laws_toVipS (fu : Nat) : Pc RT den := fun f xs => match f with | 95 => S_laws_toVip fu xs | _ => none
def msk_laws_toVipS (b : Nat) : List Nat := match b with | 0 => [1, 2, 5, 6, 7, 8, 9, 10, 11, 12, 13, 14, 15, 16, 17, 18, 19, 20, 21, 22] | 100000 => [0, 1, 4, 5, 6, 7, 8, 9, 10, 11, 12, 13, 14, 15, 16, 17, 18, 19, 20, 21, 22] | _ => []
def ps_laws_toVipS_0 : List (Pat RT) := [.flat (.rs .impl_Vip), .flat .dead, .flat .dead, .flat (.os 0), .flat (.int .i64), .flat .dead, .flat .dead, .flat .dead, .flat .dead, .flat .dead, .flat .dead, .flat .dead, .flat .dead, .flat .dead, .flat .dead, .flat .dead, .flat .dead, .flat .dead, .flat .dead, .flat .dead, .flat .dead, .flat .dead, .flat .dead]
def os_laws_toVipS_0 : List (OP RT) := [.row .impl_Vip]
def conv_laws_toVipS_0 (r : Raw den ps_laws_toVipS_0 os_laws_toVipS_0) : ((Sl S_impl_Vip) × Nat × Nat) × (Int × (Nat → S_impl_Vip)) := ((r.1.1, r.1.2.2.2.1, r.2.1.1), (r.1.2.2.2.2.1, r.2.1.2))
def back_laws_toVipS_0 (c : (Sl S_impl_Vip) × Nat × Nat) (w : Int × (Nat → S_impl_Vip)) : St RT den := ⟨[(.rs c.1.z .impl_Vip c.1.n c.1.f), .dead, .dead, (.os 0 c.2.1), (.int .i64 w.1), .dead, .dead, .dead, .dead, .dead, .dead, .dead, .dead, .dead, .dead, .dead, .dead, .dead, .dead, .dead, .dead, .dead, .dead], [(.row .impl_Vip c.2.2 w.2)]⟩
def Bk_laws_toVipS_0 {ρ : Type} (fu : Nat) (c : (Sl S_impl_Vip) × Nat × Nat) (k : Ex → St RT den → Option ρ) (w : Int × (Nat → S_impl_Vip)) (go : (Int × (Nat → S_impl_Vip)) → Option ρ) : Option ρ := F_laws_toVipS_B0 fu c.1 c.2.1 c.2.2 (fun a0 => k (.exit 0) ⟨[.dead, .dead, .dead, (.os 0 c.2.1), .dead, .dead, .dead, .dead, .dead, .dead, .dead, .dead, .dead, .dead, .dead, .dead, .dead, .dead, .dead, .dead, .dead, .dead, .dead], [(.row .impl_Vip c.2.2 a0)]⟩) w.1 w.2 (fun q0 q1 => go (q0, q1))
def lp_laws_toVipS (fu : Nat) : Lp RT den ((Sl S_impl_Vip)) := fun b s k => match b with | 0 => handle ps_laws_toVipS_0 os_laws_toVipS_0 conv_laws_toVipS_0 (Bk_laws_toVipS_0 fu) fu s k | _ => none
theorem ev_laws_toVipS (fu : Nat) (a_0 : (Sl S_impl_Vip)) : evFun E (pc_laws_toVipS fu) msk_laws_toVipS (lp_laws_toVipS fu) out_sl_impl_Vip 74 [(.rs a_0.z .impl_Vip a_0.n a_0.f)] = F_laws_toVipS fu a_0 := by kernel_rfl
noncomputable def body_laws_toVipS : Code := Try.f74.body.getD .skip
noncomputable def lc_laws_toVipS_0 : Code := ((loops 0 body_laws_toVipS).getD 0 (0, .skip)).2
theorem round_laws_toVipS_0 (fu : Nat) (it : St RT den → Option ((Sl S_impl_Vip))) (k : Ex → St RT den → Option ((Sl S_impl_Vip))) c w : evCode E (pc_laws_toVipS fu) msk_laws_toVipS (lp_laws_toVipS fu) 0 lc_laws_toVipS_0 (back_laws_toVipS_0 c w) (after (msk_laws_toVipS 0) (msk_laws_toVipS 100000) 1 it k) = Bk_laws_toVipS_0 fu c k w (fun w => it (back_laws_toVipS_0 c w)) := by kernel_rfl
theorem lpok_laws_toVipS_0 (fu : Nat) : ∀ s k r, lp_laws_toVipS fu 0 s k = some r → ∃ fuel, iter (msk_laws_toVipS 0) (msk_laws_toVipS 100000) s.objs.length (evCode E (pc_laws_toVipS fu) msk_laws_toVipS (lp_laws_toVipS fu) 0 lc_laws_toVipS_0) fuel s k = some r :=
  handle_ok (ps := ps_laws_toVipS_0) (os := os_laws_toVipS_0) (conv := conv_laws_toVipS_0) (B := Bk_laws_toVipS_0 fu) (fu := fu) back_laws_toVipS_0 (fun raw => by kernel_rfl) 1 (fun c w => by kernel_rfl) (round_laws_toVipS_0 fu)
theorem lpok_laws_toVipS (fu : Nat) : LpOk E (pc_laws_toVipS fu) msk_laws_toVipS (lp_laws_toVipS fu) (loops 0 body_laws_toVipS) := loop_all 1 (by kernel_rfl) fun i hi => match i, hi with
  | 0, _ => by
    have h : (loops 0 body_laws_toVipS).getD 0 (0, .skip) = (0, lc_laws_toVipS_0) := by kernel_rfl
    rw [h]; exact lpok_laws_toVipS_0 fu
  | i + 1, hi => absurd hi (by omega)
def S_laws_toVipS (fu : Nat) (xs : List (D RT den)) : Option (Out RT den) := match xs with | [.rs za0_0 .impl_Vip na0_0 fa0_0] => some ⟨(Sl S_impl_Vip), F_laws_toVipS fu (⟨za0_0, na0_0, fa0_0⟩ : (Sl S_impl_Vip)), enc_sl_impl_Vip, fun _ => true⟩ | _ => none
theorem hpc_laws_toVipS (fu : Nat) : ∀ f xs o, pc_laws_toVipS fu f xs = some o → ∀ y, o.x = some y → Good E Try.prog f xs (o.g y) := by
  intro f xs o h
  unfold pc_laws_toVipS at h
  split at h
  · exact good_laws_toVip fu xs o h
  · cases h
theorem goodv_laws_toVipS (fu : Nat) (a_0 : (Sl S_impl_Vip)) (y : (Sl S_impl_Vip)) (hy : F_laws_toVipS fu a_0 = some y) : Good E Try.prog 74 [(.rs a_0.z .impl_Vip a_0.n a_0.f)] (enc_sl_impl_Vip y) :=
  fun_good E_ok (pc_good (hpc_laws_toVipS fu)) (fn := Try.f74) (c := body_laws_toVipS) (out := out_sl_impl_Vip) (y := y) (by kernel_rfl) (by kernel_rfl) (by kernel_rfl) (lpok_laws_toVipS fu) (fun d hd => out_sl_impl_Vip_enc d _ hd) ((ev_laws_toVipS fu a_0).trans hy)
theorem good_laws_toVipS (fu : Nat) : ∀ xs o, S_laws_toVipS fu xs = some o → ∀ y, o.x = some y → Good E Try.prog 74 xs (o.g y) := by
  intro xs o h y hy
  unfold S_laws_toVipS at h
  split at h
  · rename_i za0_0 na0_0 fa0_0
    cases h
    exact goodv_laws_toVipS fu (⟨za0_0, na0_0, fa0_0⟩ : (Sl S_impl_Vip)) y hy
  · cases h

/-! laws.toConfig -/
def F_laws_toConfig (fu : Nat) (a_0 : S_laws_Config) : Option (S_impl_Config) :=
  ((F_laws_toBackendS fu a_0.Backends).bind fun y118 => ((F_laws_toVipS fu a_0.Vips).bind fun y119 => (some (⟨a_0.Version, y118, y119⟩ : S_impl_Config))))
def pc_laws_toConfig (fu : Nat) : Pc RT den := fun f xs => match f with | 73 => S_laws_toBackendS fu xs | 74 => S_laws_toVipS fu xs | _ => none
def msk_laws_toConfig (b : Nat) : List Nat := []
def lp_laws_toConfig (fu : Nat) : Lp RT den (S_impl_Config) := fun b s k => none
theorem ev_laws_toConfig (fu : Nat) (a_0 : S_laws_Config) : evFun E (pc_laws_toConfig fu) msk_laws_toConfig (lp_laws_toConfig fu) out_impl_Config 56 [(.agg [(.int .i64 a_0.Version), (.rs a_0.Backends.z .impl_Backend a_0.Backends.n a_0.Backends.f), (.rs a_0.Vips.z .impl_Vip a_0.Vips.n a_0.Vips.f)])] = F_laws_toConfig fu a_0 := by kernel_rfl
noncomputable def body_laws_toConfig : Code := Try.f56.body.getD .skip
theorem lpok_laws_toConfig (fu : Nat) : LpOk E (pc_laws_toConfig fu) msk_laws_toConfig (lp_laws_toConfig fu) (loops 0 body_laws_toConfig) := by
  have h : loops 0 body_laws_toConfig = [] := by kernel_rfl
  rw [h]; intro p hp; cases hp
def S_laws_toConfig (fu : Nat) (xs : List (D RT den)) : Option (Out RT den) := match xs with | [.agg [.int .i64 a0_1, .rs za0_2 .impl_Backend na0_2 fa0_2, .rs za0_3 .impl_Vip na0_3 fa0_3]] => some ⟨S_impl_Config, F_laws_toConfig fu (⟨a0_1, (⟨za0_2, na0_2, fa0_2⟩ : (Sl S_impl_Backend)), (⟨za0_3, na0_3, fa0_3⟩ : (Sl S_impl_Vip))⟩ : S_laws_Config), enc_impl_Config, fun _ => true⟩ | _ => none
theorem hpc_laws_toConfig (fu : Nat) : ∀ f xs o, pc_laws_toConfig fu f xs = some o → ∀ y, o.x = some y → Good E Try.prog f xs (o.g y) := by
  intro f xs o h
  unfold pc_laws_toConfig at h
  split at h
  · exact good_laws_toBackendS fu xs o h
  · exact good_laws_toVipS fu xs o h
  · cases h
theorem goodv_laws_toConfig (fu : Nat) (a_0 : S_laws_Config) (y : S_impl_Config) (hy : F_laws_toConfig fu a_0 = some y) : Good E Try.prog 56 [(.agg [(.int .i64 a_0.Version), (.rs a_0.Backends.z .impl_Backend a_0.Backends.n a_0.Backends.f), (.rs a_0.Vips.z .impl_Vip a_0.Vips.n a_0.Vips.f)])] (enc_impl_Config y) :=
  fun_good E_ok (pc_good (hpc_laws_toConfig fu)) (fn := Try.f56) (c := body_laws_toConfig) (out := out_impl_Config) (y := y) (by kernel_rfl) (by kernel_rfl) (by kernel_rfl) (lpok_laws_toConfig fu) (fun d hd => out_impl_Config_enc d _ hd) ((ev_laws_toConfig fu a_0).trans hy)
theorem good_laws_toConfig (fu : Nat) : ∀ xs o, S_laws_toConfig fu xs = some o → ∀ y, o.x = some y → Good E Try.prog 56 xs (o.g y) := by
  intro xs o h y hy
  unfold S_laws_toConfig at h
  split at h
  · rename_i a0_1 za0_2 na0_2 fa0_2 za0_3 na0_3 fa0_3
    cases h
    exact goodv_laws_toConfig fu (⟨a0_1, (⟨za0_2, na0_2, fa0_2⟩ : (Sl S_impl_Backend)), (⟨za0_3, na0_3, fa0_3⟩ : (Sl S_impl_Vip))⟩ : S_laws_Config) y hy
  · cases h

/-! laws.toSession -/
def F_laws_toSession (fu : Nat) (a_0 : S_impl_Session) : Option (S_impl_Session) :=
  (some a_0)
def pc_laws_toSession (fu : Nat) : Pc RT den := fun f xs => none
def msk_laws_toSession (b : Nat) : List Nat := []
def lp_laws_toSession (fu : Nat) : Lp RT den (S_impl_Session) := fun b s k => none
theorem ev_laws_toSession (fu : Nat) (a_0 : S_impl_Session) : evFun E (pc_laws_toSession fu) msk_laws_toSession (lp_laws_toSession fu) out_impl_Session 75 [(.agg [(.int .i64 a_0.Client), (.int .i64 a_0.Seq), (.int .i64 a_0.Code)])] = F_laws_toSession fu a_0 := by kernel_rfl
noncomputable def body_laws_toSession : Code := Try.f75.body.getD .skip
theorem lpok_laws_toSession (fu : Nat) : LpOk E (pc_laws_toSession fu) msk_laws_toSession (lp_laws_toSession fu) (loops 0 body_laws_toSession) := by
  have h : loops 0 body_laws_toSession = [] := by kernel_rfl
  rw [h]; intro p hp; cases hp
def S_laws_toSession (fu : Nat) (xs : List (D RT den)) : Option (Out RT den) := match xs with | [.agg [.int .i64 a0_1, .int .i64 a0_2, .int .i64 a0_3]] => some ⟨S_impl_Session, F_laws_toSession fu (⟨a0_1, a0_2, a0_3⟩ : S_impl_Session), enc_impl_Session, fun _ => true⟩ | _ => none
theorem hpc_laws_toSession (fu : Nat) : ∀ f xs o, pc_laws_toSession fu f xs = some o → ∀ y, o.x = some y → Good E Try.prog f xs (o.g y) := by
  intro f xs o h
  cases h
theorem goodv_laws_toSession (fu : Nat) (a_0 : S_impl_Session) (y : S_impl_Session) (hy : F_laws_toSession fu a_0 = some y) : Good E Try.prog 75 [(.agg [(.int .i64 a_0.Client), (.int .i64 a_0.Seq), (.int .i64 a_0.Code)])] (enc_impl_Session y) :=
  fun_good E_ok (pc_good (hpc_laws_toSession fu)) (fn := Try.f75) (c := body_laws_toSession) (out := out_impl_Session) (y := y) (by kernel_rfl) (by kernel_rfl) (by kernel_rfl) (lpok_laws_toSession fu) (fun d hd => out_impl_Session_enc d _ hd) ((ev_laws_toSession fu a_0).trans hy)
theorem good_laws_toSession (fu : Nat) : ∀ xs o, S_laws_toSession fu xs = some o → ∀ y, o.x = some y → Good E Try.prog 75 xs (o.g y) := by
  intro xs o h y hy
  unfold S_laws_toSession at h
  split at h
  · rename_i a0_1 a0_2 a0_3
    cases h
    exact goodv_laws_toSession fu (⟨a0_1, a0_2, a0_3⟩ : S_impl_Session) y hy
  · cases h

/-! laws.toSessionS -/
def F_laws_toSessionS_B0 {ρ : Type} (fu : Nat) (a0_0 : (Sl S_impl_Session)) (out3_1 : Nat) (on0_3 : Nat) (k0 : (Nat → S_impl_Session) → Option ρ) (i4_2 : Int) (of0_4 : (Nat → S_impl_Session)) (go : Int → (Nat → S_impl_Session) → Option ρ) : Option ρ :=
  (bif (decide (i4_2 < ((a0_0.n : Nat) : Int))) then ((bif (decide (0 ≤ i4_2) && decide ((Int.toNat i4_2) < a0_0.n)) then some () else none : Option Unit).bind fun _ =>
    ((F_laws_toSession fu (a0_0.f (Int.toNat i4_2))).bind fun y126 => ((bif (decide (0 ≤ i4_2) && decide ((Int.toNat i4_2) < out3_1)) then some () else none : Option Unit).bind fun _ =>
    (go (IntKind.wrap .i64 (i4_2 + 1)) (fun j => if j = (Int.toNat i4_2) then y126 else of0_4 j))))) else (k0 of0_4))
def F_laws_toSessionS (fu : Nat) (a_0 : (Sl S_impl_Session)) : Option ((Sl S_impl_Session)) :=
  (bif (decide (0 ≤ ((a_0.n : Nat) : Int)) && (decide (((a_0.n : Nat) : Int) = ((a_0.n : Nat) : Int)) && (decide ((24 : Int) * ((a_0.n : Nat) : Int) ≤ 281474976710656) && decide (((a_0.n : Nat) : Int) ≤ 9223372036854775807)))) then
    (L (fun w0 go0 => F_laws_toSessionS_B0 fu a_0 (Int.toNat ((a_0.n : Nat) : Int)) (Int.toNat ((a_0.n : Nat) : Int)) (fun z127 => (some (⟨none, (Int.toNat ((a_0.n : Nat) : Int)),
    z127⟩ : (Sl S_impl_Session)))) w0.1 w0.2 (fun q0 q1 => go0 (q0, q1))) fu ((0, (fun _ => (⟨0, 0, 0⟩ : S_impl_Session))) : Int × (Nat → S_impl_Session))) else none)
def pc_laws_toSessionS (fu : Nat) : Pc RT den := fun f xs => match f with | 75 => S_laws_toSession fu xs | _ => none
def msk_laws_toSessionS (b : Nat) : List Nat := match b with | 0 => [1, 2, 5, 6, 7, 8, 9, 10, 11, 12, 13, 14, 15, 16, 17, 18, 19, 20, 21, 22] | 100000 => [0, 1, 4, 5, 6, 7, 8, 9, 10, 11, 12, 13, 14, 15, 16, 17, 18, 19, 20, 21, 22] | _ => []
def ps_laws_toSessionS_0 : List (Pat RT) := [.flat (.rs .impl_Session), .flat .dead, .flat .dead, .flat (.os 0), .flat (.int .i64), .flat .dead, .flat .dead, .flat .dead, .flat .dead, .flat .dead, .flat .dead, .flat .dead, .flat .dead, .flat .dead, .flat .dead, .flat .dead, .flat .dead, .flat .dead, .flat .dead, .flat .dead, .flat .dead, .flat .dead, .flat .dead]
def os_laws_toSessionS_0 : List (OP RT) := [.row .impl_Session]
def conv_laws_toSessionS_0 (r : Raw den ps_laws_toSessionS_0 os_laws_toSessionS_0) : ((Sl S_impl_Session) × Nat × Nat) × (Int × (Nat → S_impl_Session)) := ((r.1.1, r.1.2.2.2.1, r.2.1.1), (r.1.2.2.2.2.1, r.2.1.2))
def back_laws_toSessionS_0 (c : (Sl S_impl_Session) × Nat × Nat) (w : Int × (Nat → S_impl_Session)) : St RT den := ⟨[(.rs c.1.z .impl_Session c.1.n c.1.f), .dead, .dead, (.os 0 c.2.1), (.int .i64 w.1), .dead, .dead, .dead, .dead, .dead, .dead, .dead, .dead, .dead, .dead, .dead, .dead, .dead, .dead, .dead, .dead, .dead, .dead], [(.row .impl_Session c.2.2 w.2)]⟩
def Bk_laws_toSessionS_0 {ρ : Type} (fu : Nat) (c : (Sl S_impl_Session) × Nat × Nat) (k : Ex → St RT den → Option ρ) (w : Int × (Nat → S_impl_Session)) (go : (Int × (Nat → S_impl_Session)) → Option ρ) : Option ρ := F_laws_toSessionS_B0 fu c.1 c.2.1 c.2.2 (fun a0 => k (.exit 0) ⟨[.dead, .dead, .dead, (.os 0 c.2.1), .dead, .dead, .dead, .dead, .dead, .dead, .dead, .dead, .dead, .dead, .dead, .dead, .dead, .dead, .dead, .dead, .dead, .dead, .dead], [(.row .impl_Session c.2.2 a0)]⟩) w.1 w.2 (fun q0 q1 => go (q0, q1))
def lp_laws_toSessionS (fu : Nat) : Lp RT den ((Sl S_impl_Session)) := fun b s k => match b with | 0 => handle ps_laws_toSessionS_0 os_laws_toSessionS_0 conv_laws_toSessionS_0 (Bk_laws_toSessionS_0 fu) fu s k | _ => none
theorem ev_laws_toSessionS (fu : Nat) (a_0 : (Sl S_impl_Session)) : evFun E (pc_laws_toSessionS fu) msk_laws_toSessionS (lp_laws_toSessionS fu) out_sl_impl_Session 57 [(.rs a_0.z .impl_Session a_0.n a_0.f)] = F_laws_toSessionS fu a_0 := by kernel_rfl
noncomputable def body_laws_toSessionS : Code := Try.f57.body.getD .skip
noncomputable def lc_laws_toSessionS_0 : Code := ((loops 0 body_laws_toSessionS).getD 0 (0, .skip)).2
theorem round_laws_toSessionS_0 (fu : Nat) (it : St RT den → Option ((Sl S_impl_Session))) (k : Ex → St RT den → Option ((Sl S_impl_Session))) c w : evCode E (pc_laws_toSessionS fu) msk_laws_toSessionS (lp_laws_toSessionS fu) 0 lc_laws_toSessionS_0 (back_laws_toSessionS_0 c w) (after (msk_laws_toSessionS 0) (msk_laws_toSessionS 100000) 1 it k) = Bk_laws_toSessionS_0 fu c k w (fun w => it (back_laws_toSessionS_0 c w)) := by kernel_rfl
theorem lpok_laws_toSessionS_0 (fu : Nat) : ∀ s k r, lp_laws_toSessionS fu 0 s k = some r → ∃ fuel, iter (msk_laws_toSessionS 0) (msk_laws_toSessionS 100000) s.objs.length (evCode E (pc_laws_toSessionS fu) msk_laws_toSessionS (lp_laws_toSessionS fu) 0 lc_laws_toSessionS_0) fuel s k = some r :=
  handle_ok (ps := ps_laws_toSessionS_0) (os := os_laws_toSessionS_0) (conv := conv_laws_toSessionS_0) (B := Bk_laws_toSessionS_0 fu) (fu := fu) back_laws_toSessionS_0 (fun raw => by kernel_rfl) 1 (fun c w => by kernel_rfl) (round_laws_toSessionS_0 fu)
theorem lpok_laws_toSessionS (fu : Nat) : LpOk E (pc_laws_toSessionS fu) msk_laws_toSessionS (lp_laws_toSessionS fu) (loops 0 body_laws_toSessionS) := loop_all 1 (by kernel_rfl) fun i hi => match i, hi with
  | 0, _ => by
    have h : (loops 0 body_laws_toSessionS).getD 0 (0, .skip) = (0, lc_laws_toSessionS_0) := by kernel_rfl
    rw [h]; exact lpok_laws_toSessionS_0 fu
  | i + 1, hi => absurd hi (by omega)
def S_laws_toSessionS (fu : Nat) (xs : List (D RT den)) : Option (Out RT den) := match xs with | [.rs za0_0 .impl_Session na0_0 fa0_0] => some ⟨(Sl S_impl_Session), F_laws_toSessionS fu (⟨za0_0, na0_0, fa0_0⟩ : (Sl S_impl_Session)), enc_sl_impl_Session, fun _ => true⟩ | _ => none
theorem hpc_laws_toSessionS (fu : Nat) : ∀ f xs o, pc_laws_toSessionS fu f xs = some o → ∀ y, o.x = some y → Good E Try.prog f xs (o.g y) := by
  intro f xs o h
  unfold pc_laws_toSessionS at h
  split at h
  · exact good_laws_toSession fu xs o h
  · cases h
theorem goodv_laws_toSessionS (fu : Nat) (a_0 : (Sl S_impl_Session)) (y : (Sl S_impl_Session)) (hy : F_laws_toSessionS fu a_0 = some y) : Good E Try.prog 57 [(.rs a_0.z .impl_Session a_0.n a_0.f)] (enc_sl_impl_Session y) :=
  fun_good E_ok (pc_good (hpc_laws_toSessionS fu)) (fn := Try.f57) (c := body_laws_toSessionS) (out := out_sl_impl_Session) (y := y) (by kernel_rfl) (by kernel_rfl) (by kernel_rfl) (lpok_laws_toSessionS fu) (fun d hd => out_sl_impl_Session_enc d _ hd) ((ev_laws_toSessionS fu a_0).trans hy)
theorem good_laws_toSessionS (fu : Nat) : ∀ xs o, S_laws_toSessionS fu xs = some o → ∀ y, o.x = some y → Good E Try.prog 57 xs (o.g y) := by
  intro xs o h y hy
  unfold S_laws_toSessionS at h
  split at h
  · rename_i za0_0 na0_0 fa0_0
    cases h
    exact goodv_laws_toSessionS fu (⟨za0_0, na0_0, fa0_0⟩ : (Sl S_impl_Session)) y hy
  · cases h

/-! laws.toMachine -/
def F_laws_toMachine (fu : Nat) (a_0 : S_laws_Machine) : Option (S_impl_Machine) :=
  ((F_laws_toConfig fu a_0.Config).bind fun y116 => ((F_laws_toSessionS fu a_0.Sessions).bind fun y117 => (some (⟨y116, y117⟩ : S_impl_Machine))))
def pc_laws_toMachine (fu : Nat) : Pc RT den := fun f xs => match f with | 56 => S_laws_toConfig fu xs | 57 => S_laws_toSessionS fu xs | _ => none
def msk_laws_toMachine (b : Nat) : List Nat := []
def lp_laws_toMachine (fu : Nat) : Lp RT den (S_impl_Machine) := fun b s k => none
theorem ev_laws_toMachine (fu : Nat) (a_0 : S_laws_Machine) : evFun E (pc_laws_toMachine fu) msk_laws_toMachine (lp_laws_toMachine fu) out_impl_Machine 28 [(.agg [(.int .i64 a_0.Config.Version), (.rs a_0.Config.Backends.z .impl_Backend a_0.Config.Backends.n a_0.Config.Backends.f), (.rs a_0.Config.Vips.z .impl_Vip a_0.Config.Vips.n a_0.Config.Vips.f), (.rs a_0.Sessions.z .impl_Session a_0.Sessions.n a_0.Sessions.f)])] = F_laws_toMachine fu a_0 := by kernel_rfl
noncomputable def body_laws_toMachine : Code := Try.f28.body.getD .skip
theorem lpok_laws_toMachine (fu : Nat) : LpOk E (pc_laws_toMachine fu) msk_laws_toMachine (lp_laws_toMachine fu) (loops 0 body_laws_toMachine) := by
  have h : loops 0 body_laws_toMachine = [] := by kernel_rfl
  rw [h]; intro p hp; cases hp
def S_laws_toMachine (fu : Nat) (xs : List (D RT den)) : Option (Out RT den) := match xs with | [.agg [.int .i64 a0_2, .rs za0_3 .impl_Backend na0_3 fa0_3, .rs za0_4 .impl_Vip na0_4 fa0_4, .rs za0_5 .impl_Session na0_5 fa0_5]] => some ⟨S_impl_Machine, F_laws_toMachine fu (⟨(⟨a0_2, (⟨za0_3, na0_3, fa0_3⟩ : (Sl S_impl_Backend)), (⟨za0_4, na0_4, fa0_4⟩ : (Sl S_impl_Vip))⟩ : S_laws_Config), (⟨za0_5, na0_5, fa0_5⟩ : (Sl S_impl_Session))⟩ : S_laws_Machine), enc_impl_Machine, fun _ => true⟩ | _ => none
theorem hpc_laws_toMachine (fu : Nat) : ∀ f xs o, pc_laws_toMachine fu f xs = some o → ∀ y, o.x = some y → Good E Try.prog f xs (o.g y) := by
  intro f xs o h
  unfold pc_laws_toMachine at h
  split at h
  · exact good_laws_toConfig fu xs o h
  · exact good_laws_toSessionS fu xs o h
  · cases h
theorem goodv_laws_toMachine (fu : Nat) (a_0 : S_laws_Machine) (y : S_impl_Machine) (hy : F_laws_toMachine fu a_0 = some y) : Good E Try.prog 28 [(.agg [(.int .i64 a_0.Config.Version), (.rs a_0.Config.Backends.z .impl_Backend a_0.Config.Backends.n a_0.Config.Backends.f), (.rs a_0.Config.Vips.z .impl_Vip a_0.Config.Vips.n a_0.Config.Vips.f), (.rs a_0.Sessions.z .impl_Session a_0.Sessions.n a_0.Sessions.f)])] (enc_impl_Machine y) :=
  fun_good E_ok (pc_good (hpc_laws_toMachine fu)) (fn := Try.f28) (c := body_laws_toMachine) (out := out_impl_Machine) (y := y) (by kernel_rfl) (by kernel_rfl) (by kernel_rfl) (lpok_laws_toMachine fu) (fun d hd => out_impl_Machine_enc d _ hd) ((ev_laws_toMachine fu a_0).trans hy)
theorem good_laws_toMachine (fu : Nat) : ∀ xs o, S_laws_toMachine fu xs = some o → ∀ y, o.x = some y → Good E Try.prog 28 xs (o.g y) := by
  intro xs o h y hy
  unfold S_laws_toMachine at h
  split at h
  · rename_i a0_2 za0_3 na0_3 fa0_3 za0_4 na0_4 fa0_4 za0_5 na0_5 fa0_5
    cases h
    exact goodv_laws_toMachine fu (⟨(⟨a0_2, (⟨za0_3, na0_3, fa0_3⟩ : (Sl S_impl_Backend)), (⟨za0_4, na0_4, fa0_4⟩ : (Sl S_impl_Vip))⟩ : S_laws_Config), (⟨za0_5, na0_5, fa0_5⟩ : (Sl S_impl_Session))⟩ : S_laws_Machine) y hy
  · cases h

/-! spec.l5Nums -/
def F_spec_l5Nums_B0 {ρ : Type} (fu : Nat) (a0_0 : (Sl Int)) (b1_1 : (Sl Int)) (k0 : Option ρ) (k1 : Option ρ) (i5_2 : Int) (go : Int → Option ρ) : Option ρ :=
  (bif (decide (i5_2 < ((a0_0.n : Nat) : Int))) then ((bif (decide (0 ≤ i5_2) && decide ((Int.toNat i5_2) < a0_0.n)) then some () else none : Option Unit).bind fun _ => ((bif (decide (0 ≤ i5_2) &&
    decide ((Int.toNat i5_2) < b1_1.n)) then some () else none : Option Unit).bind fun _ => (bif ((a0_0.f (Int.toNat i5_2)) != (b1_1.f (Int.toNat i5_2))) then k0 else (go (IntKind.wrap .i64 (i5_2 + 1)))))) else
    k1)
def F_spec_l5Nums (fu : Nat) (a_0 : (Sl Int)) (b_1 : (Sl Int)) : Option (Bool) :=
  (bif (((a_0.n : Nat) : Int) != ((b_1.n : Nat) : Int)) then (some false) else (L (fun w0 go0 => F_spec_l5Nums_B0 fu a_0 b_1 (some false) (some true) w0 go0) fu (0 : Int)))
def pc_spec_l5Nums (fu : Nat) : Pc RT den := fun f xs => none
def msk_spec_l5Nums (b : Nat) : List Nat := match b with | 0 => [2, 3, 4, 6, 7, 8, 9, 10, 11, 12, 13, 14, 15, 16, 17, 18, 19, 20, 21, 22, 23, 24, 25] | 100000 => [0, 1, 2, 3, 5, 6, 7, 8, 9, 10, 11, 12, 13, 14, 15, 16, 17, 18, 19, 20, 21, 22, 23, 24, 25] | _ => []
def ps_spec_l5Nums_0 : List (Pat RT) := [.flat (.rs .i64), .flat (.rs .i64), .flat .dead, .flat .dead, .flat .dead, .flat (.int .i64), .flat .dead, .flat .dead, .flat .dead, .flat .dead, .flat .dead, .flat .dead, .flat .dead, .flat .dead, .flat .dead, .flat .dead, .flat .dead, .flat .dead, .flat .dead, .flat .dead, .flat .dead, .flat .dead, .flat .dead, .flat .dead, .flat .dead, .flat .dead]
def os_spec_l5Nums_0 : List (OP RT) := []
def conv_spec_l5Nums_0 (r : Raw den ps_spec_l5Nums_0 os_spec_l5Nums_0) : ((Sl Int) × (Sl Int)) × (Int) := ((r.1.1, r.1.2.1), r.1.2.2.2.2.2.1)
def back_spec_l5Nums_0 (c : (Sl Int) × (Sl Int)) (w : Int) : St RT den := ⟨[(.rs c.1.z .i64 c.1.n c.1.f), (.rs c.2.z .i64 c.2.n c.2.f), .dead, .dead, .dead, (.int .i64 w), .dead, .dead, .dead, .dead, .dead, .dead, .dead, .dead, .dead, .dead, .dead, .dead, .dead, .dead, .dead, .dead, .dead, .dead, .dead, .dead], []⟩
def Bk_spec_l5Nums_0 {ρ : Type} (fu : Nat) (c : (Sl Int) × (Sl Int)) (k : Ex → St RT den → Option ρ) (w : Int) (go : (Int) → Option ρ) : Option ρ := F_spec_l5Nums_B0 fu c.1 c.2 (k .ret ⟨[.dead, .dead, .dead, .dead, (.bool false), .dead, .dead, .dead, .dead, .dead, .dead, .dead, .dead, .dead, .dead, .dead, .dead, .dead, .dead, .dead, .dead, .dead, .dead, .dead, .dead, .dead], []⟩) (k (.exit 0) ⟨[.dead, .dead, .dead, .dead, .dead, .dead, .dead, .dead, .dead, .dead, .dead, .dead, .dead, .dead, .dead, .dead, .dead, .dead, .dead, .dead, .dead, .dead, .dead, .dead, .dead, .dead], []⟩) w go
def lp_spec_l5Nums (fu : Nat) : Lp RT den (Bool) := fun b s k => match b with | 0 => handle ps_spec_l5Nums_0 os_spec_l5Nums_0 conv_spec_l5Nums_0 (Bk_spec_l5Nums_0 fu) fu s k | _ => none
theorem ev_spec_l5Nums (fu : Nat) (a_0 : (Sl Int)) (b_1 : (Sl Int)) : evFun E (pc_spec_l5Nums fu) msk_spec_l5Nums (lp_spec_l5Nums fu) out_bo 72 [(.rs a_0.z .i64 a_0.n a_0.f), (.rs b_1.z .i64 b_1.n b_1.f)] = F_spec_l5Nums fu a_0 b_1 := by kernel_rfl
noncomputable def body_spec_l5Nums : Code := Try.f72.body.getD .skip
noncomputable def lc_spec_l5Nums_0 : Code := ((loops 0 body_spec_l5Nums).getD 0 (0, .skip)).2
theorem round_spec_l5Nums_0 (fu : Nat) (it : St RT den → Option (Bool)) (k : Ex → St RT den → Option (Bool)) c w : evCode E (pc_spec_l5Nums fu) msk_spec_l5Nums (lp_spec_l5Nums fu) 0 lc_spec_l5Nums_0 (back_spec_l5Nums_0 c w) (after (msk_spec_l5Nums 0) (msk_spec_l5Nums 100000) 0 it k) = Bk_spec_l5Nums_0 fu c k w (fun w => it (back_spec_l5Nums_0 c w)) := by kernel_rfl
theorem lpok_spec_l5Nums_0 (fu : Nat) : ∀ s k r, lp_spec_l5Nums fu 0 s k = some r → ∃ fuel, iter (msk_spec_l5Nums 0) (msk_spec_l5Nums 100000) s.objs.length (evCode E (pc_spec_l5Nums fu) msk_spec_l5Nums (lp_spec_l5Nums fu) 0 lc_spec_l5Nums_0) fuel s k = some r :=
  handle_ok (ps := ps_spec_l5Nums_0) (os := os_spec_l5Nums_0) (conv := conv_spec_l5Nums_0) (B := Bk_spec_l5Nums_0 fu) (fu := fu) back_spec_l5Nums_0 (fun raw => by kernel_rfl) 0 (fun c w => by kernel_rfl) (round_spec_l5Nums_0 fu)
theorem lpok_spec_l5Nums (fu : Nat) : LpOk E (pc_spec_l5Nums fu) msk_spec_l5Nums (lp_spec_l5Nums fu) (loops 0 body_spec_l5Nums) := loop_all 1 (by kernel_rfl) fun i hi => match i, hi with
  | 0, _ => by
    have h : (loops 0 body_spec_l5Nums).getD 0 (0, .skip) = (0, lc_spec_l5Nums_0) := by kernel_rfl
    rw [h]; exact lpok_spec_l5Nums_0 fu
  | i + 1, hi => absurd hi (by omega)
def S_spec_l5Nums (fu : Nat) (xs : List (D RT den)) : Option (Out RT den) := match xs with | [.rs za0_0 .i64 na0_0 fa0_0, .rs za1_0 .i64 na1_0 fa1_0] => some ⟨Bool, F_spec_l5Nums fu (⟨za0_0, na0_0, fa0_0⟩ : (Sl Int)) (⟨za1_0, na1_0, fa1_0⟩ : (Sl Int)), enc_bo, fun _ => true⟩ | _ => none
theorem hpc_spec_l5Nums (fu : Nat) : ∀ f xs o, pc_spec_l5Nums fu f xs = some o → ∀ y, o.x = some y → Good E Try.prog f xs (o.g y) := by
  intro f xs o h
  cases h
theorem goodv_spec_l5Nums (fu : Nat) (a_0 : (Sl Int)) (b_1 : (Sl Int)) (y : Bool) (hy : F_spec_l5Nums fu a_0 b_1 = some y) : Good E Try.prog 72 [(.rs a_0.z .i64 a_0.n a_0.f), (.rs b_1.z .i64 b_1.n b_1.f)] (enc_bo y) :=
  fun_good E_ok (pc_good (hpc_spec_l5Nums fu)) (fn := Try.f72) (c := body_spec_l5Nums) (out := out_bo) (y := y) (by kernel_rfl) (by kernel_rfl) (by kernel_rfl) (lpok_spec_l5Nums fu) (fun d hd => out_bo_enc d _ hd) ((ev_spec_l5Nums fu a_0 b_1).trans hy)
theorem good_spec_l5Nums (fu : Nat) : ∀ xs o, S_spec_l5Nums fu xs = some o → ∀ y, o.x = some y → Good E Try.prog 72 xs (o.g y) := by
  intro xs o h y hy
  unfold S_spec_l5Nums at h
  split at h
  · rename_i za0_0 na0_0 fa0_0 za1_0 na1_0 fa1_0
    cases h
    exact goodv_spec_l5Nums fu (⟨za0_0, na0_0, fa0_0⟩ : (Sl Int)) (⟨za1_0, na1_0, fa1_0⟩ : (Sl Int)) y hy
  · cases h

/-! spec.SameConfigs -/
def F_spec_SameConfigs_B0 {ρ : Type} (fu : Nat) (o0_1 : Int) (o0_2 : (Sl S_impl_Backend)) (o0_3 : (Sl S_impl_Vip)) (o1_4 : Int) (o1_5 : (Sl S_impl_Backend)) (o1_6 : (Sl S_impl_Vip)) (k0 : Option ρ) (k1 : Option ρ) (i5_0 : Int) (go : Int → Option ρ) : Option ρ :=
  (bif (decide (i5_0 < ((o0_2.n : Nat) : Int))) then ((bif (decide (0 ≤ i5_0) && decide ((Int.toNat i5_0) < o0_2.n)) then some () else none : Option Unit).bind fun _ => ((bif (decide (0 ≤ i5_0) &&
    decide ((Int.toNat i5_0) < o1_5.n)) then some () else none : Option Unit).bind fun _ => (bif (!(((o0_2.f (Int.toNat i5_0)).Name == (o1_5.f (Int.toNat i5_0)).Name) && (((o0_2.f (Int.toNat i5_0)).Address == (o1_5.f (Int.toNat i5_0)).Address) &&
    (((o0_2.f (Int.toNat i5_0)).Weight == (o1_5.f (Int.toNat i5_0)).Weight) && (((o0_2.f (Int.toNat i5_0)).Stage == (o1_5.f (Int.toNat i5_0)).Stage) && (((o0_2.f (Int.toNat i5_0)).Up == (o1_5.f (Int.toNat i5_0)).Up) &&
    true)))))) then k0 else (go (IntKind.wrap .i64 (i5_0 + 1)))))) else k1)
def F_spec_SameConfigs_B2 {ρ : Type} (fu : Nat) (o0_1 : Int) (o0_2 : (Sl S_impl_Backend)) (o0_3 : (Sl S_impl_Vip)) (o1_4 : Int) (o1_5 : (Sl S_impl_Backend)) (o1_6 : (Sl S_impl_Vip)) (k0 : Int → Int → Int → (Sl Int) → Int → Int → Int → (Sl Int) → Option ρ) (k1 : Option ρ) (i6_0 : Int) (go : Int → Option ρ) : Option ρ :=
  (bif (decide (i6_0 < ((o0_3.n : Nat) : Int))) then ((bif (decide (0 ≤ i6_0) && decide ((Int.toNat i6_0) < o0_3.n)) then some () else none : Option Unit).bind fun _ => ((bif (decide (0 ≤ i6_0) &&
    decide ((Int.toNat i6_0) < o1_6.n)) then some () else none : Option Unit).bind fun _ => (((bif ((o0_3.f (Int.toNat i6_0)).Address != (o1_6.f (Int.toNat i6_0)).Address) then
    (some true) else (bif ((o0_3.f (Int.toNat i6_0)).Port != (o1_6.f (Int.toNat i6_0)).Port) then (some true) else (bif ((o0_3.f (Int.toNat i6_0)).Proto != (o1_6.f (Int.toNat i6_0)).Proto) then
    (some true) else ((F_spec_l5Nums fu (o0_3.f (Int.toNat i6_0)).Names (o1_6.f (Int.toNat i6_0)).Names).bind fun y131 => (some (!y131)))))) : Option Bool).bind fun m132 => (bif m132 then
    (k0 (o0_3.f (Int.toNat i6_0)).Address (o0_3.f (Int.toNat i6_0)).Port (o0_3.f (Int.toNat i6_0)).Proto (o0_3.f (Int.toNat i6_0)).Names (o1_6.f (Int.toNat i6_0)).Address (o1_6.f (Int.toNat i6_0)).Port (o1_6.f (Int.toNat i6_0)).Proto (o1_6.f (Int.toNat i6_0)).Names) else
    (go (IntKind.wrap .i64 (i6_0 + 1))))))) else k1)
def F_spec_SameConfigs (fu : Nat) (a_0 : S_impl_Config) (b_1 : S_impl_Config) : Option (Bool) :=
  (((bif (a_0.Version != b_1.Version) then (some true) else (bif (((a_0.Backends.n : Nat) : Int) != ((b_1.Backends.n : Nat) : Int)) then (some true) else (some (((a_0.Vips.n : Nat) : Int) != ((b_1.Vips.n : Nat) : Int))))) : Option Bool).bind fun m130 =>
    (bif m130 then (some false) else (L (fun w0 go0 => F_spec_SameConfigs_B0 fu a_0.Version a_0.Backends a_0.Vips b_1.Version b_1.Backends b_1.Vips (some false) (L (fun w2 go2 =>
    F_spec_SameConfigs_B2 fu a_0.Version a_0.Backends a_0.Vips b_1.Version b_1.Backends b_1.Vips (fun z133 z134 z135 z136 z137 z138 z139 z140 => (some false)) (some true) w2 go2) fu (0 : Int)) w0 go0) fu (0 : Int))))
def pc_spec_SameConfigs (fu : Nat) : Pc RT den := fun f xs => match f with | 72 => S_spec_l5Nums fu xs | _ => none
def msk_spec_SameConfigs (b : Nat) : List Nat := match b with | 0 => [0, 1, 4, 6, 7, 8, 9, 10, 11, 12, 13, 14, 15, 16, 17, 18, 19, 20, 21, 22, 23, 24, 25, 26, 27, 28, 29, 30, 31, 32, 33, 34, 35, 36, 37, 38, 39, 40, 41, 42, 43, 44, 45, 46, 47, 48, 49, 50, 51, 52, 53, 54, 55, 56, 57, 58, 59, 60, 61, 62, 63, 64, 65, 66, 67, 68, 69, 70, 71, 72, 73, 74, 75, 76, 77, 78, 79, 80, 81, 82, 83, 84, 85, 86, 87, 88, 89, 90, 91, 92, 93] | 100000 => [0, 1, 5, 6, 7, 8, 9, 10, 11, 12, 13, 14, 15, 16, 17, 18, 19, 20, 21, 22, 23, 24, 25, 26, 27, 28, 29, 30, 31, 32, 33, 34, 35, 36, 37, 38, 39, 40, 41, 42, 43, 44, 45, 46, 47, 48, 49, 50, 51, 52, 53, 54, 55, 56, 57, 58, 59, 60, 61, 62, 63, 64, 65, 66, 67, 68, 69, 70, 71, 72, 73, 74, 75, 76, 77, 78, 79, 80, 81, 82, 83, 84, 85, 86, 87, 88, 89, 90, 91, 92, 93] | 2 => [0, 1, 4, 5, 7, 8, 9, 10, 11, 12, 13, 14, 15, 16, 17, 18, 19, 20, 21, 22, 23, 24, 25, 26, 27, 28, 29, 30, 31, 32, 33, 34, 35, 36, 37, 38, 39, 40, 41, 42, 43, 44, 45, 46, 47, 48, 49, 50, 51, 52, 53, 54, 55, 56, 57, 58, 59, 60, 61, 62, 63, 64, 65, 66, 67, 68, 69, 70, 71, 72, 73, 74, 75, 76, 77, 78, 79, 80, 81, 82, 83, 84, 85, 86, 87, 88, 89, 90, 91, 92, 93] | 100002 => [0, 1, 2, 3, 5, 6, 7, 8, 9, 10, 11, 12, 13, 14, 15, 16, 17, 18, 19, 20, 21, 22, 23, 24, 25, 26, 27, 28, 29, 30, 31, 32, 33, 34, 35, 36, 37, 38, 39, 40, 41, 42, 43, 44, 45, 46, 47, 48, 49, 50, 51, 52, 53, 54, 55, 56, 57, 58, 59, 60, 61, 62, 63, 64, 65, 66, 67, 68, 69, 70, 71, 72, 73, 74, 75, 76, 77, 78, 79, 80, 81, 82, 83, 84, 85, 86, 87, 88, 89, 90, 91, 92, 93] | 200001 => [31] | 200013 => [93] | _ => []
def ps_spec_SameConfigs_0 : List (Pat RT) := [.flat .dead, .flat .dead, .flat (.ref 0 0), .flat (.ref 1 0), .flat .dead, .flat (.int .i64), .flat .dead, .flat .dead, .flat .dead, .flat .dead, .flat .dead, .flat .dead, .flat .dead, .flat .dead, .flat .dead, .flat .dead, .flat .dead, .flat .dead, .flat .dead, .flat .dead, .flat .dead, .flat .dead, .flat .dead, .flat .dead, .flat .dead, .flat .dead, .flat .dead, .flat .dead, .flat .dead, .flat .dead, .flat .dead, .flat .dead, .flat .dead, .flat .dead, .flat .dead, .flat .dead, .flat .dead, .flat .dead, .flat .dead, .flat .dead, .flat .dead, .flat .dead, .flat .dead, .flat .dead, .flat .dead, .flat .dead, .flat .dead, .flat .dead, .flat .dead, .flat .dead, .flat .dead, .flat .dead, .flat .dead, .flat .dead, .flat .dead, .flat .dead, .flat .dead, .flat .dead, .flat .dead, .flat .dead, .flat .dead, .flat .dead, .flat .dead, .flat .dead, .flat .dead, .flat .dead, .flat .dead, .flat .dead, .flat .dead, .flat .dead, .flat .dead, .flat .dead, .flat .dead, .flat .dead, .flat .dead, .flat .dead, .flat .dead, .flat .dead, .flat .dead, .flat .dead, .flat .dead, .flat .dead, .flat .dead, .flat .dead, .flat .dead, .flat .dead, .flat .dead, .flat .dead, .flat .dead, .flat .dead, .flat .dead, .flat .dead, .flat .dead, .flat .dead]
def os_spec_SameConfigs_0 : List (OP RT) := [.box [(.int .i64), (.rs .impl_Backend), (.rs .impl_Vip)], .box [(.int .i64), (.rs .impl_Backend), (.rs .impl_Vip)]]
def conv_spec_SameConfigs_0 (r : Raw den ps_spec_SameConfigs_0 os_spec_SameConfigs_0) : (Int × (Sl S_impl_Backend) × (Sl S_impl_Vip) × Int × (Sl S_impl_Backend) × (Sl S_impl_Vip)) × (Int) := ((r.2.1.1, r.2.1.2.1, r.2.1.2.2.1, r.2.2.1.1, r.2.2.1.2.1, r.2.2.1.2.2.1), r.1.2.2.2.2.2.1)
def back_spec_SameConfigs_0 (c : Int × (Sl S_impl_Backend) × (Sl S_impl_Vip) × Int × (Sl S_impl_Backend) × (Sl S_impl_Vip)) (w : Int) : St RT den := ⟨[.dead, .dead, (.ref 0 0), (.ref 1 0), .dead, (.int .i64 w), .dead, .dead, .dead, .dead, .dead, .dead, .dead, .dead, .dead, .dead, .dead, .dead, .dead, .dead, .dead, .dead, .dead, .dead, .dead, .dead, .dead, .dead, .dead, .dead, .dead, .dead, .dead, .dead, .dead, .dead, .dead, .dead, .dead, .dead, .dead, .dead, .dead, .dead, .dead, .dead, .dead, .dead, .dead, .dead, .dead, .dead, .dead, .dead, .dead, .dead, .dead, .dead, .dead, .dead, .dead, .dead, .dead, .dead, .dead, .dead, .dead, .dead, .dead, .dead, .dead, .dead, .dead, .dead, .dead, .dead, .dead, .dead, .dead, .dead, .dead, .dead, .dead, .dead, .dead, .dead, .dead, .dead, .dead, .dead, .dead, .dead, .dead, .dead], [(.box [(.int .i64 c.1), (.rs c.2.1.z .impl_Backend c.2.1.n c.2.1.f), (.rs c.2.2.1.z .impl_Vip c.2.2.1.n c.2.2.1.f)]), (.box [(.int .i64 c.2.2.2.1), (.rs c.2.2.2.2.1.z .impl_Backend c.2.2.2.2.1.n c.2.2.2.2.1.f), (.rs c.2.2.2.2.2.z .impl_Vip c.2.2.2.2.2.n c.2.2.2.2.2.f)])]⟩
def Bk_spec_SameConfigs_0 {ρ : Type} (fu : Nat) (c : Int × (Sl S_impl_Backend) × (Sl S_impl_Vip) × Int × (Sl S_impl_Backend) × (Sl S_impl_Vip)) (k : Ex → St RT den → Option ρ) (w : Int) (go : (Int) → Option ρ) : Option ρ := F_spec_SameConfigs_B0 fu c.1 c.2.1 c.2.2.1 c.2.2.2.1 c.2.2.2.2.1 c.2.2.2.2.2 (k .ret ⟨[.dead, .dead, (.ref 0 0), (.ref 1 0), (.bool false), .dead, .dead, .dead, .dead, .dead, .dead, .dead, .dead, .dead, .dead, .dead, .dead, .dead, .dead, .dead, .dead, .dead, .dead, .dead, .dead, .dead, .dead, .dead, .dead, .dead, .dead, .dead, .dead, .dead, .dead, .dead, .dead, .dead, .dead, .dead, .dead, .dead, .dead, .dead, .dead, .dead, .dead, .dead, .dead, .dead, .dead, .dead, .dead, .dead, .dead, .dead, .dead, .dead, .dead, .dead, .dead, .dead, .dead, .dead, .dead, .dead, .dead, .dead, .dead, .dead, .dead, .dead, .dead, .dead, .dead, .dead, .dead, .dead, .dead, .dead, .dead, .dead, .dead, .dead, .dead, .dead, .dead, .dead, .dead, .dead, .dead, .dead, .dead, .dead], [(.box [(.int .i64 c.1), (.rs c.2.1.z .impl_Backend c.2.1.n c.2.1.f), (.rs c.2.2.1.z .impl_Vip c.2.2.1.n c.2.2.1.f)]), (.box [(.int .i64 c.2.2.2.1), (.rs c.2.2.2.2.1.z .impl_Backend c.2.2.2.2.1.n c.2.2.2.2.1.f), (.rs c.2.2.2.2.2.z .impl_Vip c.2.2.2.2.2.n c.2.2.2.2.2.f)])]⟩) (k (.exit 0) ⟨[.dead, .dead, (.ref 0 0), (.ref 1 0), .dead, .dead, .dead, .dead, .dead, .dead, .dead, .dead, .dead, .dead, .dead, .dead, .dead, .dead, .dead, .dead, .dead, .dead, .dead, .dead, .dead, .dead, .dead, .dead, .dead, .dead, .dead, .dead, .dead, .dead, .dead, .dead, .dead, .dead, .dead, .dead, .dead, .dead, .dead, .dead, .dead, .dead, .dead, .dead, .dead, .dead, .dead, .dead, .dead, .dead, .dead, .dead, .dead, .dead, .dead, .dead, .dead, .dead, .dead, .dead, .dead, .dead, .dead, .dead, .dead, .dead, .dead, .dead, .dead, .dead, .dead, .dead, .dead, .dead, .dead, .dead, .dead, .dead, .dead, .dead, .dead, .dead, .dead, .dead, .dead, .dead, .dead, .dead, .dead, .dead], [(.box [(.int .i64 c.1), (.rs c.2.1.z .impl_Backend c.2.1.n c.2.1.f), (.rs c.2.2.1.z .impl_Vip c.2.2.1.n c.2.2.1.f)]), (.box [(.int .i64 c.2.2.2.1), (.rs c.2.2.2.2.1.z .impl_Backend c.2.2.2.2.1.n c.2.2.2.2.1.f), (.rs c.2.2.2.2.2.z .impl_Vip c.2.2.2.2.2.n c.2.2.2.2.2.f)])]⟩) w go
def ps_spec_SameConfigs_2 : List (Pat RT) := [.flat .dead, .flat .dead, .flat (.ref 0 0), .flat (.ref 1 0), .flat .dead, .flat .dead, .flat (.int .i64), .flat .dead, .flat .dead, .flat .dead, .flat .dead, .flat .dead, .flat .dead, .flat .dead, .flat .dead, .flat .dead, .flat .dead, .flat .dead, .flat .dead, .flat .dead, .flat .dead, .flat .dead, .flat .dead, .flat .dead, .flat .dead, .flat .dead, .flat .dead, .flat .dead, .flat .dead, .flat .dead, .flat .dead, .flat .dead, .flat .dead, .flat .dead, .flat .dead, .flat .dead, .flat .dead, .flat .dead, .flat .dead, .flat .dead, .flat .dead, .flat .dead, .flat .dead, .flat .dead, .flat .dead, .flat .dead, .flat .dead, .flat .dead, .flat .dead, .flat .dead, .flat .dead, .flat .dead, .flat .dead, .flat .dead, .flat .dead, .flat .dead, .flat .dead, .flat .dead, .flat .dead, .flat .dead, .flat .dead, .flat .dead, .flat .dead, .flat .dead, .flat .dead, .flat .dead, .flat .dead, .flat .dead, .flat .dead, .flat .dead, .flat .dead, .flat .dead, .flat .dead, .flat .dead, .flat .dead, .flat .dead, .flat .dead, .flat .dead, .flat .dead, .flat .dead, .flat .dead, .flat .dead, .flat .dead, .flat .dead, .flat .dead, .flat .dead, .flat .dead, .flat .dead, .flat .dead, .flat .dead, .flat .dead, .flat .dead, .flat .dead, .flat .dead]
def os_spec_SameConfigs_2 : List (OP RT) := [.box [(.int .i64), (.rs .impl_Backend), (.rs .impl_Vip)], .box [(.int .i64), (.rs .impl_Backend), (.rs .impl_Vip)]]
def conv_spec_SameConfigs_2 (r : Raw den ps_spec_SameConfigs_2 os_spec_SameConfigs_2) : (Int × (Sl S_impl_Backend) × (Sl S_impl_Vip) × Int × (Sl S_impl_Backend) × (Sl S_impl_Vip)) × (Int) := ((r.2.1.1, r.2.1.2.1, r.2.1.2.2.1, r.2.2.1.1, r.2.2.1.2.1, r.2.2.1.2.2.1), r.1.2.2.2.2.2.2.1)
def back_spec_SameConfigs_2 (c : Int × (Sl S_impl_Backend) × (Sl S_impl_Vip) × Int × (Sl S_impl_Backend) × (Sl S_impl_Vip)) (w : Int) : St RT den := ⟨[.dead, .dead, (.ref 0 0), (.ref 1 0), .dead, .dead, (.int .i64 w), .dead, .dead, .dead, .dead, .dead, .dead, .dead, .dead, .dead, .dead, .dead, .dead, .dead, .dead, .dead, .dead, .dead, .dead, .dead, .dead, .dead, .dead, .dead, .dead, .dead, .dead, .dead, .dead, .dead, .dead, .dead, .dead, .dead, .dead, .dead, .dead, .dead, .dead, .dead, .dead, .dead, .dead, .dead, .dead, .dead, .dead, .dead, .dead, .dead, .dead, .dead, .dead, .dead, .dead, .dead, .dead, .dead, .dead, .dead, .dead, .dead, .dead, .dead, .dead, .dead, .dead, .dead, .dead, .dead, .dead, .dead, .dead, .dead, .dead, .dead, .dead, .dead, .dead, .dead, .dead, .dead, .dead, .dead, .dead, .dead, .dead, .dead], [(.box [(.int .i64 c.1), (.rs c.2.1.z .impl_Backend c.2.1.n c.2.1.f), (.rs c.2.2.1.z .impl_Vip c.2.2.1.n c.2.2.1.f)]), (.box [(.int .i64 c.2.2.2.1), (.rs c.2.2.2.2.1.z .impl_Backend c.2.2.2.2.1.n c.2.2.2.2.1.f), (.rs c.2.2.2.2.2.z .impl_Vip c.2.2.2.2.2.n c.2.2.2.2.2.f)])]⟩
def Bk_spec_SameConfigs_2 {ρ : Type} (fu : Nat) (c : Int × (Sl S_impl_Backend) × (Sl S_impl_Vip) × Int × (Sl S_impl_Backend) × (Sl S_impl_Vip)) (k : Ex → St RT den → Option ρ) (w : Int) (go : (Int) → Option ρ) : Option ρ := F_spec_SameConfigs_B2 fu c.1 c.2.1 c.2.2.1 c.2.2.2.1 c.2.2.2.2.1 c.2.2.2.2.2 (fun a0 a1 a2 a3 a4 a5 a6 a7 => k .ret ⟨[.dead, .dead, .dead, .dead, (.bool false), .dead, .dead, .dead, .dead, .dead, .dead, .dead, .dead, .dead, .dead, .dead, .dead, .dead, .dead, .dead, .dead, .dead, .dead, .dead, .dead, .dead, .dead, .dead, .dead, .dead, .dead, .dead, .dead, .dead, .dead, .dead, .dead, .dead, .dead, .dead, .dead, .dead, .dead, .dead, .dead, .dead, .dead, .dead, .dead, .dead, .dead, .dead, .dead, .dead, .dead, .dead, .dead, .dead, .dead, .dead, .dead, .dead, .dead, .dead, .dead, .dead, .dead, .dead, .dead, .dead, .dead, .dead, .dead, .dead, .dead, .dead, .dead, .dead, .dead, .dead, .dead, .dead, .dead, .dead, .dead, .dead, .dead, .dead, .dead, .dead, .dead, .dead, .dead, .dead], [(.box [(.int .i64 c.1), (.rs c.2.1.z .impl_Backend c.2.1.n c.2.1.f), (.rs c.2.2.1.z .impl_Vip c.2.2.1.n c.2.2.1.f)]), (.box [(.int .i64 c.2.2.2.1), (.rs c.2.2.2.2.1.z .impl_Backend c.2.2.2.2.1.n c.2.2.2.2.1.f), (.rs c.2.2.2.2.2.z .impl_Vip c.2.2.2.2.2.n c.2.2.2.2.2.f)]), (.box [(.int .i64 a0), (.int .i64 a1), (.int .i64 a2), (.rs a3.z .i64 a3.n a3.f)]), (.box [(.int .i64 a4), (.int .i64 a5), (.int .i64 a6), (.rs a7.z .i64 a7.n a7.f)])]⟩) (k (.exit 2) ⟨[.dead, .dead, .dead, .dead, .dead, .dead, .dead, .dead, .dead, .dead, .dead, .dead, .dead, .dead, .dead, .dead, .dead, .dead, .dead, .dead, .dead, .dead, .dead, .dead, .dead, .dead, .dead, .dead, .dead, .dead, .dead, .dead, .dead, .dead, .dead, .dead, .dead, .dead, .dead, .dead, .dead, .dead, .dead, .dead, .dead, .dead, .dead, .dead, .dead, .dead, .dead, .dead, .dead, .dead, .dead, .dead, .dead, .dead, .dead, .dead, .dead, .dead, .dead, .dead, .dead, .dead, .dead, .dead, .dead, .dead, .dead, .dead, .dead, .dead, .dead, .dead, .dead, .dead, .dead, .dead, .dead, .dead, .dead, .dead, .dead, .dead, .dead, .dead, .dead, .dead, .dead, .dead, .dead, .dead], [(.box [(.int .i64 c.1), (.rs c.2.1.z .impl_Backend c.2.1.n c.2.1.f), (.rs c.2.2.1.z .impl_Vip c.2.2.1.n c.2.2.1.f)]), (.box [(.int .i64 c.2.2.2.1), (.rs c.2.2.2.2.1.z .impl_Backend c.2.2.2.2.1.n c.2.2.2.2.1.f), (.rs c.2.2.2.2.2.z .impl_Vip c.2.2.2.2.2.n c.2.2.2.2.2.f)])]⟩) w go
def lp_spec_SameConfigs (fu : Nat) : Lp RT den (Bool) := fun b s k => match b with | 0 => handle ps_spec_SameConfigs_0 os_spec_SameConfigs_0 conv_spec_SameConfigs_0 (Bk_spec_SameConfigs_0 fu) fu s k | 2 => handle ps_spec_SameConfigs_2 os_spec_SameConfigs_2 conv_spec_SameConfigs_2 (Bk_spec_SameConfigs_2 fu) fu s k | _ => none
theorem ev_spec_SameConfigs (fu : Nat) (a_0 : S_impl_Config) (b_1 : S_impl_Config) : evFun E (pc_spec_SameConfigs fu) msk_spec_SameConfigs (lp_spec_SameConfigs fu) out_bo 55 [(.agg [(.int .i64 a_0.Version), (.rs a_0.Backends.z .impl_Backend a_0.Backends.n a_0.Backends.f), (.rs a_0.Vips.z .impl_Vip a_0.Vips.n a_0.Vips.f)]), (.agg [(.int .i64 b_1.Version), (.rs b_1.Backends.z .impl_Backend b_1.Backends.n b_1.Backends.f), (.rs b_1.Vips.z .impl_Vip b_1.Vips.n b_1.Vips.f)])] = F_spec_SameConfigs fu a_0 b_1 := by kernel_rfl
noncomputable def body_spec_SameConfigs : Code := Try.f55.body.getD .skip
noncomputable def lc_spec_SameConfigs_0 : Code := ((loops 0 body_spec_SameConfigs).getD 0 (0, .skip)).2
theorem round_spec_SameConfigs_0 (fu : Nat) (it : St RT den → Option (Bool)) (k : Ex → St RT den → Option (Bool)) c w : evCode E (pc_spec_SameConfigs fu) msk_spec_SameConfigs (lp_spec_SameConfigs fu) 0 lc_spec_SameConfigs_0 (back_spec_SameConfigs_0 c w) (after (msk_spec_SameConfigs 0) (msk_spec_SameConfigs 100000) 2 it k) = Bk_spec_SameConfigs_0 fu c k w (fun w => it (back_spec_SameConfigs_0 c w)) := by kernel_rfl
theorem lpok_spec_SameConfigs_0 (fu : Nat) : ∀ s k r, lp_spec_SameConfigs fu 0 s k = some r → ∃ fuel, iter (msk_spec_SameConfigs 0) (msk_spec_SameConfigs 100000) s.objs.length (evCode E (pc_spec_SameConfigs fu) msk_spec_SameConfigs (lp_spec_SameConfigs fu) 0 lc_spec_SameConfigs_0) fuel s k = some r :=
  handle_ok (ps := ps_spec_SameConfigs_0) (os := os_spec_SameConfigs_0) (conv := conv_spec_SameConfigs_0) (B := Bk_spec_SameConfigs_0 fu) (fu := fu) back_spec_SameConfigs_0 (fun raw => by kernel_rfl) 2 (fun c w => by kernel_rfl) (round_spec_SameConfigs_0 fu)
noncomputable def lc_spec_SameConfigs_2 : Code := ((loops 0 body_spec_SameConfigs).getD 1 (0, .skip)).2
theorem round_spec_SameConfigs_2 (fu : Nat) (it : St RT den → Option (Bool)) (k : Ex → St RT den → Option (Bool)) c w : evCode E (pc_spec_SameConfigs fu) msk_spec_SameConfigs (lp_spec_SameConfigs fu) 2 lc_spec_SameConfigs_2 (back_spec_SameConfigs_2 c w) (after (msk_spec_SameConfigs 2) (msk_spec_SameConfigs 100002) 2 it k) = Bk_spec_SameConfigs_2 fu c k w (fun w => it (back_spec_SameConfigs_2 c w)) := by kernel_rfl
theorem lpok_spec_SameConfigs_2 (fu : Nat) : ∀ s k r, lp_spec_SameConfigs fu 2 s k = some r → ∃ fuel, iter (msk_spec_SameConfigs 2) (msk_spec_SameConfigs 100002) s.objs.length (evCode E (pc_spec_SameConfigs fu) msk_spec_SameConfigs (lp_spec_SameConfigs fu) 2 lc_spec_SameConfigs_2) fuel s k = some r :=
  handle_ok (ps := ps_spec_SameConfigs_2) (os := os_spec_SameConfigs_2) (conv := conv_spec_SameConfigs_2) (B := Bk_spec_SameConfigs_2 fu) (fu := fu) back_spec_SameConfigs_2 (fun raw => by kernel_rfl) 2 (fun c w => by kernel_rfl) (round_spec_SameConfigs_2 fu)
theorem lpok_spec_SameConfigs (fu : Nat) : LpOk E (pc_spec_SameConfigs fu) msk_spec_SameConfigs (lp_spec_SameConfigs fu) (loops 0 body_spec_SameConfigs) := loop_all 2 (by kernel_rfl) fun i hi => match i, hi with
  | 0, _ => by
    have h : (loops 0 body_spec_SameConfigs).getD 0 (0, .skip) = (0, lc_spec_SameConfigs_0) := by kernel_rfl
    rw [h]; exact lpok_spec_SameConfigs_0 fu
  | 1, _ => by
    have h : (loops 0 body_spec_SameConfigs).getD 1 (0, .skip) = (2, lc_spec_SameConfigs_2) := by kernel_rfl
    rw [h]; exact lpok_spec_SameConfigs_2 fu
  | i + 2, hi => absurd hi (by omega)
def S_spec_SameConfigs (fu : Nat) (xs : List (D RT den)) : Option (Out RT den) := match xs with | [.agg [.int .i64 a0_1, .rs za0_2 .impl_Backend na0_2 fa0_2, .rs za0_3 .impl_Vip na0_3 fa0_3], .agg [.int .i64 a1_1, .rs za1_2 .impl_Backend na1_2 fa1_2, .rs za1_3 .impl_Vip na1_3 fa1_3]] => some ⟨Bool, F_spec_SameConfigs fu (⟨a0_1, (⟨za0_2, na0_2, fa0_2⟩ : (Sl S_impl_Backend)), (⟨za0_3, na0_3, fa0_3⟩ : (Sl S_impl_Vip))⟩ : S_impl_Config) (⟨a1_1, (⟨za1_2, na1_2, fa1_2⟩ : (Sl S_impl_Backend)), (⟨za1_3, na1_3, fa1_3⟩ : (Sl S_impl_Vip))⟩ : S_impl_Config), enc_bo, fun _ => true⟩ | _ => none
theorem hpc_spec_SameConfigs (fu : Nat) : ∀ f xs o, pc_spec_SameConfigs fu f xs = some o → ∀ y, o.x = some y → Good E Try.prog f xs (o.g y) := by
  intro f xs o h
  unfold pc_spec_SameConfigs at h
  split at h
  · exact good_spec_l5Nums fu xs o h
  · cases h
theorem goodv_spec_SameConfigs (fu : Nat) (a_0 : S_impl_Config) (b_1 : S_impl_Config) (y : Bool) (hy : F_spec_SameConfigs fu a_0 b_1 = some y) : Good E Try.prog 55 [(.agg [(.int .i64 a_0.Version), (.rs a_0.Backends.z .impl_Backend a_0.Backends.n a_0.Backends.f), (.rs a_0.Vips.z .impl_Vip a_0.Vips.n a_0.Vips.f)]), (.agg [(.int .i64 b_1.Version), (.rs b_1.Backends.z .impl_Backend b_1.Backends.n b_1.Backends.f), (.rs b_1.Vips.z .impl_Vip b_1.Vips.n b_1.Vips.f)])] (enc_bo y) :=
  fun_good E_ok (pc_good (hpc_spec_SameConfigs fu)) (fn := Try.f55) (c := body_spec_SameConfigs) (out := out_bo) (y := y) (by kernel_rfl) (by kernel_rfl) (by kernel_rfl) (lpok_spec_SameConfigs fu) (fun d hd => out_bo_enc d _ hd) ((ev_spec_SameConfigs fu a_0 b_1).trans hy)
theorem good_spec_SameConfigs (fu : Nat) : ∀ xs o, S_spec_SameConfigs fu xs = some o → ∀ y, o.x = some y → Good E Try.prog 55 xs (o.g y) := by
  intro xs o h y hy
  unfold S_spec_SameConfigs at h
  split at h
  · rename_i a0_1 za0_2 na0_2 fa0_2 za0_3 na0_3 fa0_3 a1_1 za1_2 na1_2 fa1_2 za1_3 na1_3 fa1_3
    cases h
    exact goodv_spec_SameConfigs fu (⟨a0_1, (⟨za0_2, na0_2, fa0_2⟩ : (Sl S_impl_Backend)), (⟨za0_3, na0_3, fa0_3⟩ : (Sl S_impl_Vip))⟩ : S_impl_Config) (⟨a1_1, (⟨za1_2, na1_2, fa1_2⟩ : (Sl S_impl_Backend)), (⟨za1_3, na1_3, fa1_3⟩ : (Sl S_impl_Vip))⟩ : S_impl_Config) y hy
  · cases h

/-! spec.SameMachines -/
def F_spec_SameMachines_B0 {ρ : Type} (fu : Nat) (o0_1 : Int) (o0_2 : (Sl S_impl_Backend)) (o0_3 : (Sl S_impl_Vip)) (o0_4 : (Sl S_impl_Session)) (o1_5 : Int) (o1_6 : (Sl S_impl_Backend)) (o1_7 : (Sl S_impl_Vip)) (o1_8 : (Sl S_impl_Session)) (k0 : Option ρ) (k1 : Option ρ) (i5_0 : Int) (go : Int → Option ρ) : Option ρ :=
  (bif (decide (i5_0 < ((o0_4.n : Nat) : Int))) then ((bif (decide (0 ≤ i5_0) && decide ((Int.toNat i5_0) < o0_4.n)) then some () else none : Option Unit).bind fun _ => ((bif (decide (0 ≤ i5_0) &&
    decide ((Int.toNat i5_0) < o1_8.n)) then some () else none : Option Unit).bind fun _ => (bif (!(((o0_4.f (Int.toNat i5_0)).Client == (o1_8.f (Int.toNat i5_0)).Client) &&
    (((o0_4.f (Int.toNat i5_0)).Seq == (o1_8.f (Int.toNat i5_0)).Seq) && (((o0_4.f (Int.toNat i5_0)).Code == (o1_8.f (Int.toNat i5_0)).Code) && true)))) then k0 else (go (IntKind.wrap .i64 (i5_0 + 1)))))) else
    k1)
def F_spec_SameMachines (fu : Nat) (a_0 : S_impl_Machine) (b_1 : S_impl_Machine) : Option (Bool) :=
  ((((F_spec_SameConfigs fu a_0.Config b_1.Config).bind fun y128 => (bif (!y128) then (some true) else (some (((a_0.Sessions.n : Nat) : Int) != ((b_1.Sessions.n : Nat) : Int))))) : Option Bool).bind fun m129 =>
    (bif m129 then (some false) else (L (fun w0 go0 => F_spec_SameMachines_B0 fu a_0.Config.Version a_0.Config.Backends a_0.Config.Vips a_0.Sessions b_1.Config.Version b_1.Config.Backends b_1.Config.Vips b_1.Sessions (some false) (some true) w0 go0) fu (0 : Int))))
def pc_spec_SameMachines (fu : Nat) : Pc RT den := fun f xs => match f with | 55 => S_spec_SameConfigs fu xs | _ => none
def msk_spec_SameMachines (b : Nat) : List Nat := match b with | 0 => [0, 1, 4, 6, 7, 8, 9, 10, 11, 12, 13, 14, 15, 16, 17, 18, 19, 20, 21, 22, 23, 24, 25, 26, 27, 28, 29, 30, 31, 32, 33, 34, 35, 36, 37, 38] | 100000 => [0, 1, 2, 3, 5, 6, 7, 8, 9, 10, 11, 12, 13, 14, 15, 16, 17, 18, 19, 20, 21, 22, 23, 24, 25, 26, 27, 28, 29, 30, 31, 32, 33, 34, 35, 36, 37, 38] | 200001 => [20] | _ => []
def ps_spec_SameMachines_0 : List (Pat RT) := [.flat .dead, .flat .dead, .flat (.ref 0 0), .flat (.ref 1 0), .flat .dead, .flat (.int .i64), .flat .dead, .flat .dead, .flat .dead, .flat .dead, .flat .dead, .flat .dead, .flat .dead, .flat .dead, .flat .dead, .flat .dead, .flat .dead, .flat .dead, .flat .dead, .flat .dead, .flat .dead, .flat .dead, .flat .dead, .flat .dead, .flat .dead, .flat .dead, .flat .dead, .flat .dead, .flat .dead, .flat .dead, .flat .dead, .flat .dead, .flat .dead, .flat .dead, .flat .dead, .flat .dead, .flat .dead, .flat .dead, .flat .dead]
def os_spec_SameMachines_0 : List (OP RT) := [.box [(.int .i64), (.rs .impl_Backend), (.rs .impl_Vip), (.rs .impl_Session)], .box [(.int .i64), (.rs .impl_Backend), (.rs .impl_Vip), (.rs .impl_Session)]]
def conv_spec_SameMachines_0 (r : Raw den ps_spec_SameMachines_0 os_spec_SameMachines_0) : (Int × (Sl S_impl_Backend) × (Sl S_impl_Vip) × (Sl S_impl_Session) × Int × (Sl S_impl_Backend) × (Sl S_impl_Vip) × (Sl S_impl_Session)) × (Int) := ((r.2.1.1, r.2.1.2.1, r.2.1.2.2.1, r.2.1.2.2.2.1, r.2.2.1.1, r.2.2.1.2.1, r.2.2.1.2.2.1, r.2.2.1.2.2.2.1), r.1.2.2.2.2.2.1)
def back_spec_SameMachines_0 (c : Int × (Sl S_impl_Backend) × (Sl S_impl_Vip) × (Sl S_impl_Session) × Int × (Sl S_impl_Backend) × (Sl S_impl_Vip) × (Sl S_impl_Session)) (w : Int) : St RT den := ⟨[.dead, .dead, (.ref 0 0), (.ref 1 0), .dead, (.int .i64 w), .dead, .dead, .dead, .dead, .dead, .dead, .dead, .dead, .dead, .dead, .dead, .dead, .dead, .dead, .dead, .dead, .dead, .dead, .dead, .dead, .dead, .dead, .dead, .dead, .dead, .dead, .dead, .dead, .dead, .dead, .dead, .dead, .dead], [(.box [(.int .i64 c.1), (.rs c.2.1.z .impl_Backend c.2.1.n c.2.1.f), (.rs c.2.2.1.z .impl_Vip c.2.2.1.n c.2.2.1.f), (.rs c.2.2.2.1.z .impl_Session c.2.2.2.1.n c.2.2.2.1.f)]), (.box [(.int .i64 c.2.2.2.2.1), (.rs c.2.2.2.2.2.1.z .impl_Backend c.2.2.2.2.2.1.n c.2.2.2.2.2.1.f), (.rs c.2.2.2.2.2.2.1.z .impl_Vip c.2.2.2.2.2.2.1.n c.2.2.2.2.2.2.1.f), (.rs c.2.2.2.2.2.2.2.z .impl_Session c.2.2.2.2.2.2.2.n c.2.2.2.2.2.2.2.f)])]⟩
def Bk_spec_SameMachines_0 {ρ : Type} (fu : Nat) (c : Int × (Sl S_impl_Backend) × (Sl S_impl_Vip) × (Sl S_impl_Session) × Int × (Sl S_impl_Backend) × (Sl S_impl_Vip) × (Sl S_impl_Session)) (k : Ex → St RT den → Option ρ) (w : Int) (go : (Int) → Option ρ) : Option ρ := F_spec_SameMachines_B0 fu c.1 c.2.1 c.2.2.1 c.2.2.2.1 c.2.2.2.2.1 c.2.2.2.2.2.1 c.2.2.2.2.2.2.1 c.2.2.2.2.2.2.2 (k .ret ⟨[.dead, .dead, .dead, .dead, (.bool false), .dead, .dead, .dead, .dead, .dead, .dead, .dead, .dead, .dead, .dead, .dead, .dead, .dead, .dead, .dead, .dead, .dead, .dead, .dead, .dead, .dead, .dead, .dead, .dead, .dead, .dead, .dead, .dead, .dead, .dead, .dead, .dead, .dead, .dead], [(.box [(.int .i64 c.1), (.rs c.2.1.z .impl_Backend c.2.1.n c.2.1.f), (.rs c.2.2.1.z .impl_Vip c.2.2.1.n c.2.2.1.f), (.rs c.2.2.2.1.z .impl_Session c.2.2.2.1.n c.2.2.2.1.f)]), (.box [(.int .i64 c.2.2.2.2.1), (.rs c.2.2.2.2.2.1.z .impl_Backend c.2.2.2.2.2.1.n c.2.2.2.2.2.1.f), (.rs c.2.2.2.2.2.2.1.z .impl_Vip c.2.2.2.2.2.2.1.n c.2.2.2.2.2.2.1.f), (.rs c.2.2.2.2.2.2.2.z .impl_Session c.2.2.2.2.2.2.2.n c.2.2.2.2.2.2.2.f)])]⟩) (k (.exit 0) ⟨[.dead, .dead, .dead, .dead, .dead, .dead, .dead, .dead, .dead, .dead, .dead, .dead, .dead, .dead, .dead, .dead, .dead, .dead, .dead, .dead, .dead, .dead, .dead, .dead, .dead, .dead, .dead, .dead, .dead, .dead, .dead, .dead, .dead, .dead, .dead, .dead, .dead, .dead, .dead], [(.box [(.int .i64 c.1), (.rs c.2.1.z .impl_Backend c.2.1.n c.2.1.f), (.rs c.2.2.1.z .impl_Vip c.2.2.1.n c.2.2.1.f), (.rs c.2.2.2.1.z .impl_Session c.2.2.2.1.n c.2.2.2.1.f)]), (.box [(.int .i64 c.2.2.2.2.1), (.rs c.2.2.2.2.2.1.z .impl_Backend c.2.2.2.2.2.1.n c.2.2.2.2.2.1.f), (.rs c.2.2.2.2.2.2.1.z .impl_Vip c.2.2.2.2.2.2.1.n c.2.2.2.2.2.2.1.f), (.rs c.2.2.2.2.2.2.2.z .impl_Session c.2.2.2.2.2.2.2.n c.2.2.2.2.2.2.2.f)])]⟩) w go
def lp_spec_SameMachines (fu : Nat) : Lp RT den (Bool) := fun b s k => match b with | 0 => handle ps_spec_SameMachines_0 os_spec_SameMachines_0 conv_spec_SameMachines_0 (Bk_spec_SameMachines_0 fu) fu s k | _ => none
theorem ev_spec_SameMachines (fu : Nat) (a_0 : S_impl_Machine) (b_1 : S_impl_Machine) : evFun E (pc_spec_SameMachines fu) msk_spec_SameMachines (lp_spec_SameMachines fu) out_bo 27 [(.agg [(.int .i64 a_0.Config.Version), (.rs a_0.Config.Backends.z .impl_Backend a_0.Config.Backends.n a_0.Config.Backends.f), (.rs a_0.Config.Vips.z .impl_Vip a_0.Config.Vips.n a_0.Config.Vips.f), (.rs a_0.Sessions.z .impl_Session a_0.Sessions.n a_0.Sessions.f)]), (.agg [(.int .i64 b_1.Config.Version), (.rs b_1.Config.Backends.z .impl_Backend b_1.Config.Backends.n b_1.Config.Backends.f), (.rs b_1.Config.Vips.z .impl_Vip b_1.Config.Vips.n b_1.Config.Vips.f), (.rs b_1.Sessions.z .impl_Session b_1.Sessions.n b_1.Sessions.f)])] = F_spec_SameMachines fu a_0 b_1 := by kernel_rfl
noncomputable def body_spec_SameMachines : Code := Try.f27.body.getD .skip
noncomputable def lc_spec_SameMachines_0 : Code := ((loops 0 body_spec_SameMachines).getD 0 (0, .skip)).2
theorem round_spec_SameMachines_0 (fu : Nat) (it : St RT den → Option (Bool)) (k : Ex → St RT den → Option (Bool)) c w : evCode E (pc_spec_SameMachines fu) msk_spec_SameMachines (lp_spec_SameMachines fu) 0 lc_spec_SameMachines_0 (back_spec_SameMachines_0 c w) (after (msk_spec_SameMachines 0) (msk_spec_SameMachines 100000) 2 it k) = Bk_spec_SameMachines_0 fu c k w (fun w => it (back_spec_SameMachines_0 c w)) := by kernel_rfl
theorem lpok_spec_SameMachines_0 (fu : Nat) : ∀ s k r, lp_spec_SameMachines fu 0 s k = some r → ∃ fuel, iter (msk_spec_SameMachines 0) (msk_spec_SameMachines 100000) s.objs.length (evCode E (pc_spec_SameMachines fu) msk_spec_SameMachines (lp_spec_SameMachines fu) 0 lc_spec_SameMachines_0) fuel s k = some r :=
  handle_ok (ps := ps_spec_SameMachines_0) (os := os_spec_SameMachines_0) (conv := conv_spec_SameMachines_0) (B := Bk_spec_SameMachines_0 fu) (fu := fu) back_spec_SameMachines_0 (fun raw => by kernel_rfl) 2 (fun c w => by kernel_rfl) (round_spec_SameMachines_0 fu)
theorem lpok_spec_SameMachines (fu : Nat) : LpOk E (pc_spec_SameMachines fu) msk_spec_SameMachines (lp_spec_SameMachines fu) (loops 0 body_spec_SameMachines) := loop_all 1 (by kernel_rfl) fun i hi => match i, hi with
  | 0, _ => by
    have h : (loops 0 body_spec_SameMachines).getD 0 (0, .skip) = (0, lc_spec_SameMachines_0) := by kernel_rfl
    rw [h]; exact lpok_spec_SameMachines_0 fu
  | i + 1, hi => absurd hi (by omega)
def S_spec_SameMachines (fu : Nat) (xs : List (D RT den)) : Option (Out RT den) := match xs with | [.agg [.int .i64 a0_2, .rs za0_3 .impl_Backend na0_3 fa0_3, .rs za0_4 .impl_Vip na0_4 fa0_4, .rs za0_5 .impl_Session na0_5 fa0_5], .agg [.int .i64 a1_2, .rs za1_3 .impl_Backend na1_3 fa1_3, .rs za1_4 .impl_Vip na1_4 fa1_4, .rs za1_5 .impl_Session na1_5 fa1_5]] => some ⟨Bool, F_spec_SameMachines fu (⟨(⟨a0_2, (⟨za0_3, na0_3, fa0_3⟩ : (Sl S_impl_Backend)), (⟨za0_4, na0_4, fa0_4⟩ : (Sl S_impl_Vip))⟩ : S_impl_Config), (⟨za0_5, na0_5, fa0_5⟩ : (Sl S_impl_Session))⟩ : S_impl_Machine) (⟨(⟨a1_2, (⟨za1_3, na1_3, fa1_3⟩ : (Sl S_impl_Backend)), (⟨za1_4, na1_4, fa1_4⟩ : (Sl S_impl_Vip))⟩ : S_impl_Config), (⟨za1_5, na1_5, fa1_5⟩ : (Sl S_impl_Session))⟩ : S_impl_Machine), enc_bo, fun _ => true⟩ | _ => none
theorem hpc_spec_SameMachines (fu : Nat) : ∀ f xs o, pc_spec_SameMachines fu f xs = some o → ∀ y, o.x = some y → Good E Try.prog f xs (o.g y) := by
  intro f xs o h
  unfold pc_spec_SameMachines at h
  split at h
  · exact good_spec_SameConfigs fu xs o h
  · cases h
theorem goodv_spec_SameMachines (fu : Nat) (a_0 : S_impl_Machine) (b_1 : S_impl_Machine) (y : Bool) (hy : F_spec_SameMachines fu a_0 b_1 = some y) : Good E Try.prog 27 [(.agg [(.int .i64 a_0.Config.Version), (.rs a_0.Config.Backends.z .impl_Backend a_0.Config.Backends.n a_0.Config.Backends.f), (.rs a_0.Config.Vips.z .impl_Vip a_0.Config.Vips.n a_0.Config.Vips.f), (.rs a_0.Sessions.z .impl_Session a_0.Sessions.n a_0.Sessions.f)]), (.agg [(.int .i64 b_1.Config.Version), (.rs b_1.Config.Backends.z .impl_Backend b_1.Config.Backends.n b_1.Config.Backends.f), (.rs b_1.Config.Vips.z .impl_Vip b_1.Config.Vips.n b_1.Config.Vips.f), (.rs b_1.Sessions.z .impl_Session b_1.Sessions.n b_1.Sessions.f)])] (enc_bo y) :=
  fun_good E_ok (pc_good (hpc_spec_SameMachines fu)) (fn := Try.f27) (c := body_spec_SameMachines) (out := out_bo) (y := y) (by kernel_rfl) (by kernel_rfl) (by kernel_rfl) (lpok_spec_SameMachines fu) (fun d hd => out_bo_enc d _ hd) ((ev_spec_SameMachines fu a_0 b_1).trans hy)
theorem good_spec_SameMachines (fu : Nat) : ∀ xs o, S_spec_SameMachines fu xs = some o → ∀ y, o.x = some y → Good E Try.prog 27 xs (o.g y) := by
  intro xs o h y hy
  unfold S_spec_SameMachines at h
  split at h
  · rename_i a0_2 za0_3 na0_3 fa0_3 za0_4 na0_4 fa0_4 za0_5 na0_5 fa0_5 a1_2 za1_3 na1_3 fa1_3 za1_4 na1_4 fa1_4 za1_5 na1_5 fa1_5
    cases h
    exact goodv_spec_SameMachines fu (⟨(⟨a0_2, (⟨za0_3, na0_3, fa0_3⟩ : (Sl S_impl_Backend)), (⟨za0_4, na0_4, fa0_4⟩ : (Sl S_impl_Vip))⟩ : S_impl_Config), (⟨za0_5, na0_5, fa0_5⟩ : (Sl S_impl_Session))⟩ : S_impl_Machine) (⟨(⟨a1_2, (⟨za1_3, na1_3, fa1_3⟩ : (Sl S_impl_Backend)), (⟨za1_4, na1_4, fa1_4⟩ : (Sl S_impl_Vip))⟩ : S_impl_Config), (⟨za1_5, na1_5, fa1_5⟩ : (Sl S_impl_Session))⟩ : S_impl_Machine) y hy
  · cases h

/-! slices.Equal[[]impl.Backend,impl.Backend] -/
def F_slices_Equal_impl_Backend_impl_Backend_B0 {ρ : Type} (fu : Nat) (s10_0 : (Sl S_impl_Backend)) (s21_1 : (Sl S_impl_Backend)) (t12_2 : Int) (k0 : Option ρ) (k1 : Option ρ) (t13_3 : Int) (go : Int → Option ρ) : Option ρ :=
  (bif (decide (t13_3 < t12_2)) then ((bif (decide (0 ≤ t13_3) && decide ((Int.toNat t13_3) < s10_0.n)) then some () else none : Option Unit).bind fun _ => ((bif (decide (0 ≤ t13_3) &&
    decide ((Int.toNat t13_3) < s21_1.n)) then some () else none : Option Unit).bind fun _ => (bif (!(((s10_0.f (Int.toNat t13_3)).Name == (s21_1.f (Int.toNat t13_3)).Name) &&
    (((s10_0.f (Int.toNat t13_3)).Address == (s21_1.f (Int.toNat t13_3)).Address) && (((s10_0.f (Int.toNat t13_3)).Weight == (s21_1.f (Int.toNat t13_3)).Weight) && (((s10_0.f (Int.toNat t13_3)).Stage == (s21_1.f (Int.toNat t13_3)).Stage) &&
    (((s10_0.f (Int.toNat t13_3)).Up == (s21_1.f (Int.toNat t13_3)).Up) && true)))))) then k0 else (go (IntKind.wrap .i64 (t13_3 + 1)))))) else k1)
def F_slices_Equal_impl_Backend_impl_Backend (fu : Nat) (s1_0 : (Sl S_impl_Backend)) (s2_1 : (Sl S_impl_Backend)) : Option (Bool) :=
  (bif (((s1_0.n : Nat) : Int) != ((s2_1.n : Nat) : Int)) then (some false) else (L (fun w0 go0 => F_slices_Equal_impl_Backend_impl_Backend_B0 fu s1_0 s2_1 ((s1_0.n : Nat) : Int) (some false) (some true) w0 go0) fu (0 : Int)))
def pc_slices_Equal_impl_Backend_impl_Backend (fu : Nat) : Pc RT den := fun f xs => none
def msk_slices_Equal_impl_Backend_impl_Backend (b : Nat) : List Nat := match b with | 0 => [2, 3, 4, 5, 6, 7, 8, 9, 10, 11, 14, 15, 16, 17, 18, 19, 20, 21, 22, 23, 24, 25] | 100000 => [0, 1, 2, 3, 5, 6, 7, 8, 9, 10, 11, 12, 13, 14, 15, 16, 17, 18, 19, 20, 21, 22, 23, 24, 25] | _ => []
def ps_slices_Equal_impl_Backend_impl_Backend_0 : List (Pat RT) := [.flat (.rs .impl_Backend), .flat (.rs .impl_Backend), .flat .dead, .flat .dead, .flat .dead, .flat .dead, .flat .dead, .flat .dead, .flat .dead, .flat .dead, .flat .dead, .flat .dead, .flat (.int .i64), .flat (.int .i64), .flat .dead, .flat .dead, .flat .dead, .flat .dead, .flat .dead, .flat .dead, .flat .dead, .flat .dead, .flat .dead, .flat .dead, .flat .dead, .flat .dead]
def os_slices_Equal_impl_Backend_impl_Backend_0 : List (OP RT) := []
def conv_slices_Equal_impl_Backend_impl_Backend_0 (r : Raw den ps_slices_Equal_impl_Backend_impl_Backend_0 os_slices_Equal_impl_Backend_impl_Backend_0) : ((Sl S_impl_Backend) × (Sl S_impl_Backend) × Int) × (Int) := ((r.1.1, r.1.2.1, r.1.2.2.2.2.2.2.2.2.2.2.2.2.1), r.1.2.2.2.2.2.2.2.2.2.2.2.2.2.1)
def back_slices_Equal_impl_Backend_impl_Backend_0 (c : (Sl S_impl_Backend) × (Sl S_impl_Backend) × Int) (w : Int) : St RT den := ⟨[(.rs c.1.z .impl_Backend c.1.n c.1.f), (.rs c.2.1.z .impl_Backend c.2.1.n c.2.1.f), .dead, .dead, .dead, .dead, .dead, .dead, .dead, .dead, .dead, .dead, (.int .i64 c.2.2), (.int .i64 w), .dead, .dead, .dead, .dead, .dead, .dead, .dead, .dead, .dead, .dead, .dead, .dead], []⟩
def Bk_slices_Equal_impl_Backend_impl_Backend_0 {ρ : Type} (fu : Nat) (c : (Sl S_impl_Backend) × (Sl S_impl_Backend) × Int) (k : Ex → St RT den → Option ρ) (w : Int) (go : (Int) → Option ρ) : Option ρ := F_slices_Equal_impl_Backend_impl_Backend_B0 fu c.1 c.2.1 c.2.2 (k .ret ⟨[.dead, .dead, .dead, .dead, (.bool false), .dead, .dead, .dead, .dead, .dead, .dead, .dead, .dead, .dead, .dead, .dead, .dead, .dead, .dead, .dead, .dead, .dead, .dead, .dead, .dead, .dead], []⟩) (k (.exit 0) ⟨[.dead, .dead, .dead, .dead, .dead, .dead, .dead, .dead, .dead, .dead, .dead, .dead, .dead, .dead, .dead, .dead, .dead, .dead, .dead, .dead, .dead, .dead, .dead, .dead, .dead, .dead], []⟩) w go
def lp_slices_Equal_impl_Backend_impl_Backend (fu : Nat) : Lp RT den (Bool) := fun b s k => match b with | 0 => handle ps_slices_Equal_impl_Backend_impl_Backend_0 os_slices_Equal_impl_Backend_impl_Backend_0 conv_slices_Equal_impl_Backend_impl_Backend_0 (Bk_slices_Equal_impl_Backend_impl_Backend_0 fu) fu s k | _ => none
theorem ev_slices_Equal_impl_Backend_impl_Backend (fu : Nat) (s1_0 : (Sl S_impl_Backend)) (s2_1 : (Sl S_impl_Backend)) : evFun E (pc_slices_Equal_impl_Backend_impl_Backend fu) msk_slices_Equal_impl_Backend_impl_Backend (lp_slices_Equal_impl_Backend_impl_Backend fu) out_bo 76 [(.rs s1_0.z .impl_Backend s1_0.n s1_0.f), (.rs s2_1.z .impl_Backend s2_1.n s2_1.f)] = F_slices_Equal_impl_Backend_impl_Backend fu s1_0 s2_1 := by kernel_rfl
noncomputable def body_slices_Equal_impl_Backend_impl_Backend : Code := Try.f76.body.getD .skip
noncomputable def lc_slices_Equal_impl_Backend_impl_Backend_0 : Code := ((loops 0 body_slices_Equal_impl_Backend_impl_Backend).getD 0 (0, .skip)).2
theorem round_slices_Equal_impl_Backend_impl_Backend_0 (fu : Nat) (it : St RT den → Option (Bool)) (k : Ex → St RT den → Option (Bool)) c w : evCode E (pc_slices_Equal_impl_Backend_impl_Backend fu) msk_slices_Equal_impl_Backend_impl_Backend (lp_slices_Equal_impl_Backend_impl_Backend fu) 0 lc_slices_Equal_impl_Backend_impl_Backend_0 (back_slices_Equal_impl_Backend_impl_Backend_0 c w) (after (msk_slices_Equal_impl_Backend_impl_Backend 0) (msk_slices_Equal_impl_Backend_impl_Backend 100000) 0 it k) = Bk_slices_Equal_impl_Backend_impl_Backend_0 fu c k w (fun w => it (back_slices_Equal_impl_Backend_impl_Backend_0 c w)) := by kernel_rfl
theorem lpok_slices_Equal_impl_Backend_impl_Backend_0 (fu : Nat) : ∀ s k r, lp_slices_Equal_impl_Backend_impl_Backend fu 0 s k = some r → ∃ fuel, iter (msk_slices_Equal_impl_Backend_impl_Backend 0) (msk_slices_Equal_impl_Backend_impl_Backend 100000) s.objs.length (evCode E (pc_slices_Equal_impl_Backend_impl_Backend fu) msk_slices_Equal_impl_Backend_impl_Backend (lp_slices_Equal_impl_Backend_impl_Backend fu) 0 lc_slices_Equal_impl_Backend_impl_Backend_0) fuel s k = some r :=
  handle_ok (ps := ps_slices_Equal_impl_Backend_impl_Backend_0) (os := os_slices_Equal_impl_Backend_impl_Backend_0) (conv := conv_slices_Equal_impl_Backend_impl_Backend_0) (B := Bk_slices_Equal_impl_Backend_impl_Backend_0 fu) (fu := fu) back_slices_Equal_impl_Backend_impl_Backend_0 (fun raw => by kernel_rfl) 0 (fun c w => by kernel_rfl) (round_slices_Equal_impl_Backend_impl_Backend_0 fu)
theorem lpok_slices_Equal_impl_Backend_impl_Backend (fu : Nat) : LpOk E (pc_slices_Equal_impl_Backend_impl_Backend fu) msk_slices_Equal_impl_Backend_impl_Backend (lp_slices_Equal_impl_Backend_impl_Backend fu) (loops 0 body_slices_Equal_impl_Backend_impl_Backend) := loop_all 1 (by kernel_rfl) fun i hi => match i, hi with
  | 0, _ => by
    have h : (loops 0 body_slices_Equal_impl_Backend_impl_Backend).getD 0 (0, .skip) = (0, lc_slices_Equal_impl_Backend_impl_Backend_0) := by kernel_rfl
    rw [h]; exact lpok_slices_Equal_impl_Backend_impl_Backend_0 fu
  | i + 1, hi => absurd hi (by omega)
def S_slices_Equal_impl_Backend_impl_Backend (fu : Nat) (xs : List (D RT den)) : Option (Out RT den) := match xs with | [.rs za0_0 .impl_Backend na0_0 fa0_0, .rs za1_0 .impl_Backend na1_0 fa1_0] => some ⟨Bool, F_slices_Equal_impl_Backend_impl_Backend fu (⟨za0_0, na0_0, fa0_0⟩ : (Sl S_impl_Backend)) (⟨za1_0, na1_0, fa1_0⟩ : (Sl S_impl_Backend)), enc_bo, fun _ => true⟩ | _ => none
theorem hpc_slices_Equal_impl_Backend_impl_Backend (fu : Nat) : ∀ f xs o, pc_slices_Equal_impl_Backend_impl_Backend fu f xs = some o → ∀ y, o.x = some y → Good E Try.prog f xs (o.g y) := by
  intro f xs o h
  cases h
theorem goodv_slices_Equal_impl_Backend_impl_Backend (fu : Nat) (s1_0 : (Sl S_impl_Backend)) (s2_1 : (Sl S_impl_Backend)) (y : Bool) (hy : F_slices_Equal_impl_Backend_impl_Backend fu s1_0 s2_1 = some y) : Good E Try.prog 76 [(.rs s1_0.z .impl_Backend s1_0.n s1_0.f), (.rs s2_1.z .impl_Backend s2_1.n s2_1.f)] (enc_bo y) :=
  fun_good E_ok (pc_good (hpc_slices_Equal_impl_Backend_impl_Backend fu)) (fn := Try.f76) (c := body_slices_Equal_impl_Backend_impl_Backend) (out := out_bo) (y := y) (by kernel_rfl) (by kernel_rfl) (by kernel_rfl) (lpok_slices_Equal_impl_Backend_impl_Backend fu) (fun d hd => out_bo_enc d _ hd) ((ev_slices_Equal_impl_Backend_impl_Backend fu s1_0 s2_1).trans hy)
theorem good_slices_Equal_impl_Backend_impl_Backend (fu : Nat) : ∀ xs o, S_slices_Equal_impl_Backend_impl_Backend fu xs = some o → ∀ y, o.x = some y → Good E Try.prog 76 xs (o.g y) := by
  intro xs o h y hy
  unfold S_slices_Equal_impl_Backend_impl_Backend at h
  split at h
  · rename_i za0_0 na0_0 fa0_0 za1_0 na1_0 fa1_0
    cases h
    exact goodv_slices_Equal_impl_Backend_impl_Backend fu (⟨za0_0, na0_0, fa0_0⟩ : (Sl S_impl_Backend)) (⟨za1_0, na1_0, fa1_0⟩ : (Sl S_impl_Backend)) y hy
  · cases h

/-! cmp.isNaN[int64] -/
def F_cmp_isNaN_int64 (fu : Nat) (x_0 : Int) : Option (Bool) :=
  (some (x_0 != x_0))
def pc_cmp_isNaN_int64 (fu : Nat) : Pc RT den := fun f xs => none
def msk_cmp_isNaN_int64 (b : Nat) : List Nat := []
def lp_cmp_isNaN_int64 (fu : Nat) : Lp RT den (Bool) := fun b s k => none
theorem ev_cmp_isNaN_int64 (fu : Nat) (x_0 : Int) : evFun E (pc_cmp_isNaN_int64 fu) msk_cmp_isNaN_int64 (lp_cmp_isNaN_int64 fu) out_bo 112 [(.int .i64 x_0)] = F_cmp_isNaN_int64 fu x_0 := by kernel_rfl
noncomputable def body_cmp_isNaN_int64 : Code := Try.f112.body.getD .skip
theorem lpok_cmp_isNaN_int64 (fu : Nat) : LpOk E (pc_cmp_isNaN_int64 fu) msk_cmp_isNaN_int64 (lp_cmp_isNaN_int64 fu) (loops 0 body_cmp_isNaN_int64) := by
  have h : loops 0 body_cmp_isNaN_int64 = [] := by kernel_rfl
  rw [h]; intro p hp; cases hp
def S_cmp_isNaN_int64 (fu : Nat) (xs : List (D RT den)) : Option (Out RT den) := match xs with | [.int .i64 a0_0] => some ⟨Bool, F_cmp_isNaN_int64 fu a0_0, enc_bo, fun _ => true⟩ | _ => none
theorem hpc_cmp_isNaN_int64 (fu : Nat) : ∀ f xs o, pc_cmp_isNaN_int64 fu f xs = some o → ∀ y, o.x = some y → Good E Try.prog f xs (o.g y) := by
  intro f xs o h
  cases h
theorem goodv_cmp_isNaN_int64 (fu : Nat) (x_0 : Int) (y : Bool) (hy : F_cmp_isNaN_int64 fu x_0 = some y) : Good E Try.prog 112 [(.int .i64 x_0)] (enc_bo y) :=
  fun_good E_ok (pc_good (hpc_cmp_isNaN_int64 fu)) (fn := Try.f112) (c := body_cmp_isNaN_int64) (out := out_bo) (y := y) (by kernel_rfl) (by kernel_rfl) (by kernel_rfl) (lpok_cmp_isNaN_int64 fu) (fun d hd => out_bo_enc d _ hd) ((ev_cmp_isNaN_int64 fu x_0).trans hy)
theorem good_cmp_isNaN_int64 (fu : Nat) : ∀ xs o, S_cmp_isNaN_int64 fu xs = some o → ∀ y, o.x = some y → Good E Try.prog 112 xs (o.g y) := by
  intro xs o h y hy
  unfold S_cmp_isNaN_int64 at h
  split at h
  · rename_i a0_0
    cases h
    exact goodv_cmp_isNaN_int64 fu a0_0 y hy
  · cases h
end Go.Proofs.Ytnocoglmchnggaa.Pc
