/- The functions' evaluated forms, each a proved summary. Conditions: none. -/
import Derived.Test.YtmnbmponjhglcaaPdT
namespace Go.Proofs.Ytmnbmponjhglcaa.Pd
open Go Go.RowKit Go.Proofs Vm
set_option linter.unusedVariables false
set_option linter.unusedSimpArgs false
set_option maxRecDepth 100000
/-! laws.toBackend -/
def F_laws_toBackend (fu : Nat) (a_0 : S_impl_Backend) : Option (S_impl_Backend) :=
  (some a_0)
def pc_a0 (fu : Nat) : Pc RT den := ⟨pcf0, fun _ => false, fun _ => false, pcd0, pcx0⟩
def msk_a0 (b : Nat) : List Nat := []
def lp_a0 (fu : Nat) : Lp RT den (S_impl_Backend) := fun b s k => none
theorem ev_a0 (fu : Nat) (a_0 : S_impl_Backend) : evFun E (pc_a0 fu) msk_a0 (lp_a0 fu) out_impl_Backend 129 [(.agg [(.int .i64 a_0.Name), (.int .i64 a_0.Address), (.int .i64 a_0.Weight), (.int .i64 a_0.Stage), (.bool a_0.Up)])] = F_laws_toBackend fu a_0 := by kernel_rfl
noncomputable def body_a0 : Code := Try.f129.body.getD .skip
theorem lpok_a0 (fu : Nat) : LpOk E (pc_a0 fu) msk_a0 (lp_a0 fu) (loops 0 body_a0) := by
  have h : loops 0 body_a0 = [] := by kernel_rfl
  rw [h]; intro p hp; cases hp
def S_a0 (fu : Nat) (xs : List (D RT den)) : Option (Out RT den) := match xs with | [.agg [.int .i64 a0_1, .int .i64 a0_2, .int .i64 a0_3, .int .i64 a0_4, .bool a0_5]] => some ⟨S_impl_Backend, F_laws_toBackend fu (⟨a0_1, a0_2, a0_3, a0_4, a0_5⟩ : S_impl_Backend), enc_impl_Backend, fun _ => true⟩ | _ => none
theorem goodv_a0 (fu : Nat) (a_0 : S_impl_Backend) (y : S_impl_Backend) (hy : F_laws_toBackend fu a_0 = some y) : Good E Try.prog 129 [(.agg [(.int .i64 a_0.Name), (.int .i64 a_0.Address), (.int .i64 a_0.Weight), (.int .i64 a_0.Stage), (.bool a_0.Up)])] (enc_impl_Backend y) :=
  fun_good E_ok (pc_good (pc := pc_a0 fu) hpc0 hpx0) (fn := Try.f129) (c := body_a0) (out := out_impl_Backend) (y := y) (by kernel_rfl) (by kernel_rfl) (by kernel_rfl) (lpok_a0 fu) (fun d hd => out_impl_Backend_enc d _ hd) ((ev_a0 fu a_0).trans hy)
theorem good_a0 (fu : Nat) : ∀ xs o, S_a0 fu xs = some o → ∀ y, o.x = some y → Good E Try.prog 129 xs (o.g y) := by
  intro xs o h y hy
  unfold S_a0 at h
  split at h
  · rename_i a0_1 a0_2 a0_3 a0_4 a0_5
    cases h
    exact goodv_a0 fu (⟨a0_1, a0_2, a0_3, a0_4, a0_5⟩ : S_impl_Backend) y hy
  · cases h

/-! laws.toBackendS -/
def F_laws_toBackendS_H_B0 {ρ : Type} (fu : Nat) (a0_0 : (Sl S_impl_Backend)) (out3_1 : Nat) (on0_3 : Nat) (k0 : (Nat → S_impl_Backend) → Option ρ) (i4_2 : Int) (of0_4 : (Nat → S_impl_Backend)) (go : Int → (Nat → S_impl_Backend) → Option ρ) : Option ρ :=
  (bif (decide (i4_2 < ((a0_0.n : Nat) : Int))) then ((bif (decide (0 ≤ i4_2) && decide ((Int.toNat i4_2) < a0_0.n)) then some () else none : Option Unit).bind fun _ =>
    ((F_laws_toBackend fu (a0_0.f (Int.toNat i4_2))).bind fun y4 => ((bif (decide (0 ≤ i4_2) && decide ((Int.toNat i4_2) < out3_1)) then some () else none : Option Unit).bind fun _ =>
    (go (IntKind.wrap .i64 (i4_2 + 1)) (fun j => if j = (Int.toNat i4_2) then y4 else of0_4 j))))) else (k0 of0_4))
def F_laws_toBackendS_H (fu : Nat) (a_0 : (Sl S_impl_Backend)) : Option ((Sl S_impl_Backend)) :=
  (bif (decide (0 ≤ ((a_0.n : Nat) : Int)) && (decide (((a_0.n : Nat) : Int) = ((a_0.n : Nat) : Int)) && (decide ((40 : Int) * ((a_0.n : Nat) : Int) ≤ 281474976710656) && decide (((a_0.n : Nat) : Int) ≤ 9223372036854775807)))) then
    (L (fun w0 go0 => F_laws_toBackendS_H_B0 fu a_0 (Int.toNat ((a_0.n : Nat) : Int)) (Int.toNat ((a_0.n : Nat) : Int)) (fun z5 => (some (⟨none, (Int.toNat ((a_0.n : Nat) : Int)),
    z5⟩ : (Sl S_impl_Backend)))) w0.1 w0.2 (fun q0 q1 => go0 (q0, q1))) fu ((0, (fun _ => (⟨0, 0, 0, 0, false⟩ : S_impl_Backend))) : Int × (Nat → S_impl_Backend))) else none)
def pcf_a1 (fu : Nat) (f : Nat) (xs : List (D RT den)) : Option (Out RT den) := match f with | 129 => S_a0 fu xs | _ => none
def pc_a1 (fu : Nat) : Pc RT den := ⟨pcf_a1 fu, fun _ => false, fun _ => false, pcd0, pcx0⟩
def msk_a1 (b : Nat) : List Nat := match b with | 0 => [1, 2, 5, 6, 7, 8, 9, 10, 11, 12, 13, 14, 15, 16, 17, 18, 19, 20, 21, 22] | 100000 => [0, 1, 4, 5, 6, 7, 8, 9, 10, 11, 12, 13, 14, 15, 16, 17, 18, 19, 20, 21, 22] | _ => []
def ps_a1_0 : List (Pat RT) := [.flat (.rs .impl_Backend), .flat .q, .flat .q, .flat (.os 0), .flat (.int .i64), .flat .q, .flat .q, .flat .q, .flat .q, .flat .q, .flat .q, .flat .q, .flat .q, .flat .q, .flat .q, .flat .q, .flat .q, .flat .q, .flat .q, .flat .q, .flat .q, .flat .q, .flat .q]
def os_a1_0 : List (OP RT) := [.row false .impl_Backend]
def conv_a1_0 (r : Raw den ps_a1_0 os_a1_0) : ((Sl S_impl_Backend) × Nat × Nat) × (Int × (Nat → S_impl_Backend)) := ((r.1.1, r.1.2.2.2.1, r.2.1.1), (r.1.2.2.2.2.1, r.2.1.2))
def back_a1_0 (c : (Sl S_impl_Backend) × Nat × Nat) (w : Int × (Nat → S_impl_Backend)) : St RT den := ⟨[(.rs c.1.z .impl_Backend c.1.n c.1.f), .q, .q, (.os 0 c.2.1), (.int .i64 w.1), .q, .q, .q, .q, .q, .q, .q, .q, .q, .q, .q, .q, .q, .q, .q, .q, .q, .q], [(.row false .impl_Backend c.2.2 w.2)]⟩
def Bk_a1_0 {ρ : Type} (fu : Nat) (c : (Sl S_impl_Backend) × Nat × Nat) (k : Ex → St RT den → Option ρ) (w : Int × (Nat → S_impl_Backend)) (go : (Int × (Nat → S_impl_Backend)) → Option ρ) : Option ρ := F_laws_toBackendS_H_B0 fu c.1 c.2.1 c.2.2 (fun a0 => k (.exit 0) ⟨[.q, .q, .q, (.os 0 c.2.1), .q, .q, .q, .q, .q, .q, .q, .q, .q, .q, .q, .q, .q, .q, .q, .q, .q, .q, .q], [(.row false .impl_Backend c.2.2 a0)]⟩) w.1 w.2 (fun q0 q1 => go (q0, q1))
def lp_a1 (fu : Nat) : Lp RT den ((Sl S_impl_Backend)) := fun b s k => match b with | 0 => handle ps_a1_0 os_a1_0 conv_a1_0 (Bk_a1_0 fu) fu s k | _ => none
theorem ev_a1 (fu : Nat) (a_0 : (Sl S_impl_Backend)) : evFunX E false (pc_a1 fu) msk_a1 (lp_a1 fu) out_sl_impl_Backend_H 67 [(.rs a_0.z .impl_Backend a_0.n a_0.f)] [] = F_laws_toBackendS_H fu a_0 := by kernel_rfl
noncomputable def body_a1 : Code := Try.f67.body.getD .skip
noncomputable def lc_a1_0 : Code := ((loops 0 body_a1).getD 0 (0, .skip)).2
theorem round_a1_0 (fu : Nat) (it : St RT den → Option ((Sl S_impl_Backend))) (k : Ex → St RT den → Option ((Sl S_impl_Backend))) c w : evCode E (pc_a1 fu) msk_a1 (lp_a1 fu) 0 lc_a1_0 (back_a1_0 c w) (after (msk_a1 0) (msk_a1 100000) 1 it k) = Bk_a1_0 fu c k w (fun w => it (back_a1_0 c w)) := by kernel_rfl
theorem lpok_a1_0 (fu : Nat) : ∀ s k r, lp_a1 fu 0 s k = some r → ∃ fuel, iter (msk_a1 0) (msk_a1 100000) s.objs.length (evCode E (pc_a1 fu) msk_a1 (lp_a1 fu) 0 lc_a1_0) fuel s k = some r :=
  handle_ok (ps := ps_a1_0) (os := os_a1_0) (conv := conv_a1_0) (B := Bk_a1_0 fu) (fu := fu) back_a1_0 (fun raw => by kernel_rfl) 1 (fun c w => by kernel_rfl) (round_a1_0 fu)
theorem lpok_a1 (fu : Nat) : LpOk E (pc_a1 fu) msk_a1 (lp_a1 fu) (loops 0 body_a1) := loop_all 1 (by kernel_rfl) fun i hi => match i, hi with
  | 0, _ => by
    have h : (loops 0 body_a1).getD 0 (0, .skip) = (0, lc_a1_0) := by kernel_rfl
    rw [h]; exact lpok_a1_0 fu
  | i + 1, hi => absurd hi (by omega)
def S_a1 (fu : Nat) (xs : List (D RT den)) (ins : List (Ob RT den)) : Option (OutX RT den) := match xs, ins with | [.rs za0_0 .impl_Backend na0_0 fa0_0], [] => some ⟨(Sl S_impl_Backend), F_laws_toBackendS_H fu (⟨za0_0, na0_0, fa0_0⟩ : (Sl S_impl_Backend)), enc_sl_impl_Backend_H⟩ | _, _ => none
theorem hpc_a1 (fu : Nat) : ∀ f xs o, pcf_a1 fu f xs = some o → ∀ y, o.x = some y → Good E Try.prog f xs (o.g y) := by
  intro f xs o h
  unfold pcf_a1 at h
  split at h
  · exact good_a0 fu xs o h
  · cases h
theorem goodv_a1 (fu : Nat) (a_0 : (Sl S_impl_Backend)) (y : (Sl S_impl_Backend)) (hy : F_laws_toBackendS_H fu a_0 = some y) : GoodX E Try.prog 67 [(.rs a_0.z .impl_Backend a_0.n a_0.f)] [] (enc_sl_impl_Backend_H y).1 (enc_sl_impl_Backend_H y).2 :=
  funX_good (ke := false) E_ok (pc_good (pc := pc_a1 fu) (hpc_a1 fu) hpx0) (fn := Try.f67) (c := body_a1) (out := out_sl_impl_Backend_H) (y := y) (by kernel_rfl) (by kernel_rfl) (by kernel_rfl) (lpok_a1 fu) (by kernel_rfl) (Nat.zero_le _) (fun d os hd => out_sl_impl_Backend_H_enc d os _ hd) ((ev_a1 fu a_0).trans hy)
theorem good_a1 (fu : Nat) : ∀ xs ins o, S_a1 fu xs ins = some o → ∀ y, o.x = some y → GoodX E Try.prog 67 xs ins (o.g y).1 (o.g y).2 := by
  intro xs ins o h y hy
  unfold S_a1 at h
  split at h
  · rename_i za0_0 na0_0 fa0_0
    cases h
    exact goodv_a1 fu (⟨za0_0, na0_0, fa0_0⟩ : (Sl S_impl_Backend)) y hy
  · cases h

/-! laws.toInt64S -/
def F_laws_toInt64S_H_B0 {ρ : Type} (fu : Nat) (a0_0 : (Sl Int)) (out3_1 : Nat) (on0_3 : Nat) (k0 : (Nat → Int) → Option ρ) (i4_2 : Int) (of0_4 : (Nat → Int)) (go : Int → (Nat → Int) → Option ρ) : Option ρ :=
  (bif (decide (i4_2 < ((a0_0.n : Nat) : Int))) then ((bif (decide (0 ≤ i4_2) && decide ((Int.toNat i4_2) < a0_0.n)) then some () else none : Option Unit).bind fun _ => ((bif (decide (0 ≤ i4_2) &&
    decide ((Int.toNat i4_2) < out3_1)) then some () else none : Option Unit).bind fun _ => (go (IntKind.wrap .i64 (i4_2 + 1)) (fun j => if j = (Int.toNat i4_2) then (a0_0.f (Int.toNat i4_2)) else
    of0_4 j)))) else (k0 of0_4))
def F_laws_toInt64S_H (fu : Nat) (a_0 : (Sl Int)) : Option ((Sl Int)) :=
  (bif (decide (0 ≤ ((a_0.n : Nat) : Int)) && (decide (((a_0.n : Nat) : Int) = ((a_0.n : Nat) : Int)) && (decide ((8 : Int) * ((a_0.n : Nat) : Int) ≤ 281474976710656) && decide (((a_0.n : Nat) : Int) ≤ 9223372036854775807)))) then
    (L (fun w0 go0 => F_laws_toInt64S_H_B0 fu a_0 (Int.toNat ((a_0.n : Nat) : Int)) (Int.toNat ((a_0.n : Nat) : Int)) (fun z8 => (some (⟨none, (Int.toNat ((a_0.n : Nat) : Int)), z8⟩ : (Sl Int)))) w0.1 w0.2 (fun q0 q1 =>
    go0 (q0, q1))) fu ((0, (fun _ => 0)) : Int × (Nat → Int))) else none)
def pc_a2 (fu : Nat) : Pc RT den := ⟨pcf0, fun _ => false, fun _ => false, pcd0, pcx0⟩
def msk_a2 (b : Nat) : List Nat := match b with | 0 => [1, 2, 5, 6, 7, 8, 9, 10, 11, 12, 13, 14, 15, 16, 17, 18, 19, 20, 21] | 100000 => [0, 1, 4, 5, 6, 7, 8, 9, 10, 11, 12, 13, 14, 15, 16, 17, 18, 19, 20, 21] | _ => []
def ps_a2_0 : List (Pat RT) := [.flat (.rs .i64), .flat .q, .flat .q, .flat (.os 0), .flat (.int .i64), .flat .q, .flat .q, .flat .q, .flat .q, .flat .q, .flat .q, .flat .q, .flat .q, .flat .q, .flat .q, .flat .q, .flat .q, .flat .q, .flat .q, .flat .q, .flat .q, .flat .q]
def os_a2_0 : List (OP RT) := [.row false .i64]
def conv_a2_0 (r : Raw den ps_a2_0 os_a2_0) : ((Sl Int) × Nat × Nat) × (Int × (Nat → Int)) := ((r.1.1, r.1.2.2.2.1, r.2.1.1), (r.1.2.2.2.2.1, r.2.1.2))
def back_a2_0 (c : (Sl Int) × Nat × Nat) (w : Int × (Nat → Int)) : St RT den := ⟨[(.rs c.1.z .i64 c.1.n c.1.f), .q, .q, (.os 0 c.2.1), (.int .i64 w.1), .q, .q, .q, .q, .q, .q, .q, .q, .q, .q, .q, .q, .q, .q, .q, .q, .q], [(.row false .i64 c.2.2 w.2)]⟩
def Bk_a2_0 {ρ : Type} (fu : Nat) (c : (Sl Int) × Nat × Nat) (k : Ex → St RT den → Option ρ) (w : Int × (Nat → Int)) (go : (Int × (Nat → Int)) → Option ρ) : Option ρ := F_laws_toInt64S_H_B0 fu c.1 c.2.1 c.2.2 (fun a0 => k (.exit 0) ⟨[.q, .q, .q, (.os 0 c.2.1), .q, .q, .q, .q, .q, .q, .q, .q, .q, .q, .q, .q, .q, .q, .q, .q, .q, .q], [(.row false .i64 c.2.2 a0)]⟩) w.1 w.2 (fun q0 q1 => go (q0, q1))
def lp_a2 (fu : Nat) : Lp RT den ((Sl Int)) := fun b s k => match b with | 0 => handle ps_a2_0 os_a2_0 conv_a2_0 (Bk_a2_0 fu) fu s k | _ => none
theorem ev_a2 (fu : Nat) (a_0 : (Sl Int)) : evFunX E false (pc_a2 fu) msk_a2 (lp_a2 fu) out_sl_i64_H 165 [(.rs a_0.z .i64 a_0.n a_0.f)] [] = F_laws_toInt64S_H fu a_0 := by kernel_rfl
noncomputable def body_a2 : Code := Try.f165.body.getD .skip
noncomputable def lc_a2_0 : Code := ((loops 0 body_a2).getD 0 (0, .skip)).2
theorem round_a2_0 (fu : Nat) (it : St RT den → Option ((Sl Int))) (k : Ex → St RT den → Option ((Sl Int))) c w : evCode E (pc_a2 fu) msk_a2 (lp_a2 fu) 0 lc_a2_0 (back_a2_0 c w) (after (msk_a2 0) (msk_a2 100000) 1 it k) = Bk_a2_0 fu c k w (fun w => it (back_a2_0 c w)) := by kernel_rfl
theorem lpok_a2_0 (fu : Nat) : ∀ s k r, lp_a2 fu 0 s k = some r → ∃ fuel, iter (msk_a2 0) (msk_a2 100000) s.objs.length (evCode E (pc_a2 fu) msk_a2 (lp_a2 fu) 0 lc_a2_0) fuel s k = some r :=
  handle_ok (ps := ps_a2_0) (os := os_a2_0) (conv := conv_a2_0) (B := Bk_a2_0 fu) (fu := fu) back_a2_0 (fun raw => by kernel_rfl) 1 (fun c w => by kernel_rfl) (round_a2_0 fu)
theorem lpok_a2 (fu : Nat) : LpOk E (pc_a2 fu) msk_a2 (lp_a2 fu) (loops 0 body_a2) := loop_all 1 (by kernel_rfl) fun i hi => match i, hi with
  | 0, _ => by
    have h : (loops 0 body_a2).getD 0 (0, .skip) = (0, lc_a2_0) := by kernel_rfl
    rw [h]; exact lpok_a2_0 fu
  | i + 1, hi => absurd hi (by omega)
def S_a2 (fu : Nat) (xs : List (D RT den)) (ins : List (Ob RT den)) : Option (OutX RT den) := match xs, ins with | [.rs za0_0 .i64 na0_0 fa0_0], [] => some ⟨(Sl Int), F_laws_toInt64S_H fu (⟨za0_0, na0_0, fa0_0⟩ : (Sl Int)), enc_sl_i64_H⟩ | _, _ => none
theorem goodv_a2 (fu : Nat) (a_0 : (Sl Int)) (y : (Sl Int)) (hy : F_laws_toInt64S_H fu a_0 = some y) : GoodX E Try.prog 165 [(.rs a_0.z .i64 a_0.n a_0.f)] [] (enc_sl_i64_H y).1 (enc_sl_i64_H y).2 :=
  funX_good (ke := false) E_ok (pc_good (pc := pc_a2 fu) hpc0 hpx0) (fn := Try.f165) (c := body_a2) (out := out_sl_i64_H) (y := y) (by kernel_rfl) (by kernel_rfl) (by kernel_rfl) (lpok_a2 fu) (by kernel_rfl) (Nat.zero_le _) (fun d os hd => out_sl_i64_H_enc d os _ hd) ((ev_a2 fu a_0).trans hy)
theorem good_a2 (fu : Nat) : ∀ xs ins o, S_a2 fu xs ins = some o → ∀ y, o.x = some y → GoodX E Try.prog 165 xs ins (o.g y).1 (o.g y).2 := by
  intro xs ins o h y hy
  unfold S_a2 at h
  split at h
  · rename_i za0_0 na0_0 fa0_0
    cases h
    exact goodv_a2 fu (⟨za0_0, na0_0, fa0_0⟩ : (Sl Int)) y hy
  · cases h

/-! laws.toVip -/
def F_laws_toVip_H (fu : Nat) (a_0 : S_impl_Vip) : Option (S_impl_Vip) :=
  ((F_laws_toInt64S_H fu a_0.Names).bind fun y10 => (some (⟨a_0.Address, a_0.Port, a_0.Proto, (⟨none, y10.n, y10.f⟩ : (Sl Int))⟩ : S_impl_Vip)))
def pcx_a3 (fu : Nat) (f : Nat) (xs : List (D RT den)) (ins : List (Ob RT den)) : Option (OutX RT den) := match f with | 165 => S_a2 fu xs ins | _ => none
def pcd_a3 : Nat → Bool := fun _ => false
def pc_a3 (fu : Nat) : Pc RT den := ⟨pcf0, fun f => match f with | 165 => true | _ => false, fun _ => false, pcd_a3, pcx_a3 fu⟩
def msk_a3 (b : Nat) : List Nat := []
def lp_a3 (fu : Nat) : Lp RT den (S_impl_Vip) := fun b s k => none
theorem ev_a3 (fu : Nat) (a_0 : S_impl_Vip) : evFunX E false (pc_a3 fu) msk_a3 (lp_a3 fu) out_impl_Vip_H 130 [(.agg [(.int .i64 a_0.Address), (.int .i64 a_0.Port), (.int .i64 a_0.Proto), (.rs a_0.Names.z .i64 a_0.Names.n a_0.Names.f)])] [] = F_laws_toVip_H fu a_0 := by kernel_rfl
noncomputable def body_a3 : Code := Try.f130.body.getD .skip
theorem lpok_a3 (fu : Nat) : LpOk E (pc_a3 fu) msk_a3 (lp_a3 fu) (loops 0 body_a3) := by
  have h : loops 0 body_a3 = [] := by kernel_rfl
  rw [h]; intro p hp; cases hp
def S_a3 (fu : Nat) (xs : List (D RT den)) (ins : List (Ob RT den)) : Option (OutX RT den) := match xs, ins with | [.agg [.int .i64 a0_1, .int .i64 a0_2, .int .i64 a0_3, .rs za0_4 .i64 na0_4 fa0_4]], [] => some ⟨S_impl_Vip, F_laws_toVip_H fu (⟨a0_1, a0_2, a0_3, (⟨za0_4, na0_4, fa0_4⟩ : (Sl Int))⟩ : S_impl_Vip), enc_impl_Vip_H⟩ | _, _ => none
theorem hpx_a3 (fu : Nat) : ∀ f xs ins o, pcx_a3 fu f xs ins = some o → ∀ y, o.x = some y → GoodXD E Try.prog (pcd_a3 f) f xs ins (o.g y).1 (o.g y).2 := by
  intro f xs ins o h
  unfold pcx_a3 at h
  split at h
  · exact good_a2 fu xs ins o h
  · cases h
theorem goodv_a3 (fu : Nat) (a_0 : S_impl_Vip) (y : S_impl_Vip) (hy : F_laws_toVip_H fu a_0 = some y) : GoodX E Try.prog 130 [(.agg [(.int .i64 a_0.Address), (.int .i64 a_0.Port), (.int .i64 a_0.Proto), (.rs a_0.Names.z .i64 a_0.Names.n a_0.Names.f)])] [] (enc_impl_Vip_H y).1 (enc_impl_Vip_H y).2 :=
  funX_good (ke := false) E_ok (pc_good (pc := pc_a3 fu) hpc0 (hpx_a3 fu)) (fn := Try.f130) (c := body_a3) (out := out_impl_Vip_H) (y := y) (by kernel_rfl) (by kernel_rfl) (by kernel_rfl) (lpok_a3 fu) (by kernel_rfl) (Nat.zero_le _) (fun d os hd => out_impl_Vip_H_enc d os _ hd) ((ev_a3 fu a_0).trans hy)
theorem good_a3 (fu : Nat) : ∀ xs ins o, S_a3 fu xs ins = some o → ∀ y, o.x = some y → GoodX E Try.prog 130 xs ins (o.g y).1 (o.g y).2 := by
  intro xs ins o h y hy
  unfold S_a3 at h
  split at h
  · rename_i a0_1 a0_2 a0_3 za0_4 na0_4 fa0_4
    cases h
    exact goodv_a3 fu (⟨a0_1, a0_2, a0_3, (⟨za0_4, na0_4, fa0_4⟩ : (Sl Int))⟩ : S_impl_Vip) y hy
  · cases h

/-! laws.toVipS -/
def F_laws_toVipS_U_B0 {ρ : Type} (fu : Nat) (a0_0 : (Sl S_impl_Vip)) (out3_1 : Nat) (on0_3 : Nat) (k0 : Nat → (Nat → S_impl_Vip) → Option ρ) (i4_2 : Int) (op0_4 : Nat) (of0_5 : (Nat → S_impl_Vip)) (go : Int → Nat → (Nat → S_impl_Vip) → Option ρ) : Option ρ :=
  (bif (decide (i4_2 < ((a0_0.n : Nat) : Int))) then ((bif (decide (0 ≤ i4_2) && decide ((Int.toNat i4_2) < a0_0.n)) then some () else none : Option Unit).bind fun _ =>
    ((F_laws_toVip_H fu (a0_0.f (Int.toNat i4_2))).bind fun y12 => ((bif (decide (0 ≤ i4_2) && decide ((Int.toNat i4_2) < out3_1)) then some () else none : Option Unit).bind fun _ =>
    (bif (decide ((Int.toNat i4_2) = op0_4)) then (go (IntKind.wrap .i64 (i4_2 + 1)) (op0_4 + 1) (fun j => if j = (Int.toNat i4_2) then (⟨y12.Address, y12.Port, y12.Proto, (⟨none,
    y12.Names.n, y12.Names.f⟩ : (Sl Int))⟩ : S_impl_Vip) else of0_5 j)) else none)))) else (k0 op0_4 of0_5))
def F_laws_toVipS_U (fu : Nat) (a_0 : (Sl S_impl_Vip)) : Option (Nat × Nat × (Nat → S_impl_Vip)) :=
  (bif (decide (0 ≤ ((a_0.n : Nat) : Int)) && (decide (((a_0.n : Nat) : Int) = ((a_0.n : Nat) : Int)) && (decide ((48 : Int) * ((a_0.n : Nat) : Int) ≤ 281474976710656) && decide (((a_0.n : Nat) : Int) ≤ 9223372036854775807)))) then
    (L (fun w0 go0 => F_laws_toVipS_U_B0 fu a_0 (Int.toNat ((a_0.n : Nat) : Int)) (Int.toNat ((a_0.n : Nat) : Int)) (fun z13 z14 => (bif (decide ((Int.toNat ((a_0.n : Nat) : Int)) ≤ z13) &&
    true) then (bif (decide ((Int.toNat ((a_0.n : Nat) : Int)) = (Int.toNat ((a_0.n : Nat) : Int))) && true) then (some ((Int.toNat ((a_0.n : Nat) : Int)), (Int.toNat ((a_0.n : Nat) : Int)),
    z14)) else none) else none)) w0.1 w0.2.1 w0.2.2 (fun q0 q1 q2 => go0 (q0, q1, q2))) fu ((0, 0, (fun _ => (⟨0, 0, 0, (⟨(some true), 0, (fun _ => dflt .i64)⟩ : (Sl Int))⟩ : S_impl_Vip))) : Int × Nat × (Nat → S_impl_Vip))) else
    none)
def pcx_a4 (fu : Nat) (f : Nat) (xs : List (D RT den)) (ins : List (Ob RT den)) : Option (OutX RT den) := match f with | 130 => S_a3 fu xs ins | _ => none
def pcd_a4 : Nat → Bool := fun _ => false
def pc_a4 (fu : Nat) : Pc RT den := ⟨pcf0, fun f => match f with | 130 => true | _ => false, fun _ => false, pcd_a4, pcx_a4 fu⟩
def msk_a4 (b : Nat) : List Nat := match b with | 0 => [1, 2, 5, 6, 7, 8, 9, 10, 11, 12, 13, 14, 15, 16, 17, 18, 19, 20, 21, 22] | 100000 => [0, 1, 4, 5, 6, 7, 8, 9, 10, 11, 12, 13, 14, 15, 16, 17, 18, 19, 20, 21, 22] | 300000 => [5000000] | _ => []
def ps_a4_0 : List (Pat RT) := [.flat (.rs .impl_Vip), .flat .q, .flat .q, .flat (.os 0), .flat (.int .i64), .flat .q, .flat .q, .flat .q, .flat .q, .flat .q, .flat .q, .flat .q, .flat .q, .flat .q, .flat .q, .flat .q, .flat .q, .flat .q, .flat .q, .flat .q, .flat .q, .flat .q, .flat .q]
def os_a4_0 : List (OP RT) := [.deep false .impl_Vip]
def conv_a4_0 (r : Raw den ps_a4_0 os_a4_0) : ((Sl S_impl_Vip) × Nat × Nat) × (Int × Nat × (Nat → S_impl_Vip)) := ((r.1.1, r.1.2.2.2.1, r.2.1.1), (r.1.2.2.2.2.1, r.2.1.2.1, r.2.1.2.2))
def back_a4_0 (c : (Sl S_impl_Vip) × Nat × Nat) (w : Int × Nat × (Nat → S_impl_Vip)) : St RT den := ⟨[(.rs c.1.z .impl_Vip c.1.n c.1.f), .q, .q, (.os 0 c.2.1), (.int .i64 w.1), .q, .q, .q, .q, .q, .q, .q, .q, .q, .q, .q, .q, .q, .q, .q, .q, .q, .q], [(.deep false .impl_Vip c.2.2 w.2.1 w.2.2)]⟩
def Bk_a4_0 {ρ : Type} (fu : Nat) (c : (Sl S_impl_Vip) × Nat × Nat) (k : Ex → St RT den → Option ρ) (w : Int × Nat × (Nat → S_impl_Vip)) (go : (Int × Nat × (Nat → S_impl_Vip)) → Option ρ) : Option ρ := F_laws_toVipS_U_B0 fu c.1 c.2.1 c.2.2 (fun a0 a1 => k (.exit 0) ⟨[.q, .q, .q, (.os 0 c.2.1), .q, .q, .q, .q, .q, .q, .q, .q, .q, .q, .q, .q, .q, .q, .q, .q, .q, .q, .q], [(.deep false .impl_Vip c.2.2 a0 a1)]⟩) w.1 w.2.1 w.2.2 (fun q0 q1 q2 => go (q0, q1, q2))
def lp_a4 (fu : Nat) : Lp RT den (Nat × Nat × (Nat → S_impl_Vip)) := fun b s k => match b with | 0 => handle ps_a4_0 os_a4_0 conv_a4_0 (Bk_a4_0 fu) fu s k | _ => none
def pso_a4 : List (Pat RT) := [.flat (.os 0)]
def oso_a4 : List (OP RT) := [.deep false .impl_Vip]
def conv_a4 (r : Raw den pso_a4 oso_a4) : Nat × Nat × (Nat → S_impl_Vip) := (r.1.1, r.2.1.1, r.2.1.2.2)
def enc_a4 (y : Nat × Nat × (Nat → S_impl_Vip)) : D RT den × List (Ob RT den) := ((.os 0 y.1), [(.deep false .impl_Vip y.2.1 y.2.1 y.2.2)])
def chk_a4 (r : Raw den pso_a4 oso_a4) : Bool := (decide (r.2.1.2.1 = r.2.1.1) && true)
def raw_a4 (r : Raw den pso_a4 oso_a4) : St RT den := ⟨[(.os 0 r.1.1)], [(.deep false .impl_Vip r.2.1.1 r.2.1.2.1 r.2.1.2.2)]⟩
theorem chkd_a4 (r : Raw den pso_a4 oso_a4) (h : chk_a4 r = true) : raw_a4 r = ⟨[(enc_a4 (conv_a4 r)).1], (enc_a4 (conv_a4 r)).2⟩ := by
  simp only [chk_a4, Bool.and_eq_true, decide_eq_true_eq, and_true] at h
  simp only [raw_a4, enc_a4, conv_a4, h]
def out_a4 (d : D RT den) (os : List (Ob RT den)) : Option (Nat × Nat × (Nat → S_impl_Vip)) := (unSt pso_a4 oso_a4 ⟨[d], os⟩).bind fun v => bif chk_a4 v.1 then some (conv_a4 v.1) else none
theorem out_a4_enc (d : D RT den) (os : List (Ob RT den)) (y : Nat × Nat × (Nat → S_impl_Vip)) (h : out_a4 d os = some y) : d = (enc_a4 y).1 ∧ os = (enc_a4 y).2 :=
  outU (conv := conv_a4) (enc := enc_a4) (chk := chk_a4) (fun raw h => Eq.trans (by kernel_rfl) (chkd_a4 raw h)) h
theorem ev_a4 (fu : Nat) (a_0 : (Sl S_impl_Vip)) : evFunU E (pc_a4 fu) msk_a4 (lp_a4 fu) out_a4 68 [(.rs a_0.z .impl_Vip a_0.n a_0.f)] [] = F_laws_toVipS_U fu a_0 := by kernel_rfl
noncomputable def body_a4 : Code := Try.f68.body.getD .skip
noncomputable def lc_a4_0 : Code := ((loops 0 body_a4).getD 0 (0, .skip)).2
theorem round_a4_0 (fu : Nat) (it : St RT den → Option (Nat × Nat × (Nat → S_impl_Vip))) (k : Ex → St RT den → Option (Nat × Nat × (Nat → S_impl_Vip))) c w : evCode E (pc_a4 fu) msk_a4 (lp_a4 fu) 0 lc_a4_0 (back_a4_0 c w) (after (msk_a4 0) (msk_a4 100000) 1 it k) = Bk_a4_0 fu c k w (fun w => it (back_a4_0 c w)) := by kernel_rfl
theorem lpok_a4_0 (fu : Nat) : ∀ s k r, lp_a4 fu 0 s k = some r → ∃ fuel, iter (msk_a4 0) (msk_a4 100000) s.objs.length (evCode E (pc_a4 fu) msk_a4 (lp_a4 fu) 0 lc_a4_0) fuel s k = some r :=
  handle_ok (ps := ps_a4_0) (os := os_a4_0) (conv := conv_a4_0) (B := Bk_a4_0 fu) (fu := fu) back_a4_0 (fun raw => by kernel_rfl) 1 (fun c w => by kernel_rfl) (round_a4_0 fu)
theorem lpok_a4 (fu : Nat) : LpOk E (pc_a4 fu) msk_a4 (lp_a4 fu) (loops 0 body_a4) := loop_all 1 (by kernel_rfl) fun i hi => match i, hi with
  | 0, _ => by
    have h : (loops 0 body_a4).getD 0 (0, .skip) = (0, lc_a4_0) := by kernel_rfl
    rw [h]; exact lpok_a4_0 fu
  | i + 1, hi => absurd hi (by omega)
def S_a4 (fu : Nat) (xs : List (D RT den)) (ins : List (Ob RT den)) : Option (OutX RT den) := match xs, ins with | [.rs za0_0 .impl_Vip na0_0 fa0_0], [] => some ⟨Nat × Nat × (Nat → S_impl_Vip), F_laws_toVipS_U fu (⟨za0_0, na0_0, fa0_0⟩ : (Sl S_impl_Vip)), enc_a4⟩ | _, _ => none
theorem hpx_a4 (fu : Nat) : ∀ f xs ins o, pcx_a4 fu f xs ins = some o → ∀ y, o.x = some y → GoodXD E Try.prog (pcd_a4 f) f xs ins (o.g y).1 (o.g y).2 := by
  intro f xs ins o h
  unfold pcx_a4 at h
  split at h
  · exact good_a3 fu xs ins o h
  · cases h
theorem goodv_a4 (fu : Nat) (a_0 : (Sl S_impl_Vip)) (y : Nat × Nat × (Nat → S_impl_Vip)) (hy : F_laws_toVipS_U fu a_0 = some y) : GoodD E Try.prog 68 [(.rs a_0.z .impl_Vip a_0.n a_0.f)] [] (enc_a4 y).1 (enc_a4 y).2 :=
  funU_good E_ok (pc_good (pc := pc_a4 fu) hpc0 (hpx_a4 fu)) (fn := Try.f68) (c := body_a4) (out := out_a4) (y := y) (by kernel_rfl) (by kernel_rfl) (by kernel_rfl) (lpok_a4 fu) (by kernel_rfl) (Nat.le_of_ble_eq_true (by kernel_rfl)) (Fulls.get 0 (And.intro (Nat.le_refl _) trivial)) (fun d os hd => out_a4_enc d os _ hd) ((ev_a4 fu a_0).trans hy)
theorem good_a4 (fu : Nat) : ∀ xs ins o, S_a4 fu xs ins = some o → ∀ y, o.x = some y → GoodD E Try.prog 68 xs ins (o.g y).1 (o.g y).2 := by
  intro xs ins o h y hy
  unfold S_a4 at h
  split at h
  · rename_i za0_0 na0_0 fa0_0
    cases h
    exact goodv_a4 fu (⟨za0_0, na0_0, fa0_0⟩ : (Sl S_impl_Vip)) y hy
  · cases h

/-! laws.toConfig -/
def F_laws_toConfig_U (fu : Nat) (a_0 : S_laws_Config) : Option (Int × Nat × Nat × Nat × (Nat → S_impl_Backend) × Nat × (Nat → S_impl_Vip)) :=
  ((F_laws_toBackendS_H fu a_0.Backends).bind fun y6 => ((F_laws_toVipS_U fu a_0.Vips).bind fun y15 => (bif (decide (y15.1 ≤ y15.2.1) && true) then (bif (decide (y15.1 = y15.1) &&
    true) then (some (a_0.Version, y6.n, y15.1, y6.n, y6.f, y15.1, y15.2.2)) else none) else none)))
def pcx_a5 (fu : Nat) (f : Nat) (xs : List (D RT den)) (ins : List (Ob RT den)) : Option (OutX RT den) := match f with | 67 => S_a1 fu xs ins | 68 => S_a4 fu xs ins | _ => none
def pcd_a5 : Nat → Bool := fun f => match f with | 68 => true | _ => false
def pc_a5 (fu : Nat) : Pc RT den := ⟨pcf0, fun f => match f with | 67 => true | 68 => true | _ => false, fun _ => false, pcd_a5, pcx_a5 fu⟩
def msk_a5 (b : Nat) : List Nat := []
def lp_a5 (fu : Nat) : Lp RT den (Int × Nat × Nat × Nat × (Nat → S_impl_Backend) × Nat × (Nat → S_impl_Vip)) := fun b s k => none
def pso_a5 : List (Pat RT) := [.agg [(.int .i64), (.os 0), (.os 1)]]
def oso_a5 : List (OP RT) := [.row false .impl_Backend, .deep false .impl_Vip]
def conv_a5 (r : Raw den pso_a5 oso_a5) : Int × Nat × Nat × Nat × (Nat → S_impl_Backend) × Nat × (Nat → S_impl_Vip) := (r.1.1.1, r.1.1.2.1, r.1.1.2.2.1, r.2.1.1, r.2.1.2, r.2.2.1.1, r.2.2.1.2.2)
def enc_a5 (y : Int × Nat × Nat × Nat × (Nat → S_impl_Backend) × Nat × (Nat → S_impl_Vip)) : D RT den × List (Ob RT den) := ((.agg [(.int .i64 y.1), (.os 0 y.2.1), (.os 1 y.2.2.1)]), [(.row false .impl_Backend y.2.2.2.1 y.2.2.2.2.1), (.deep false .impl_Vip y.2.2.2.2.2.1 y.2.2.2.2.2.1 y.2.2.2.2.2.2)])
def chk_a5 (r : Raw den pso_a5 oso_a5) : Bool := (decide (r.2.2.1.2.1 = r.2.2.1.1) && true)
def raw_a5 (r : Raw den pso_a5 oso_a5) : St RT den := ⟨[(.agg [(.int .i64 r.1.1.1), (.os 0 r.1.1.2.1), (.os 1 r.1.1.2.2.1)])], [(.row false .impl_Backend r.2.1.1 r.2.1.2), (.deep false .impl_Vip r.2.2.1.1 r.2.2.1.2.1 r.2.2.1.2.2)]⟩
theorem chkd_a5 (r : Raw den pso_a5 oso_a5) (h : chk_a5 r = true) : raw_a5 r = ⟨[(enc_a5 (conv_a5 r)).1], (enc_a5 (conv_a5 r)).2⟩ := by
  simp only [chk_a5, Bool.and_eq_true, decide_eq_true_eq, and_true] at h
  simp only [raw_a5, enc_a5, conv_a5, h]
def out_a5 (d : D RT den) (os : List (Ob RT den)) : Option (Int × Nat × Nat × Nat × (Nat → S_impl_Backend) × Nat × (Nat → S_impl_Vip)) := (unSt pso_a5 oso_a5 ⟨[d], os⟩).bind fun v => bif chk_a5 v.1 then some (conv_a5 v.1) else none
theorem out_a5_enc (d : D RT den) (os : List (Ob RT den)) (y : Int × Nat × Nat × Nat × (Nat → S_impl_Backend) × Nat × (Nat → S_impl_Vip)) (h : out_a5 d os = some y) : d = (enc_a5 y).1 ∧ os = (enc_a5 y).2 :=
  outU (conv := conv_a5) (enc := enc_a5) (chk := chk_a5) (fun raw h => Eq.trans (by kernel_rfl) (chkd_a5 raw h)) h
theorem ev_a5 (fu : Nat) (a_0 : S_laws_Config) : evFunU E (pc_a5 fu) msk_a5 (lp_a5 fu) out_a5 19 [(.agg [(.int .i64 a_0.Version), (.rs a_0.Backends.z .impl_Backend a_0.Backends.n a_0.Backends.f), (.rs a_0.Vips.z .impl_Vip a_0.Vips.n a_0.Vips.f)])] [] = F_laws_toConfig_U fu a_0 := by kernel_rfl
noncomputable def body_a5 : Code := Try.f19.body.getD .skip
theorem lpok_a5 (fu : Nat) : LpOk E (pc_a5 fu) msk_a5 (lp_a5 fu) (loops 0 body_a5) := by
  have h : loops 0 body_a5 = [] := by kernel_rfl
  rw [h]; intro p hp; cases hp
def S_a5 (fu : Nat) (xs : List (D RT den)) (ins : List (Ob RT den)) : Option (OutX RT den) := match xs, ins with | [.agg [.int .i64 a0_1, .rs za0_2 .impl_Backend na0_2 fa0_2, .rs za0_3 .impl_Vip na0_3 fa0_3]], [] => some ⟨Int × Nat × Nat × Nat × (Nat → S_impl_Backend) × Nat × (Nat → S_impl_Vip), F_laws_toConfig_U fu (⟨a0_1, (⟨za0_2, na0_2, fa0_2⟩ : (Sl S_impl_Backend)), (⟨za0_3, na0_3, fa0_3⟩ : (Sl S_impl_Vip))⟩ : S_laws_Config), enc_a5⟩ | _, _ => none
theorem hpx_a5 (fu : Nat) : ∀ f xs ins o, pcx_a5 fu f xs ins = some o → ∀ y, o.x = some y → GoodXD E Try.prog (pcd_a5 f) f xs ins (o.g y).1 (o.g y).2 := by
  intro f xs ins o h
  unfold pcx_a5 at h
  split at h
  · exact good_a1 fu xs ins o h
  · exact good_a4 fu xs ins o h
  · cases h
theorem goodv_a5 (fu : Nat) (a_0 : S_laws_Config) (y : Int × Nat × Nat × Nat × (Nat → S_impl_Backend) × Nat × (Nat → S_impl_Vip)) (hy : F_laws_toConfig_U fu a_0 = some y) : GoodD E Try.prog 19 [(.agg [(.int .i64 a_0.Version), (.rs a_0.Backends.z .impl_Backend a_0.Backends.n a_0.Backends.f), (.rs a_0.Vips.z .impl_Vip a_0.Vips.n a_0.Vips.f)])] [] (enc_a5 y).1 (enc_a5 y).2 :=
  funU_good E_ok (pc_good (pc := pc_a5 fu) hpc0 (hpx_a5 fu)) (fn := Try.f19) (c := body_a5) (out := out_a5) (y := y) (by kernel_rfl) (by kernel_rfl) (by kernel_rfl) (lpok_a5 fu) (by kernel_rfl) (Nat.le_of_ble_eq_true (by kernel_rfl)) (Fulls.get 0 (And.intro (Nat.le_refl _) trivial)) (fun d os hd => out_a5_enc d os _ hd) ((ev_a5 fu a_0).trans hy)
theorem good_a5 (fu : Nat) : ∀ xs ins o, S_a5 fu xs ins = some o → ∀ y, o.x = some y → GoodD E Try.prog 19 xs ins (o.g y).1 (o.g y).2 := by
  intro xs ins o h y hy
  unfold S_a5 at h
  split at h
  · rename_i a0_1 za0_2 na0_2 fa0_2 za0_3 na0_3 fa0_3
    cases h
    exact goodv_a5 fu (⟨a0_1, (⟨za0_2, na0_2, fa0_2⟩ : (Sl S_impl_Backend)), (⟨za0_3, na0_3, fa0_3⟩ : (Sl S_impl_Vip))⟩ : S_laws_Config) y hy
  · cases h

/-! spec.l1In -/
def F_spec_l1In (fu : Nat) (v_0 : Int) (low_1 : Int) (high_2 : Int) : Option (Bool) :=
  (((bif (decide (v_0 ≥ low_1)) then (some (decide (v_0 ≤ high_2))) else (some false)) : Option Bool).bind fun m24 => (some m24))
def pc_a6 (fu : Nat) : Pc RT den := ⟨pcf0, fun _ => false, fun _ => false, pcd0, pcx0⟩
def msk_a6 (b : Nat) : List Nat := match b with | 200001 => [6] | _ => []
def lp_a6 (fu : Nat) : Lp RT den (Bool) := fun b s k => none
theorem ev_a6 (fu : Nat) (v_0 : Int) (low_1 : Int) (high_2 : Int) : evFun E (pc_a6 fu) msk_a6 (lp_a6 fu) out_bo 65 [(.int .i64 v_0), (.int .i64 low_1), (.int .i64 high_2)] = F_spec_l1In fu v_0 low_1 high_2 := by kernel_rfl
noncomputable def body_a6 : Code := Try.f65.body.getD .skip
theorem lpok_a6 (fu : Nat) : LpOk E (pc_a6 fu) msk_a6 (lp_a6 fu) (loops 0 body_a6) := by
  have h : loops 0 body_a6 = [] := by kernel_rfl
  rw [h]; intro p hp; cases hp
def S_a6 (fu : Nat) (xs : List (D RT den)) : Option (Out RT den) := match xs with | [.int .i64 a0_0, .int .i64 a1_0, .int .i64 a2_0] => some ⟨Bool, F_spec_l1In fu a0_0 a1_0 a2_0, enc_bo, fun _ => true⟩ | _ => none
theorem goodv_a6 (fu : Nat) (v_0 : Int) (low_1 : Int) (high_2 : Int) (y : Bool) (hy : F_spec_l1In fu v_0 low_1 high_2 = some y) : Good E Try.prog 65 [(.int .i64 v_0), (.int .i64 low_1), (.int .i64 high_2)] (enc_bo y) :=
  fun_good E_ok (pc_good (pc := pc_a6 fu) hpc0 hpx0) (fn := Try.f65) (c := body_a6) (out := out_bo) (y := y) (by kernel_rfl) (by kernel_rfl) (by kernel_rfl) (lpok_a6 fu) (fun d hd => out_bo_enc d _ hd) ((ev_a6 fu v_0 low_1 high_2).trans hy)
theorem good_a6 (fu : Nat) : ∀ xs o, S_a6 fu xs = some o → ∀ y, o.x = some y → Good E Try.prog 65 xs (o.g y) := by
  intro xs o h y hy
  unfold S_a6 at h
  split at h
  · rename_i a0_0 a1_0 a2_0
    cases h
    exact goodv_a6 fu a0_0 a1_0 a2_0 y hy
  · cases h

/-! spec.l5Version -/
def F_spec_l5Version (fu : Nat) (v_0 : Int) : Option (Bool) :=
  ((F_spec_l1In fu v_0 0 1000000).bind fun y23 => (some y23))
def pcf_a7 (fu : Nat) (f : Nat) (xs : List (D RT den)) : Option (Out RT den) := match f with | 65 => S_a6 fu xs | _ => none
def pc_a7 (fu : Nat) : Pc RT den := ⟨pcf_a7 fu, fun _ => false, fun _ => false, pcd0, pcx0⟩
def msk_a7 (b : Nat) : List Nat := []
def lp_a7 (fu : Nat) : Lp RT den (Bool) := fun b s k => none
theorem ev_a7 (fu : Nat) (v_0 : Int) : evFun E (pc_a7 fu) msk_a7 (lp_a7 fu) out_bo 124 [(.int .i64 v_0)] = F_spec_l5Version fu v_0 := by kernel_rfl
noncomputable def body_a7 : Code := Try.f124.body.getD .skip
theorem lpok_a7 (fu : Nat) : LpOk E (pc_a7 fu) msk_a7 (lp_a7 fu) (loops 0 body_a7) := by
  have h : loops 0 body_a7 = [] := by kernel_rfl
  rw [h]; intro p hp; cases hp
def S_a7 (fu : Nat) (xs : List (D RT den)) : Option (Out RT den) := match xs with | [.int .i64 a0_0] => some ⟨Bool, F_spec_l5Version fu a0_0, enc_bo, fun _ => true⟩ | _ => none
theorem hpc_a7 (fu : Nat) : ∀ f xs o, pcf_a7 fu f xs = some o → ∀ y, o.x = some y → Good E Try.prog f xs (o.g y) := by
  intro f xs o h
  unfold pcf_a7 at h
  split at h
  · exact good_a6 fu xs o h
  · cases h
theorem goodv_a7 (fu : Nat) (v_0 : Int) (y : Bool) (hy : F_spec_l5Version fu v_0 = some y) : Good E Try.prog 124 [(.int .i64 v_0)] (enc_bo y) :=
  fun_good E_ok (pc_good (pc := pc_a7 fu) (hpc_a7 fu) hpx0) (fn := Try.f124) (c := body_a7) (out := out_bo) (y := y) (by kernel_rfl) (by kernel_rfl) (by kernel_rfl) (lpok_a7 fu) (fun d hd => out_bo_enc d _ hd) ((ev_a7 fu v_0).trans hy)
theorem good_a7 (fu : Nat) : ∀ xs o, S_a7 fu xs = some o → ∀ y, o.x = some y → Good E Try.prog 124 xs (o.g y) := by
  intro xs o h y hy
  unfold S_a7 at h
  split at h
  · rename_i a0_0
    cases h
    exact goodv_a7 fu a0_0 y hy
  · cases h

/-! spec.l3Name -/
def F_spec_l3Name (fu : Nat) (name_0 : Int) : Option (Bool) :=
  ((F_spec_l1In fu name_0 1 999).bind fun y30 => (some y30))
def pcf_a8 (fu : Nat) (f : Nat) (xs : List (D RT den)) : Option (Out RT den) := match f with | 65 => S_a6 fu xs | _ => none
def pc_a8 (fu : Nat) : Pc RT den := ⟨pcf_a8 fu, fun _ => false, fun _ => false, pcd0, pcx0⟩
def msk_a8 (b : Nat) : List Nat := []
def lp_a8 (fu : Nat) : Lp RT den (Bool) := fun b s k => none
theorem ev_a8 (fu : Nat) (name_0 : Int) : evFun E (pc_a8 fu) msk_a8 (lp_a8 fu) out_bo 127 [(.int .i64 name_0)] = F_spec_l3Name fu name_0 := by kernel_rfl
noncomputable def body_a8 : Code := Try.f127.body.getD .skip
theorem lpok_a8 (fu : Nat) : LpOk E (pc_a8 fu) msk_a8 (lp_a8 fu) (loops 0 body_a8) := by
  have h : loops 0 body_a8 = [] := by kernel_rfl
  rw [h]; intro p hp; cases hp
def S_a8 (fu : Nat) (xs : List (D RT den)) : Option (Out RT den) := match xs with | [.int .i64 a0_0] => some ⟨Bool, F_spec_l3Name fu a0_0, enc_bo, fun _ => true⟩ | _ => none
theorem hpc_a8 (fu : Nat) : ∀ f xs o, pcf_a8 fu f xs = some o → ∀ y, o.x = some y → Good E Try.prog f xs (o.g y) := by
  intro f xs o h
  unfold pcf_a8 at h
  split at h
  · exact good_a6 fu xs o h
  · cases h
theorem goodv_a8 (fu : Nat) (name_0 : Int) (y : Bool) (hy : F_spec_l3Name fu name_0 = some y) : Good E Try.prog 127 [(.int .i64 name_0)] (enc_bo y) :=
  fun_good E_ok (pc_good (pc := pc_a8 fu) (hpc_a8 fu) hpx0) (fn := Try.f127) (c := body_a8) (out := out_bo) (y := y) (by kernel_rfl) (by kernel_rfl) (by kernel_rfl) (lpok_a8 fu) (fun d hd => out_bo_enc d _ hd) ((ev_a8 fu name_0).trans hy)
theorem good_a8 (fu : Nat) : ∀ xs o, S_a8 fu xs = some o → ∀ y, o.x = some y → Good E Try.prog 127 xs (o.g y) := by
  intro xs o h y hy
  unfold S_a8 at h
  split at h
  · rename_i a0_0
    cases h
    exact goodv_a8 fu a0_0 y hy
  · cases h

/-! spec.l2Address -/
def F_spec_l2Address (fu : Nat) (a_0 : Int) : Option (Bool) :=
  ((F_spec_l1In fu a_0 0 4294967295).bind fun y31 => (some y31))
def pcf_a9 (fu : Nat) (f : Nat) (xs : List (D RT den)) : Option (Out RT den) := match f with | 65 => S_a6 fu xs | _ => none
def pc_a9 (fu : Nat) : Pc RT den := ⟨pcf_a9 fu, fun _ => false, fun _ => false, pcd0, pcx0⟩
def msk_a9 (b : Nat) : List Nat := []
def lp_a9 (fu : Nat) : Lp RT den (Bool) := fun b s k => none
theorem ev_a9 (fu : Nat) (a_0 : Int) : evFun E (pc_a9 fu) msk_a9 (lp_a9 fu) out_bo 144 [(.int .i64 a_0)] = F_spec_l2Address fu a_0 := by kernel_rfl
noncomputable def body_a9 : Code := Try.f144.body.getD .skip
theorem lpok_a9 (fu : Nat) : LpOk E (pc_a9 fu) msk_a9 (lp_a9 fu) (loops 0 body_a9) := by
  have h : loops 0 body_a9 = [] := by kernel_rfl
  rw [h]; intro p hp; cases hp
def S_a9 (fu : Nat) (xs : List (D RT den)) : Option (Out RT den) := match xs with | [.int .i64 a0_0] => some ⟨Bool, F_spec_l2Address fu a0_0, enc_bo, fun _ => true⟩ | _ => none
theorem hpc_a9 (fu : Nat) : ∀ f xs o, pcf_a9 fu f xs = some o → ∀ y, o.x = some y → Good E Try.prog f xs (o.g y) := by
  intro f xs o h
  unfold pcf_a9 at h
  split at h
  · exact good_a6 fu xs o h
  · cases h
theorem goodv_a9 (fu : Nat) (a_0 : Int) (y : Bool) (hy : F_spec_l2Address fu a_0 = some y) : Good E Try.prog 144 [(.int .i64 a_0)] (enc_bo y) :=
  fun_good E_ok (pc_good (pc := pc_a9 fu) (hpc_a9 fu) hpx0) (fn := Try.f144) (c := body_a9) (out := out_bo) (y := y) (by kernel_rfl) (by kernel_rfl) (by kernel_rfl) (lpok_a9 fu) (fun d hd => out_bo_enc d _ hd) ((ev_a9 fu a_0).trans hy)
theorem good_a9 (fu : Nat) : ∀ xs o, S_a9 fu xs = some o → ∀ y, o.x = some y → Good E Try.prog 144 xs (o.g y) := by
  intro xs o h y hy
  unfold S_a9 at h
  split at h
  · rename_i a0_0
    cases h
    exact goodv_a9 fu a0_0 y hy
  · cases h

/-! spec.l5Backend -/
def F_spec_l5Backend (fu : Nat) (b_0 : S_impl_Backend) : Option (Bool) :=
  ((((F_spec_l3Name fu b_0.Name).bind fun y25 => (bif y25 then ((F_spec_l2Address fu b_0.Address).bind fun y26 => (bif y26 then ((F_spec_l1In fu b_0.Weight 0 9).bind fun y27 => (bif y27 then
    ((F_spec_l1In fu b_0.Stage 1 3).bind fun y28 => (some y28)) else (some false))) else (some false))) else (some false))) : Option Bool).bind fun m29 => (some m29))
def pcf_a10 (fu : Nat) (f : Nat) (xs : List (D RT den)) : Option (Out RT den) := match f with | 65 => S_a6 fu xs | 127 => S_a8 fu xs | 144 => S_a9 fu xs | _ => none
def pc_a10 (fu : Nat) : Pc RT den := ⟨pcf_a10 fu, fun _ => false, fun _ => false, pcd0, pcx0⟩
def msk_a10 (b : Nat) : List Nat := match b with | 200001 => [2] | _ => []
def lp_a10 (fu : Nat) : Lp RT den (Bool) := fun b s k => none
theorem ev_a10 (fu : Nat) (b_0 : S_impl_Backend) : evFun E (pc_a10 fu) msk_a10 (lp_a10 fu) out_bo 125 [(.agg [(.int .i64 b_0.Name), (.int .i64 b_0.Address), (.int .i64 b_0.Weight), (.int .i64 b_0.Stage), (.bool b_0.Up)])] = F_spec_l5Backend fu b_0 := by kernel_rfl
noncomputable def body_a10 : Code := Try.f125.body.getD .skip
theorem lpok_a10 (fu : Nat) : LpOk E (pc_a10 fu) msk_a10 (lp_a10 fu) (loops 0 body_a10) := by
  have h : loops 0 body_a10 = [] := by kernel_rfl
  rw [h]; intro p hp; cases hp
def S_a10 (fu : Nat) (xs : List (D RT den)) : Option (Out RT den) := match xs with | [.agg [.int .i64 a0_1, .int .i64 a0_2, .int .i64 a0_3, .int .i64 a0_4, .bool a0_5]] => some ⟨Bool, F_spec_l5Backend fu (⟨a0_1, a0_2, a0_3, a0_4, a0_5⟩ : S_impl_Backend), enc_bo, fun _ => true⟩ | _ => none
theorem hpc_a10 (fu : Nat) : ∀ f xs o, pcf_a10 fu f xs = some o → ∀ y, o.x = some y → Good E Try.prog f xs (o.g y) := by
  intro f xs o h
  unfold pcf_a10 at h
  split at h
  · exact good_a6 fu xs o h
  · exact good_a8 fu xs o h
  · exact good_a9 fu xs o h
  · cases h
theorem goodv_a10 (fu : Nat) (b_0 : S_impl_Backend) (y : Bool) (hy : F_spec_l5Backend fu b_0 = some y) : Good E Try.prog 125 [(.agg [(.int .i64 b_0.Name), (.int .i64 b_0.Address), (.int .i64 b_0.Weight), (.int .i64 b_0.Stage), (.bool b_0.Up)])] (enc_bo y) :=
  fun_good E_ok (pc_good (pc := pc_a10 fu) (hpc_a10 fu) hpx0) (fn := Try.f125) (c := body_a10) (out := out_bo) (y := y) (by kernel_rfl) (by kernel_rfl) (by kernel_rfl) (lpok_a10 fu) (fun d hd => out_bo_enc d _ hd) ((ev_a10 fu b_0).trans hy)
theorem good_a10 (fu : Nat) : ∀ xs o, S_a10 fu xs = some o → ∀ y, o.x = some y → Good E Try.prog 125 xs (o.g y) := by
  intro xs o h y hy
  unfold S_a10 at h
  split at h
  · rename_i a0_1 a0_2 a0_3 a0_4 a0_5
    cases h
    exact goodv_a10 fu (⟨a0_1, a0_2, a0_3, a0_4, a0_5⟩ : S_impl_Backend) y hy
  · cases h

/-! spec.l2Port -/
def F_spec_l2Port (fu : Nat) (p_0 : Int) : Option (Bool) :=
  ((F_spec_l1In fu p_0 0 65535).bind fun y39 => (some y39))
def pcf_a11 (fu : Nat) (f : Nat) (xs : List (D RT den)) : Option (Out RT den) := match f with | 65 => S_a6 fu xs | _ => none
def pc_a11 (fu : Nat) : Pc RT den := ⟨pcf_a11 fu, fun _ => false, fun _ => false, pcd0, pcx0⟩
def msk_a11 (b : Nat) : List Nat := []
def lp_a11 (fu : Nat) : Lp RT den (Bool) := fun b s k => none
theorem ev_a11 (fu : Nat) (p_0 : Int) : evFun E (pc_a11 fu) msk_a11 (lp_a11 fu) out_bo 176 [(.int .i64 p_0)] = F_spec_l2Port fu p_0 := by kernel_rfl
noncomputable def body_a11 : Code := Try.f176.body.getD .skip
theorem lpok_a11 (fu : Nat) : LpOk E (pc_a11 fu) msk_a11 (lp_a11 fu) (loops 0 body_a11) := by
  have h : loops 0 body_a11 = [] := by kernel_rfl
  rw [h]; intro p hp; cases hp
def S_a11 (fu : Nat) (xs : List (D RT den)) : Option (Out RT den) := match xs with | [.int .i64 a0_0] => some ⟨Bool, F_spec_l2Port fu a0_0, enc_bo, fun _ => true⟩ | _ => none
theorem hpc_a11 (fu : Nat) : ∀ f xs o, pcf_a11 fu f xs = some o → ∀ y, o.x = some y → Good E Try.prog f xs (o.g y) := by
  intro f xs o h
  unfold pcf_a11 at h
  split at h
  · exact good_a6 fu xs o h
  · cases h
theorem goodv_a11 (fu : Nat) (p_0 : Int) (y : Bool) (hy : F_spec_l2Port fu p_0 = some y) : Good E Try.prog 176 [(.int .i64 p_0)] (enc_bo y) :=
  fun_good E_ok (pc_good (pc := pc_a11 fu) (hpc_a11 fu) hpx0) (fn := Try.f176) (c := body_a11) (out := out_bo) (y := y) (by kernel_rfl) (by kernel_rfl) (by kernel_rfl) (lpok_a11 fu) (fun d hd => out_bo_enc d _ hd) ((ev_a11 fu p_0).trans hy)
theorem good_a11 (fu : Nat) : ∀ xs o, S_a11 fu xs = some o → ∀ y, o.x = some y → Good E Try.prog 176 xs (o.g y) := by
  intro xs o h y hy
  unfold S_a11 at h
  split at h
  · rename_i a0_0
    cases h
    exact goodv_a11 fu a0_0 y hy
  · cases h

/-! spec.l5Proto -/
def F_spec_l5Proto (fu : Nat) (p_0 : Int) : Option (Bool) :=
  (((bif (p_0 == 6) then (some true) else (some (p_0 == 17))) : Option Bool).bind fun m40 => (some m40))
def pc_a12 (fu : Nat) : Pc RT den := ⟨pcf0, fun _ => false, fun _ => false, pcd0, pcx0⟩
def msk_a12 (b : Nat) : List Nat := match b with | 200001 => [2] | _ => []
def lp_a12 (fu : Nat) : Lp RT den (Bool) := fun b s k => none
theorem ev_a12 (fu : Nat) (p_0 : Int) : evFun E (pc_a12 fu) msk_a12 (lp_a12 fu) out_bo 177 [(.int .i64 p_0)] = F_spec_l5Proto fu p_0 := by kernel_rfl
noncomputable def body_a12 : Code := Try.f177.body.getD .skip
theorem lpok_a12 (fu : Nat) : LpOk E (pc_a12 fu) msk_a12 (lp_a12 fu) (loops 0 body_a12) := by
  have h : loops 0 body_a12 = [] := by kernel_rfl
  rw [h]; intro p hp; cases hp
def S_a12 (fu : Nat) (xs : List (D RT den)) : Option (Out RT den) := match xs with | [.int .i64 a0_0] => some ⟨Bool, F_spec_l5Proto fu a0_0, enc_bo, fun _ => true⟩ | _ => none
theorem goodv_a12 (fu : Nat) (p_0 : Int) (y : Bool) (hy : F_spec_l5Proto fu p_0 = some y) : Good E Try.prog 177 [(.int .i64 p_0)] (enc_bo y) :=
  fun_good E_ok (pc_good (pc := pc_a12 fu) hpc0 hpx0) (fn := Try.f177) (c := body_a12) (out := out_bo) (y := y) (by kernel_rfl) (by kernel_rfl) (by kernel_rfl) (lpok_a12 fu) (fun d hd => out_bo_enc d _ hd) ((ev_a12 fu p_0).trans hy)
theorem good_a12 (fu : Nat) : ∀ xs o, S_a12 fu xs = some o → ∀ y, o.x = some y → Good E Try.prog 177 xs (o.g y) := by
  intro xs o h y hy
  unfold S_a12 at h
  split at h
  · rename_i a0_0
    cases h
    exact goodv_a12 fu a0_0 y hy
  · cases h

/-! spec.l5Behind -/
def F_spec_l5Behind (fu : Nat) (a_0 : S_impl_Vip) (b_1 : S_impl_Vip) : Option (Bool) :=
  (bif (a_0.Address != b_1.Address) then (some (decide (a_0.Address < b_1.Address))) else (bif (a_0.Port != b_1.Port) then (some (decide (a_0.Port < b_1.Port))) else (some (decide (a_0.Proto < b_1.Proto)))))
def pc_a13 (fu : Nat) : Pc RT den := ⟨pcf0, fun _ => false, fun _ => false, pcd0, pcx0⟩
def msk_a13 (b : Nat) : List Nat := []
def lp_a13 (fu : Nat) : Lp RT den (Bool) := fun b s k => none
theorem ev_a13 (fu : Nat) (a_0 : S_impl_Vip) (b_1 : S_impl_Vip) : evFun E (pc_a13 fu) msk_a13 (lp_a13 fu) out_bo 178 [(.agg [(.int .i64 a_0.Address), (.int .i64 a_0.Port), (.int .i64 a_0.Proto), (.rs a_0.Names.z .i64 a_0.Names.n a_0.Names.f)]), (.agg [(.int .i64 b_1.Address), (.int .i64 b_1.Port), (.int .i64 b_1.Proto), (.rs b_1.Names.z .i64 b_1.Names.n b_1.Names.f)])] = F_spec_l5Behind fu a_0 b_1 := by kernel_rfl
noncomputable def body_a13 : Code := Try.f178.body.getD .skip
theorem lpok_a13 (fu : Nat) : LpOk E (pc_a13 fu) msk_a13 (lp_a13 fu) (loops 0 body_a13) := by
  have h : loops 0 body_a13 = [] := by kernel_rfl
  rw [h]; intro p hp; cases hp
def S_a13 (fu : Nat) (xs : List (D RT den)) : Option (Out RT den) := match xs with | [.agg [.int .i64 a0_1, .int .i64 a0_2, .int .i64 a0_3, .rs za0_4 .i64 na0_4 fa0_4], .agg [.int .i64 a1_1, .int .i64 a1_2, .int .i64 a1_3, .rs za1_4 .i64 na1_4 fa1_4]] => some ⟨Bool, F_spec_l5Behind fu (⟨a0_1, a0_2, a0_3, (⟨za0_4, na0_4, fa0_4⟩ : (Sl Int))⟩ : S_impl_Vip) (⟨a1_1, a1_2, a1_3, (⟨za1_4, na1_4, fa1_4⟩ : (Sl Int))⟩ : S_impl_Vip), enc_bo, fun _ => true⟩ | _ => none
theorem goodv_a13 (fu : Nat) (a_0 : S_impl_Vip) (b_1 : S_impl_Vip) (y : Bool) (hy : F_spec_l5Behind fu a_0 b_1 = some y) : Good E Try.prog 178 [(.agg [(.int .i64 a_0.Address), (.int .i64 a_0.Port), (.int .i64 a_0.Proto), (.rs a_0.Names.z .i64 a_0.Names.n a_0.Names.f)]), (.agg [(.int .i64 b_1.Address), (.int .i64 b_1.Port), (.int .i64 b_1.Proto), (.rs b_1.Names.z .i64 b_1.Names.n b_1.Names.f)])] (enc_bo y) :=
  fun_good E_ok (pc_good (pc := pc_a13 fu) hpc0 hpx0) (fn := Try.f178) (c := body_a13) (out := out_bo) (y := y) (by kernel_rfl) (by kernel_rfl) (by kernel_rfl) (lpok_a13 fu) (fun d hd => out_bo_enc d _ hd) ((ev_a13 fu a_0 b_1).trans hy)
theorem good_a13 (fu : Nat) : ∀ xs o, S_a13 fu xs = some o → ∀ y, o.x = some y → Good E Try.prog 178 xs (o.g y) := by
  intro xs o h y hy
  unfold S_a13 at h
  split at h
  · rename_i a0_1 a0_2 a0_3 za0_4 na0_4 fa0_4 a1_1 a1_2 a1_3 za1_4 na1_4 fa1_4
    cases h
    exact goodv_a13 fu (⟨a0_1, a0_2, a0_3, (⟨za0_4, na0_4, fa0_4⟩ : (Sl Int))⟩ : S_impl_Vip) (⟨a1_1, a1_2, a1_3, (⟨za1_4, na1_4, fa1_4⟩ : (Sl Int))⟩ : S_impl_Vip) y hy
  · cases h

/-! spec.l5At -/
def F_spec_l5At_B0 {ρ : Type} (fu : Nat) (c0_0 : Int) (c0_1 : (Sl S_impl_Backend)) (c0_2 : (Sl S_impl_Vip)) (name1_3 : Int) (k0 : Int → Option ρ) (k1 : Option ρ) (i5_4 : Int) (go : Int → Option ρ) : Option ρ :=
  (bif (decide (i5_4 < ((c0_1.n : Nat) : Int))) then ((bif (decide (0 ≤ i5_4) && decide ((Int.toNat i5_4) < c0_1.n)) then some () else none : Option Unit).bind fun _ => (bif ((c0_1.f (Int.toNat i5_4)).Name == name1_3) then
    (k0 i5_4) else (go (IntKind.wrap .i64 (i5_4 + 1))))) else k1)
def F_spec_l5At (fu : Nat) (c_0 : S_impl_Config) (name_1 : Int) : Option (Int) :=
  (L (fun w0 go0 => F_spec_l5At_B0 fu c_0.Version c_0.Backends c_0.Vips name_1 (fun z41 => (some z41)) (some (-1)) w0 go0) fu (0 : Int))
def pc_a14 (fu : Nat) : Pc RT den := ⟨pcf0, fun _ => false, fun _ => false, pcd0, pcx0⟩
def msk_a14 (b : Nat) : List Nat := match b with | 0 => [2, 3, 4, 6, 7, 8, 9, 10, 11, 12, 13, 14, 15, 16, 17, 18, 19, 20, 21, 22, 23, 24, 25] | 100000 => [0, 1, 2, 3, 5, 6, 7, 8, 9, 10, 11, 12, 13, 14, 15, 16, 17, 18, 19, 20, 21, 22, 23, 24, 25] | _ => []
def ps_a14_0 : List (Pat RT) := [.rptr [(.int .i64), (.rs .impl_Backend), (.rs .impl_Vip)], .flat (.int .i64), .flat .q, .flat .q, .flat .q, .flat (.int .i64), .flat .q, .flat .q, .flat .q, .flat .q, .flat .q, .flat .q, .flat .q, .flat .q, .flat .q, .flat .q, .flat .q, .flat .q, .flat .q, .flat .q, .flat .q, .flat .q, .flat .q, .flat .q, .flat .q, .flat .q]
def os_a14_0 : List (OP RT) := []
def conv_a14_0 (r : Raw den ps_a14_0 os_a14_0) : (Int × (Sl S_impl_Backend) × (Sl S_impl_Vip) × Int) × (Int) := ((r.1.1.1, r.1.1.2.1, r.1.1.2.2.1, r.1.2.1), r.1.2.2.2.2.2.1)
def back_a14_0 (c : Int × (Sl S_impl_Backend) × (Sl S_impl_Vip) × Int) (w : Int) : St RT den := ⟨[(.rptr [(.int .i64 c.1), (.rs c.2.1.z .impl_Backend c.2.1.n c.2.1.f), (.rs c.2.2.1.z .impl_Vip c.2.2.1.n c.2.2.1.f)]), (.int .i64 c.2.2.2), .q, .q, .q, (.int .i64 w), .q, .q, .q, .q, .q, .q, .q, .q, .q, .q, .q, .q, .q, .q, .q, .q, .q, .q, .q, .q], []⟩
def Bk_a14_0 {ρ : Type} (fu : Nat) (c : Int × (Sl S_impl_Backend) × (Sl S_impl_Vip) × Int) (k : Ex → St RT den → Option ρ) (w : Int) (go : (Int) → Option ρ) : Option ρ := F_spec_l5At_B0 fu c.1 c.2.1 c.2.2.1 c.2.2.2 (fun a0 => k .ret ⟨[.q, .q, .q, .q, (.int .i64 a0), .q, .q, .q, .q, .q, .q, .q, .q, .q, .q, .q, .q, .q, .q, .q, .q, .q, .q, .q, .q, .q], []⟩) (k (.exit 0) ⟨[.q, .q, .q, .q, .q, .q, .q, .q, .q, .q, .q, .q, .q, .q, .q, .q, .q, .q, .q, .q, .q, .q, .q, .q, .q, .q], []⟩) w go
def lp_a14 (fu : Nat) : Lp RT den (Int) := fun b s k => match b with | 0 => handle ps_a14_0 os_a14_0 conv_a14_0 (Bk_a14_0 fu) fu s k | _ => none
theorem ev_a14 (fu : Nat) (c_0 : S_impl_Config) (name_1 : Int) : evFun E (pc_a14 fu) msk_a14 (lp_a14 fu) out_i64 90 [(.rptr [(.int .i64 c_0.Version), (.rs c_0.Backends.z .impl_Backend c_0.Backends.n c_0.Backends.f), (.rs c_0.Vips.z .impl_Vip c_0.Vips.n c_0.Vips.f)]), (.int .i64 name_1)] = F_spec_l5At fu c_0 name_1 := by kernel_rfl
noncomputable def body_a14 : Code := Try.f90.body.getD .skip
noncomputable def lc_a14_0 : Code := ((loops 0 body_a14).getD 0 (0, .skip)).2
theorem round_a14_0 (fu : Nat) (it : St RT den → Option (Int)) (k : Ex → St RT den → Option (Int)) c w : evCode E (pc_a14 fu) msk_a14 (lp_a14 fu) 0 lc_a14_0 (back_a14_0 c w) (after (msk_a14 0) (msk_a14 100000) 0 it k) = Bk_a14_0 fu c k w (fun w => it (back_a14_0 c w)) := by kernel_rfl
theorem lpok_a14_0 (fu : Nat) : ∀ s k r, lp_a14 fu 0 s k = some r → ∃ fuel, iter (msk_a14 0) (msk_a14 100000) s.objs.length (evCode E (pc_a14 fu) msk_a14 (lp_a14 fu) 0 lc_a14_0) fuel s k = some r :=
  handle_ok (ps := ps_a14_0) (os := os_a14_0) (conv := conv_a14_0) (B := Bk_a14_0 fu) (fu := fu) back_a14_0 (fun raw => by kernel_rfl) 0 (fun c w => by kernel_rfl) (round_a14_0 fu)
theorem lpok_a14 (fu : Nat) : LpOk E (pc_a14 fu) msk_a14 (lp_a14 fu) (loops 0 body_a14) := loop_all 1 (by kernel_rfl) fun i hi => match i, hi with
  | 0, _ => by
    have h : (loops 0 body_a14).getD 0 (0, .skip) = (0, lc_a14_0) := by kernel_rfl
    rw [h]; exact lpok_a14_0 fu
  | i + 1, hi => absurd hi (by omega)
def S_a14 (fu : Nat) (xs : List (D RT den)) : Option (Out RT den) := match xs with | [.rptr (.int .i64 a0_1 :: .rs za0_2 .impl_Backend na0_2 fa0_2 :: .rs za0_3 .impl_Vip na0_3 fa0_3 :: ra0), .int .i64 a1_0] => some ⟨Int, F_spec_l5At fu (⟨a0_1, (⟨za0_2, na0_2, fa0_2⟩ : (Sl S_impl_Backend)), (⟨za0_3, na0_3, fa0_3⟩ : (Sl S_impl_Vip))⟩ : S_impl_Config) a1_0, enc_i64, fun _ => true⟩ | _ => none
theorem goodv_a14 (fu : Nat) (c_0 : S_impl_Config) (name_1 : Int) (y : Int) (hy : F_spec_l5At fu c_0 name_1 = some y) : Good E Try.prog 90 [(.rptr [(.int .i64 c_0.Version), (.rs c_0.Backends.z .impl_Backend c_0.Backends.n c_0.Backends.f), (.rs c_0.Vips.z .impl_Vip c_0.Vips.n c_0.Vips.f)]), (.int .i64 name_1)] (enc_i64 y) :=
  fun_good E_ok (pc_good (pc := pc_a14 fu) hpc0 hpx0) (fn := Try.f90) (c := body_a14) (out := out_i64) (y := y) (by kernel_rfl) (by kernel_rfl) (by kernel_rfl) (lpok_a14 fu) (fun d hd => out_i64_enc d _ hd) ((ev_a14 fu c_0 name_1).trans hy)
theorem good_a14 (fu : Nat) : ∀ xs o, S_a14 fu xs = some o → ∀ y, o.x = some y → Good E Try.prog 90 xs (o.g y) := by
  intro xs o h y hy
  unfold S_a14 at h
  split at h
  · rename_i a0_1 za0_2 na0_2 fa0_2 za0_3 na0_3 fa0_3 ra0 a1_0
    cases h
    exact (goodv_a14 fu (⟨a0_1, (⟨za0_2, na0_2, fa0_2⟩ : (Sl S_impl_Backend)), (⟨za0_3, na0_3, fa0_3⟩ : (Sl S_impl_Vip))⟩ : S_impl_Config) a1_0 y hy).sub ⟨Sub.of_eq ra0 rfl, .refl _, trivial⟩
  · cases h

/-! spec.l5Vip -/
def F_spec_l5Vip_B0 {ρ : Type} (fu : Nat) (c0_0 : Int) (c0_1 : (Sl S_impl_Backend)) (c0_2 : (Sl S_impl_Vip)) (o0_4 : Int) (o0_5 : Int) (o0_6 : Int) (o0_7 : (Sl Int)) (k0 : Option ρ) (k1 : Option ρ) (i6_3 : Int) (go : Int → Option ρ) : Option ρ :=
  (bif (decide (i6_3 < ((o0_7.n : Nat) : Int))) then ((bif (decide (0 ≤ i6_3) && decide ((Int.toNat i6_3) < o0_7.n)) then some () else none : Option Unit).bind fun _ =>
    ((F_spec_l5At fu (⟨c0_0, c0_1, c0_2⟩ : S_impl_Config) (o0_7.f (Int.toNat i6_3))).bind fun y38 => (bif (decide (y38 < 0)) then k0 else (go (IntKind.wrap .i64 (i6_3 + 1)))))) else
    k1)
def F_spec_l5Vip_B2 {ρ : Type} (fu : Nat) (o0_1 : Int) (o0_2 : Int) (o0_3 : Int) (o0_4 : (Sl Int)) (k0 : Option ρ) (k1 : Option ρ) (i7_0 : Int) (go : Int → Option ρ) : Option ρ :=
  (bif (decide (i7_0 < ((o0_4.n : Nat) : Int))) then ((bif (decide (0 ≤ i7_0) && decide ((Int.toNat i7_0) < o0_4.n)) then some () else none : Option Unit).bind fun _ => ((bif (decide (0 ≤ (IntKind.wrap .i64 (i7_0 - 1))) &&
    decide ((Int.toNat (IntKind.wrap .i64 (i7_0 - 1))) < o0_4.n)) then some () else none : Option Unit).bind fun _ => (bif (decide ((o0_4.f (Int.toNat i7_0)) ≤ (o0_4.f (Int.toNat (IntKind.wrap .i64 (i7_0 - 1)))))) then
    k0 else (go (IntKind.wrap .i64 (i7_0 + 1)))))) else k1)
def F_spec_l5Vip (fu : Nat) (c_0 : S_impl_Config) (at_1 : Int) : Option (Int) :=
  ((bif (decide (0 ≤ at_1) && decide ((Int.toNat at_1) < c_0.Vips.n)) then some () else none : Option Unit).bind fun _ => ((((F_spec_l2Address fu (c_0.Vips.f (Int.toNat at_1)).Address).bind fun y32 =>
    (bif (!y32) then (some true) else ((F_spec_l2Port fu (c_0.Vips.f (Int.toNat at_1)).Port).bind fun y33 => (bif (!y33) then (some true) else ((F_spec_l5Proto fu (c_0.Vips.f (Int.toNat at_1)).Proto).bind fun y34 =>
    (some (!y34))))))) : Option Bool).bind fun m35 => (bif m35 then (some 3) else (((bif (decide (at_1 > 0)) then ((bif (decide (0 ≤ (IntKind.wrap .i64 (at_1 - 1))) && decide ((Int.toNat (IntKind.wrap .i64 (at_1 - 1))) < c_0.Vips.n)) then
    some () else none : Option Unit).bind fun _ => ((F_spec_l5Behind fu (c_0.Vips.f (Int.toNat (IntKind.wrap .i64 (at_1 - 1)))) (c_0.Vips.f (Int.toNat at_1))).bind fun y36 => (some (!y36)))) else
    (some false)) : Option Bool).bind fun m37 => (bif m37 then (some 1) else (L (fun w0 go0 => F_spec_l5Vip_B0 fu c_0.Version c_0.Backends c_0.Vips ((c_0.Vips.f (Int.toNat at_1)).Address) ((c_0.Vips.f (Int.toNat at_1)).Port) ((c_0.Vips.f (Int.toNat at_1)).Proto) ((c_0.Vips.f (Int.toNat at_1)).Names) (some 4) (L (fun w2 go2 =>
    F_spec_l5Vip_B2 fu ((c_0.Vips.f (Int.toNat at_1)).Address) ((c_0.Vips.f (Int.toNat at_1)).Port) ((c_0.Vips.f (Int.toNat at_1)).Proto) ((c_0.Vips.f (Int.toNat at_1)).Names) (some 1) (some 0) w2 go2) fu (1 : Int)) w0 go0) fu (0 : Int)))))))
def pcf_a15 (fu : Nat) (f : Nat) (xs : List (D RT den)) : Option (Out RT den) := match f with | 90 => S_a14 fu xs | 144 => S_a9 fu xs | 176 => S_a11 fu xs | 177 => S_a12 fu xs | 178 => S_a13 fu xs | _ => none
def pc_a15 (fu : Nat) : Pc RT den := ⟨pcf_a15 fu, fun _ => false, fun _ => false, pcd0, pcx0⟩
def msk_a15 (b : Nat) : List Nat := match b with | 0 => [1, 2, 3, 4, 7, 8, 9, 10, 11, 12, 13, 14, 15, 16, 17, 18, 19, 20, 21, 22, 23, 24, 25, 26, 27, 28, 29, 30, 31, 32, 33, 34, 35, 36, 37, 38, 39, 40, 41, 42, 43, 44, 45, 46, 47, 48, 49, 50, 51, 52, 53, 54, 55, 56, 57, 58, 59, 60, 61, 62, 63, 64, 65, 66, 67, 68, 69, 70, 71, 72, 73, 74, 75, 76, 77, 78, 79] | 100000 => [0, 1, 2, 3, 6, 7, 8, 9, 10, 11, 12, 13, 14, 15, 16, 17, 18, 19, 20, 21, 22, 23, 24, 25, 26, 27, 28, 29, 30, 31, 32, 33, 34, 35, 36, 37, 38, 39, 40, 41, 42, 43, 44, 45, 46, 47, 48, 49, 50, 51, 52, 53, 54, 55, 56, 57, 58, 59, 60, 61, 62, 63, 64, 65, 66, 67, 68, 69, 70, 71, 72, 73, 74, 75, 76, 77, 78, 79] | 2 => [0, 1, 2, 3, 4, 6, 8, 9, 10, 11, 12, 13, 14, 15, 16, 17, 18, 19, 20, 21, 22, 23, 24, 25, 26, 27, 28, 29, 30, 31, 32, 33, 34, 35, 36, 37, 38, 39, 40, 41, 42, 43, 44, 45, 46, 47, 48, 49, 50, 51, 52, 53, 54, 55, 56, 57, 58, 59, 60, 61, 62, 63, 64, 65, 66, 67, 68, 69, 70, 71, 72, 73, 74, 75, 76, 77, 78, 79] | 100002 => [0, 1, 2, 3, 5, 6, 7, 8, 9, 10, 11, 12, 13, 14, 15, 16, 17, 18, 19, 20, 21, 22, 23, 24, 25, 26, 27, 28, 29, 30, 31, 32, 33, 34, 35, 36, 37, 38, 39, 40, 41, 42, 43, 44, 45, 46, 47, 48, 49, 50, 51, 52, 53, 54, 55, 56, 57, 58, 59, 60, 61, 62, 63, 64, 65, 66, 67, 68, 69, 70, 71, 72, 73, 74, 75, 76, 77, 78, 79] | 200002 => [30] | 200004 => [45] | _ => []
def ps_a15_0 : List (Pat RT) := [.rptr [(.int .i64), (.rs .impl_Backend), (.rs .impl_Vip)], .flat .q, .flat .q, .flat .q, .flat .q, .flat (.ref 0 0), .flat (.int .i64), .flat .q, .flat .q, .flat .q, .flat .q, .flat .q, .flat .q, .flat .q, .flat .q, .flat .q, .flat .q, .flat .q, .flat .q, .flat .q, .flat .q, .flat .q, .flat .q, .flat .q, .flat .q, .flat .q, .flat .q, .flat .q, .flat .q, .flat .q, .flat .q, .flat .q, .flat .q, .flat .q, .flat .q, .flat .q, .flat .q, .flat .q, .flat .q, .flat .q, .flat .q, .flat .q, .flat .q, .flat .q, .flat .q, .flat .q, .flat .q, .flat .q, .flat .q, .flat .q, .flat .q, .flat .q, .flat .q, .flat .q, .flat .q, .flat .q, .flat .q, .flat .q, .flat .q, .flat .q, .flat .q, .flat .q, .flat .q, .flat .q, .flat .q, .flat .q, .flat .q, .flat .q, .flat .q, .flat .q, .flat .q, .flat .q, .flat .q, .flat .q, .flat .q, .flat .q, .flat .q, .flat .q, .flat .q, .flat .q]
def os_a15_0 : List (OP RT) := [.box false [(.int .i64), (.int .i64), (.int .i64), (.rs .i64)]]
def conv_a15_0 (r : Raw den ps_a15_0 os_a15_0) : (Int × (Sl S_impl_Backend) × (Sl S_impl_Vip) × Int × Int × Int × (Sl Int)) × (Int) := ((r.1.1.1, r.1.1.2.1, r.1.1.2.2.1, r.2.1.1, r.2.1.2.1, r.2.1.2.2.1, r.2.1.2.2.2.1), r.1.2.2.2.2.2.2.1)
def back_a15_0 (c : Int × (Sl S_impl_Backend) × (Sl S_impl_Vip) × Int × Int × Int × (Sl Int)) (w : Int) : St RT den := ⟨[(.rptr [(.int .i64 c.1), (.rs c.2.1.z .impl_Backend c.2.1.n c.2.1.f), (.rs c.2.2.1.z .impl_Vip c.2.2.1.n c.2.2.1.f)]), .q, .q, .q, .q, (.ref 0 0), (.int .i64 w), .q, .q, .q, .q, .q, .q, .q, .q, .q, .q, .q, .q, .q, .q, .q, .q, .q, .q, .q, .q, .q, .q, .q, .q, .q, .q, .q, .q, .q, .q, .q, .q, .q, .q, .q, .q, .q, .q, .q, .q, .q, .q, .q, .q, .q, .q, .q, .q, .q, .q, .q, .q, .q, .q, .q, .q, .q, .q, .q, .q, .q, .q, .q, .q, .q, .q, .q, .q, .q, .q, .q, .q, .q], [(.box false [(.int .i64 c.2.2.2.1), (.int .i64 c.2.2.2.2.1), (.int .i64 c.2.2.2.2.2.1), (.rs c.2.2.2.2.2.2.z .i64 c.2.2.2.2.2.2.n c.2.2.2.2.2.2.f)])]⟩
def Bk_a15_0 {ρ : Type} (fu : Nat) (c : Int × (Sl S_impl_Backend) × (Sl S_impl_Vip) × Int × Int × Int × (Sl Int)) (k : Ex → St RT den → Option ρ) (w : Int) (go : (Int) → Option ρ) : Option ρ := F_spec_l5Vip_B0 fu c.1 c.2.1 c.2.2.1 c.2.2.2.1 c.2.2.2.2.1 c.2.2.2.2.2.1 c.2.2.2.2.2.2 (k .ret ⟨[.q, .q, .q, .q, (.int .i64 4), (.ref 0 0), .q, .q, .q, .q, .q, .q, .q, .q, .q, .q, .q, .q, .q, .q, .q, .q, .q, .q, .q, .q, .q, .q, .q, .q, .q, .q, .q, .q, .q, .q, .q, .q, .q, .q, .q, .q, .q, .q, .q, .q, .q, .q, .q, .q, .q, .q, .q, .q, .q, .q, .q, .q, .q, .q, .q, .q, .q, .q, .q, .q, .q, .q, .q, .q, .q, .q, .q, .q, .q, .q, .q, .q, .q, .q], [(.box false [(.int .i64 c.2.2.2.1), (.int .i64 c.2.2.2.2.1), (.int .i64 c.2.2.2.2.2.1), (.rs c.2.2.2.2.2.2.z .i64 c.2.2.2.2.2.2.n c.2.2.2.2.2.2.f)])]⟩) (k (.exit 0) ⟨[.q, .q, .q, .q, .q, (.ref 0 0), .q, .q, .q, .q, .q, .q, .q, .q, .q, .q, .q, .q, .q, .q, .q, .q, .q, .q, .q, .q, .q, .q, .q, .q, .q, .q, .q, .q, .q, .q, .q, .q, .q, .q, .q, .q, .q, .q, .q, .q, .q, .q, .q, .q, .q, .q, .q, .q, .q, .q, .q, .q, .q, .q, .q, .q, .q, .q, .q, .q, .q, .q, .q, .q, .q, .q, .q, .q, .q, .q, .q, .q, .q, .q], [(.box false [(.int .i64 c.2.2.2.1), (.int .i64 c.2.2.2.2.1), (.int .i64 c.2.2.2.2.2.1), (.rs c.2.2.2.2.2.2.z .i64 c.2.2.2.2.2.2.n c.2.2.2.2.2.2.f)])]⟩) w go
def ps_a15_2 : List (Pat RT) := [.flat .q, .flat .q, .flat .q, .flat .q, .flat .q, .flat (.ref 0 0), .flat .q, .flat (.int .i64), .flat .q, .flat .q, .flat .q, .flat .q, .flat .q, .flat .q, .flat .q, .flat .q, .flat .q, .flat .q, .flat .q, .flat .q, .flat .q, .flat .q, .flat .q, .flat .q, .flat .q, .flat .q, .flat .q, .flat .q, .flat .q, .flat .q, .flat .q, .flat .q, .flat .q, .flat .q, .flat .q, .flat .q, .flat .q, .flat .q, .flat .q, .flat .q, .flat .q, .flat .q, .flat .q, .flat .q, .flat .q, .flat .q, .flat .q, .flat .q, .flat .q, .flat .q, .flat .q, .flat .q, .flat .q, .flat .q, .flat .q, .flat .q, .flat .q, .flat .q, .flat .q, .flat .q, .flat .q, .flat .q, .flat .q, .flat .q, .flat .q, .flat .q, .flat .q, .flat .q, .flat .q, .flat .q, .flat .q, .flat .q, .flat .q, .flat .q, .flat .q, .flat .q, .flat .q, .flat .q, .flat .q, .flat .q]
def os_a15_2 : List (OP RT) := [.box false [(.int .i64), (.int .i64), (.int .i64), (.rs .i64)]]
def conv_a15_2 (r : Raw den ps_a15_2 os_a15_2) : (Int × Int × Int × (Sl Int)) × (Int) := ((r.2.1.1, r.2.1.2.1, r.2.1.2.2.1, r.2.1.2.2.2.1), r.1.2.2.2.2.2.2.2.1)
def back_a15_2 (c : Int × Int × Int × (Sl Int)) (w : Int) : St RT den := ⟨[.q, .q, .q, .q, .q, (.ref 0 0), .q, (.int .i64 w), .q, .q, .q, .q, .q, .q, .q, .q, .q, .q, .q, .q, .q, .q, .q, .q, .q, .q, .q, .q, .q, .q, .q, .q, .q, .q, .q, .q, .q, .q, .q, .q, .q, .q, .q, .q, .q, .q, .q, .q, .q, .q, .q, .q, .q, .q, .q, .q, .q, .q, .q, .q, .q, .q, .q, .q, .q, .q, .q, .q, .q, .q, .q, .q, .q, .q, .q, .q, .q, .q, .q, .q], [(.box false [(.int .i64 c.1), (.int .i64 c.2.1), (.int .i64 c.2.2.1), (.rs c.2.2.2.z .i64 c.2.2.2.n c.2.2.2.f)])]⟩
def Bk_a15_2 {ρ : Type} (fu : Nat) (c : Int × Int × Int × (Sl Int)) (k : Ex → St RT den → Option ρ) (w : Int) (go : (Int) → Option ρ) : Option ρ := F_spec_l5Vip_B2 fu c.1 c.2.1 c.2.2.1 c.2.2.2 (k .ret ⟨[.q, .q, .q, .q, (.int .i64 1), .q, .q, .q, .q, .q, .q, .q, .q, .q, .q, .q, .q, .q, .q, .q, .q, .q, .q, .q, .q, .q, .q, .q, .q, .q, .q, .q, .q, .q, .q, .q, .q, .q, .q, .q, .q, .q, .q, .q, .q, .q, .q, .q, .q, .q, .q, .q, .q, .q, .q, .q, .q, .q, .q, .q, .q, .q, .q, .q, .q, .q, .q, .q, .q, .q, .q, .q, .q, .q, .q, .q, .q, .q, .q, .q], [(.box false [(.int .i64 c.1), (.int .i64 c.2.1), (.int .i64 c.2.2.1), (.rs c.2.2.2.z .i64 c.2.2.2.n c.2.2.2.f)])]⟩) (k (.exit 2) ⟨[.q, .q, .q, .q, .q, .q, .q, .q, .q, .q, .q, .q, .q, .q, .q, .q, .q, .q, .q, .q, .q, .q, .q, .q, .q, .q, .q, .q, .q, .q, .q, .q, .q, .q, .q, .q, .q, .q, .q, .q, .q, .q, .q, .q, .q, .q, .q, .q, .q, .q, .q, .q, .q, .q, .q, .q, .q, .q, .q, .q, .q, .q, .q, .q, .q, .q, .q, .q, .q, .q, .q, .q, .q, .q, .q, .q, .q, .q, .q, .q], [(.box false [(.int .i64 c.1), (.int .i64 c.2.1), (.int .i64 c.2.2.1), (.rs c.2.2.2.z .i64 c.2.2.2.n c.2.2.2.f)])]⟩) w go
def lp_a15 (fu : Nat) : Lp RT den (Int) := fun b s k => match b with | 0 => handle ps_a15_0 os_a15_0 conv_a15_0 (Bk_a15_0 fu) fu s k | 2 => handle ps_a15_2 os_a15_2 conv_a15_2 (Bk_a15_2 fu) fu s k | _ => none
theorem ev_a15 (fu : Nat) (c_0 : S_impl_Config) (at_1 : Int) : evFun E (pc_a15 fu) msk_a15 (lp_a15 fu) out_i64 126 [(.rptr [(.int .i64 c_0.Version), (.rs c_0.Backends.z .impl_Backend c_0.Backends.n c_0.Backends.f), (.rs c_0.Vips.z .impl_Vip c_0.Vips.n c_0.Vips.f)]), (.int .i64 at_1)] = F_spec_l5Vip fu c_0 at_1 := by kernel_rfl
noncomputable def body_a15 : Code := Try.f126.body.getD .skip
noncomputable def lc_a15_0 : Code := ((loops 0 body_a15).getD 0 (0, .skip)).2
theorem round_a15_0 (fu : Nat) (it : St RT den → Option (Int)) (k : Ex → St RT den → Option (Int)) c w : evCode E (pc_a15 fu) msk_a15 (lp_a15 fu) 0 lc_a15_0 (back_a15_0 c w) (after (msk_a15 0) (msk_a15 100000) 1 it k) = Bk_a15_0 fu c k w (fun w => it (back_a15_0 c w)) := by kernel_rfl
theorem lpok_a15_0 (fu : Nat) : ∀ s k r, lp_a15 fu 0 s k = some r → ∃ fuel, iter (msk_a15 0) (msk_a15 100000) s.objs.length (evCode E (pc_a15 fu) msk_a15 (lp_a15 fu) 0 lc_a15_0) fuel s k = some r :=
  handle_ok (ps := ps_a15_0) (os := os_a15_0) (conv := conv_a15_0) (B := Bk_a15_0 fu) (fu := fu) back_a15_0 (fun raw => by kernel_rfl) 1 (fun c w => by kernel_rfl) (round_a15_0 fu)
noncomputable def lc_a15_2 : Code := ((loops 0 body_a15).getD 1 (0, .skip)).2
theorem round_a15_2 (fu : Nat) (it : St RT den → Option (Int)) (k : Ex → St RT den → Option (Int)) c w : evCode E (pc_a15 fu) msk_a15 (lp_a15 fu) 2 lc_a15_2 (back_a15_2 c w) (after (msk_a15 2) (msk_a15 100002) 1 it k) = Bk_a15_2 fu c k w (fun w => it (back_a15_2 c w)) := by kernel_rfl
theorem lpok_a15_2 (fu : Nat) : ∀ s k r, lp_a15 fu 2 s k = some r → ∃ fuel, iter (msk_a15 2) (msk_a15 100002) s.objs.length (evCode E (pc_a15 fu) msk_a15 (lp_a15 fu) 2 lc_a15_2) fuel s k = some r :=
  handle_ok (ps := ps_a15_2) (os := os_a15_2) (conv := conv_a15_2) (B := Bk_a15_2 fu) (fu := fu) back_a15_2 (fun raw => by kernel_rfl) 1 (fun c w => by kernel_rfl) (round_a15_2 fu)
theorem lpok_a15 (fu : Nat) : LpOk E (pc_a15 fu) msk_a15 (lp_a15 fu) (loops 0 body_a15) := loop_all 2 (by kernel_rfl) fun i hi => match i, hi with
  | 0, _ => by
    have h : (loops 0 body_a15).getD 0 (0, .skip) = (0, lc_a15_0) := by kernel_rfl
    rw [h]; exact lpok_a15_0 fu
  | 1, _ => by
    have h : (loops 0 body_a15).getD 1 (0, .skip) = (2, lc_a15_2) := by kernel_rfl
    rw [h]; exact lpok_a15_2 fu
  | i + 2, hi => absurd hi (by omega)
def S_a15 (fu : Nat) (xs : List (D RT den)) : Option (Out RT den) := match xs with | [.rptr (.int .i64 a0_1 :: .rs za0_2 .impl_Backend na0_2 fa0_2 :: .rs za0_3 .impl_Vip na0_3 fa0_3 :: ra0), .int .i64 a1_0] => some ⟨Int, F_spec_l5Vip fu (⟨a0_1, (⟨za0_2, na0_2, fa0_2⟩ : (Sl S_impl_Backend)), (⟨za0_3, na0_3, fa0_3⟩ : (Sl S_impl_Vip))⟩ : S_impl_Config) a1_0, enc_i64, fun _ => true⟩ | _ => none
theorem hpc_a15 (fu : Nat) : ∀ f xs o, pcf_a15 fu f xs = some o → ∀ y, o.x = some y → Good E Try.prog f xs (o.g y) := by
  intro f xs o h
  unfold pcf_a15 at h
  split at h
  · exact good_a14 fu xs o h
  · exact good_a9 fu xs o h
  · exact good_a11 fu xs o h
  · exact good_a12 fu xs o h
  · exact good_a13 fu xs o h
  · cases h
theorem goodv_a15 (fu : Nat) (c_0 : S_impl_Config) (at_1 : Int) (y : Int) (hy : F_spec_l5Vip fu c_0 at_1 = some y) : Good E Try.prog 126 [(.rptr [(.int .i64 c_0.Version), (.rs c_0.Backends.z .impl_Backend c_0.Backends.n c_0.Backends.f), (.rs c_0.Vips.z .impl_Vip c_0.Vips.n c_0.Vips.f)]), (.int .i64 at_1)] (enc_i64 y) :=
  fun_good E_ok (pc_good (pc := pc_a15 fu) (hpc_a15 fu) hpx0) (fn := Try.f126) (c := body_a15) (out := out_i64) (y := y) (by kernel_rfl) (by kernel_rfl) (by kernel_rfl) (lpok_a15 fu) (fun d hd => out_i64_enc d _ hd) ((ev_a15 fu c_0 at_1).trans hy)
theorem good_a15 (fu : Nat) : ∀ xs o, S_a15 fu xs = some o → ∀ y, o.x = some y → Good E Try.prog 126 xs (o.g y) := by
  intro xs o h y hy
  unfold S_a15 at h
  split at h
  · rename_i a0_1 za0_2 na0_2 fa0_2 za0_3 na0_3 fa0_3 ra0 a1_0
    cases h
    exact (goodv_a15 fu (⟨a0_1, (⟨za0_2, na0_2, fa0_2⟩ : (Sl S_impl_Backend)), (⟨za0_3, na0_3, fa0_3⟩ : (Sl S_impl_Vip))⟩ : S_impl_Config) a1_0 y hy).sub ⟨Sub.of_eq ra0 rfl, .refl _, trivial⟩
  · cases h

/-! spec.l5Fault -/
def F_spec_l5Fault_B0 {ρ : Type} (fu : Nat) (c0_0 : Int) (c0_1 : (Sl S_impl_Backend)) (c0_2 : (Sl S_impl_Vip)) (k0 : Option ρ) (k1 : Option ρ) (k2 : Option ρ) (i3_3 : Int) (go : Int → Option ρ) : Option ρ :=
  (bif (decide (i3_3 < ((c0_1.n : Nat) : Int))) then ((bif (decide (0 ≤ i3_3) && decide ((Int.toNat i3_3) < c0_1.n)) then some () else none : Option Unit).bind fun _ =>
    ((F_spec_l5Backend fu (c0_1.f (Int.toNat i3_3))).bind fun y19 => (bif (!y19) then k0 else (((bif (decide (i3_3 > 0)) then ((bif (decide (0 ≤ i3_3) && decide ((Int.toNat i3_3) < c0_1.n)) then
    some () else none : Option Unit).bind fun _ => ((bif (decide (0 ≤ (IntKind.wrap .i64 (i3_3 - 1))) && decide ((Int.toNat (IntKind.wrap .i64 (i3_3 - 1))) < c0_1.n)) then some () else
    none : Option Unit).bind fun _ => (some (decide ((c0_1.f (Int.toNat i3_3)).Name ≤ (c0_1.f (Int.toNat (IntKind.wrap .i64 (i3_3 - 1)))).Name))))) else (some false)) : Option Bool).bind fun m20 =>
    (bif m20 then k1 else (go (IntKind.wrap .i64 (i3_3 + 1)))))))) else k2)
def F_spec_l5Fault_B2 {ρ : Type} (fu : Nat) (c0_0 : Int) (c0_1 : (Sl S_impl_Backend)) (c0_2 : (Sl S_impl_Vip)) (k0 : Int → Option ρ) (k1 : Option ρ) (i4_3 : Int) (go : Int → Option ρ) : Option ρ :=
  (bif (decide (i4_3 < ((c0_2.n : Nat) : Int))) then ((F_spec_l5Vip fu (⟨c0_0, c0_1, c0_2⟩ : S_impl_Config) i4_3).bind fun y21 => (bif (y21 != 0) then (k0 y21) else (go (IntKind.wrap .i64 (i4_3 + 1))))) else
    k1)
def F_spec_l5Fault (fu : Nat) (c_0 : S_impl_Config) : Option (Int) :=
  ((F_spec_l5Version fu c_0.Version).bind fun y17 => (bif (!y17) then (some 3) else (((bif (decide (((c_0.Backends.n : Nat) : Int) > 8)) then (some true) else (some (decide (((c_0.Vips.n : Nat) : Int) > 4)))) : Option Bool).bind fun m18 =>
    (bif m18 then (some 2) else (L (fun w0 go0 => F_spec_l5Fault_B0 fu c_0.Version c_0.Backends c_0.Vips (some 3) (some 1) (L (fun w2 go2 => F_spec_l5Fault_B2 fu c_0.Version c_0.Backends c_0.Vips (fun z22 =>
    (some z22)) (some 0) w2 go2) fu (0 : Int)) w0 go0) fu (0 : Int))))))
def pcf_a16 (fu : Nat) (f : Nat) (xs : List (D RT den)) : Option (Out RT den) := match f with | 124 => S_a7 fu xs | 125 => S_a10 fu xs | 126 => S_a15 fu xs | _ => none
def pc_a16 (fu : Nat) : Pc RT den := ⟨pcf_a16 fu, fun _ => false, fun _ => false, pcd0, pcx0⟩
def msk_a16 (b : Nat) : List Nat := match b with | 0 => [1, 2, 4, 5, 6, 7, 8, 9, 10, 11, 12, 13, 14, 15, 16, 17, 18, 19, 20, 21, 22, 23, 24, 25, 26, 27, 28, 29, 30, 31, 32, 33, 34, 35, 36, 37, 38, 39, 40, 41, 42, 43, 44, 45, 46, 47, 48, 49, 50, 51, 52, 53, 54, 55, 56, 57, 58, 59, 60, 61, 62, 63, 64, 65, 66, 67, 68, 69, 70, 71, 72, 73, 74, 75, 76, 77, 78, 79, 80] | 100000 => [1, 3, 4, 5, 6, 7, 8, 9, 10, 11, 12, 13, 14, 15, 16, 17, 18, 19, 20, 21, 22, 23, 24, 25, 26, 27, 28, 29, 30, 31, 32, 33, 34, 35, 36, 37, 38, 39, 40, 41, 42, 43, 44, 45, 46, 47, 48, 49, 50, 51, 52, 53, 54, 55, 56, 57, 58, 59, 60, 61, 62, 63, 64, 65, 66, 67, 68, 69, 70, 71, 72, 73, 74, 75, 76, 77, 78, 79, 80] | 2 => [1, 2, 3, 5, 6, 7, 8, 9, 10, 11, 12, 13, 14, 15, 16, 17, 18, 19, 20, 21, 22, 23, 24, 25, 26, 27, 28, 29, 30, 31, 32, 33, 34, 35, 36, 37, 38, 39, 40, 41, 42, 43, 44, 45, 46, 47, 48, 49, 50, 51, 52, 53, 54, 55, 56, 57, 58, 59, 60, 61, 62, 63, 64, 65, 66, 67, 68, 69, 70, 71, 72, 73, 74, 75, 76, 77, 78, 79, 80] | 100002 => [0, 1, 3, 4, 5, 6, 7, 8, 9, 10, 11, 12, 13, 14, 15, 16, 17, 18, 19, 20, 21, 22, 23, 24, 25, 26, 27, 28, 29, 30, 31, 32, 33, 34, 35, 36, 37, 38, 39, 40, 41, 42, 43, 44, 45, 46, 47, 48, 49, 50, 51, 52, 53, 54, 55, 56, 57, 58, 59, 60, 61, 62, 63, 64, 65, 66, 67, 68, 69, 70, 71, 72, 73, 74, 75, 76, 77, 78, 79, 80] | 200003 => [25] | 200010 => [65] | _ => []
def ps_a16_0 : List (Pat RT) := [.rptr [(.int .i64), (.rs .impl_Backend), (.rs .impl_Vip)], .flat .q, .flat .q, .flat (.int .i64), .flat .q, .flat .q, .flat .q, .flat .q, .flat .q, .flat .q, .flat .q, .flat .q, .flat .q, .flat .q, .flat .q, .flat .q, .flat .q, .flat .q, .flat .q, .flat .q, .flat .q, .flat .q, .flat .q, .flat .q, .flat .q, .flat .q, .flat .q, .flat .q, .flat .q, .flat .q, .flat .q, .flat .q, .flat .q, .flat .q, .flat .q, .flat .q, .flat .q, .flat .q, .flat .q, .flat .q, .flat .q, .flat .q, .flat .q, .flat .q, .flat .q, .flat .q, .flat .q, .flat .q, .flat .q, .flat .q, .flat .q, .flat .q, .flat .q, .flat .q, .flat .q, .flat .q, .flat .q, .flat .q, .flat .q, .flat .q, .flat .q, .flat .q, .flat .q, .flat .q, .flat .q, .flat .q, .flat .q, .flat .q, .flat .q, .flat .q, .flat .q, .flat .q, .flat .q, .flat .q, .flat .q, .flat .q, .flat .q, .flat .q, .flat .q, .flat .q, .flat .q]
def os_a16_0 : List (OP RT) := []
def conv_a16_0 (r : Raw den ps_a16_0 os_a16_0) : (Int × (Sl S_impl_Backend) × (Sl S_impl_Vip)) × (Int) := ((r.1.1.1, r.1.1.2.1, r.1.1.2.2.1), r.1.2.2.2.1)
def back_a16_0 (c : Int × (Sl S_impl_Backend) × (Sl S_impl_Vip)) (w : Int) : St RT den := ⟨[(.rptr [(.int .i64 c.1), (.rs c.2.1.z .impl_Backend c.2.1.n c.2.1.f), (.rs c.2.2.z .impl_Vip c.2.2.n c.2.2.f)]), .q, .q, (.int .i64 w), .q, .q, .q, .q, .q, .q, .q, .q, .q, .q, .q, .q, .q, .q, .q, .q, .q, .q, .q, .q, .q, .q, .q, .q, .q, .q, .q, .q, .q, .q, .q, .q, .q, .q, .q, .q, .q, .q, .q, .q, .q, .q, .q, .q, .q, .q, .q, .q, .q, .q, .q, .q, .q, .q, .q, .q, .q, .q, .q, .q, .q, .q, .q, .q, .q, .q, .q, .q, .q, .q, .q, .q, .q, .q, .q, .q, .q], []⟩
def Bk_a16_0 {ρ : Type} (fu : Nat) (c : Int × (Sl S_impl_Backend) × (Sl S_impl_Vip)) (k : Ex → St RT den → Option ρ) (w : Int) (go : (Int) → Option ρ) : Option ρ := F_spec_l5Fault_B0 fu c.1 c.2.1 c.2.2 (k .ret ⟨[(.rptr [(.int .i64 c.1), (.rs c.2.1.z .impl_Backend c.2.1.n c.2.1.f), (.rs c.2.2.z .impl_Vip c.2.2.n c.2.2.f)]), .q, (.int .i64 3), .q, .q, .q, .q, .q, .q, .q, .q, .q, .q, .q, .q, .q, .q, .q, .q, .q, .q, .q, .q, .q, .q, .q, .q, .q, .q, .q, .q, .q, .q, .q, .q, .q, .q, .q, .q, .q, .q, .q, .q, .q, .q, .q, .q, .q, .q, .q, .q, .q, .q, .q, .q, .q, .q, .q, .q, .q, .q, .q, .q, .q, .q, .q, .q, .q, .q, .q, .q, .q, .q, .q, .q, .q, .q, .q, .q, .q, .q], []⟩) (k .ret ⟨[(.rptr [(.int .i64 c.1), (.rs c.2.1.z .impl_Backend c.2.1.n c.2.1.f), (.rs c.2.2.z .impl_Vip c.2.2.n c.2.2.f)]), .q, (.int .i64 1), .q, .q, .q, .q, .q, .q, .q, .q, .q, .q, .q, .q, .q, .q, .q, .q, .q, .q, .q, .q, .q, .q, .q, .q, .q, .q, .q, .q, .q, .q, .q, .q, .q, .q, .q, .q, .q, .q, .q, .q, .q, .q, .q, .q, .q, .q, .q, .q, .q, .q, .q, .q, .q, .q, .q, .q, .q, .q, .q, .q, .q, .q, .q, .q, .q, .q, .q, .q, .q, .q, .q, .q, .q, .q, .q, .q, .q, .q], []⟩) (k (.exit 0) ⟨[(.rptr [(.int .i64 c.1), (.rs c.2.1.z .impl_Backend c.2.1.n c.2.1.f), (.rs c.2.2.z .impl_Vip c.2.2.n c.2.2.f)]), .q, .q, .q, .q, .q, .q, .q, .q, .q, .q, .q, .q, .q, .q, .q, .q, .q, .q, .q, .q, .q, .q, .q, .q, .q, .q, .q, .q, .q, .q, .q, .q, .q, .q, .q, .q, .q, .q, .q, .q, .q, .q, .q, .q, .q, .q, .q, .q, .q, .q, .q, .q, .q, .q, .q, .q, .q, .q, .q, .q, .q, .q, .q, .q, .q, .q, .q, .q, .q, .q, .q, .q, .q, .q, .q, .q, .q, .q, .q, .q], []⟩) w go
def ps_a16_2 : List (Pat RT) := [.rptr [(.int .i64), (.rs .impl_Backend), (.rs .impl_Vip)], .flat .q, .flat .q, .flat .q, .flat (.int .i64), .flat .q, .flat .q, .flat .q, .flat .q, .flat .q, .flat .q, .flat .q, .flat .q, .flat .q, .flat .q, .flat .q, .flat .q, .flat .q, .flat .q, .flat .q, .flat .q, .flat .q, .flat .q, .flat .q, .flat .q, .flat .q, .flat .q, .flat .q, .flat .q, .flat .q, .flat .q, .flat .q, .flat .q, .flat .q, .flat .q, .flat .q, .flat .q, .flat .q, .flat .q, .flat .q, .flat .q, .flat .q, .flat .q, .flat .q, .flat .q, .flat .q, .flat .q, .flat .q, .flat .q, .flat .q, .flat .q, .flat .q, .flat .q, .flat .q, .flat .q, .flat .q, .flat .q, .flat .q, .flat .q, .flat .q, .flat .q, .flat .q, .flat .q, .flat .q, .flat .q, .flat .q, .flat .q, .flat .q, .flat .q, .flat .q, .flat .q, .flat .q, .flat .q, .flat .q, .flat .q, .flat .q, .flat .q, .flat .q, .flat .q, .flat .q, .flat .q]
def os_a16_2 : List (OP RT) := []
def conv_a16_2 (r : Raw den ps_a16_2 os_a16_2) : (Int × (Sl S_impl_Backend) × (Sl S_impl_Vip)) × (Int) := ((r.1.1.1, r.1.1.2.1, r.1.1.2.2.1), r.1.2.2.2.2.1)
def back_a16_2 (c : Int × (Sl S_impl_Backend) × (Sl S_impl_Vip)) (w : Int) : St RT den := ⟨[(.rptr [(.int .i64 c.1), (.rs c.2.1.z .impl_Backend c.2.1.n c.2.1.f), (.rs c.2.2.z .impl_Vip c.2.2.n c.2.2.f)]), .q, .q, .q, (.int .i64 w), .q, .q, .q, .q, .q, .q, .q, .q, .q, .q, .q, .q, .q, .q, .q, .q, .q, .q, .q, .q, .q, .q, .q, .q, .q, .q, .q, .q, .q, .q, .q, .q, .q, .q, .q, .q, .q, .q, .q, .q, .q, .q, .q, .q, .q, .q, .q, .q, .q, .q, .q, .q, .q, .q, .q, .q, .q, .q, .q, .q, .q, .q, .q, .q, .q, .q, .q, .q, .q, .q, .q, .q, .q, .q, .q, .q], []⟩
def Bk_a16_2 {ρ : Type} (fu : Nat) (c : Int × (Sl S_impl_Backend) × (Sl S_impl_Vip)) (k : Ex → St RT den → Option ρ) (w : Int) (go : (Int) → Option ρ) : Option ρ := F_spec_l5Fault_B2 fu c.1 c.2.1 c.2.2 (fun a0 => k .ret ⟨[.q, .q, (.int .i64 a0), .q, .q, .q, .q, .q, .q, .q, .q, .q, .q, .q, .q, .q, .q, .q, .q, .q, .q, .q, .q, .q, .q, .q, .q, .q, .q, .q, .q, .q, .q, .q, .q, .q, .q, .q, .q, .q, .q, .q, .q, .q, .q, .q, .q, .q, .q, .q, .q, .q, .q, .q, .q, .q, .q, .q, .q, .q, .q, .q, .q, .q, .q, .q, .q, .q, .q, .q, .q, .q, .q, .q, .q, .q, .q, .q, .q, .q, .q], []⟩) (k (.exit 2) ⟨[.q, .q, .q, .q, .q, .q, .q, .q, .q, .q, .q, .q, .q, .q, .q, .q, .q, .q, .q, .q, .q, .q, .q, .q, .q, .q, .q, .q, .q, .q, .q, .q, .q, .q, .q, .q, .q, .q, .q, .q, .q, .q, .q, .q, .q, .q, .q, .q, .q, .q, .q, .q, .q, .q, .q, .q, .q, .q, .q, .q, .q, .q, .q, .q, .q, .q, .q, .q, .q, .q, .q, .q, .q, .q, .q, .q, .q, .q, .q, .q, .q], []⟩) w go
def lp_a16 (fu : Nat) : Lp RT den (Int) := fun b s k => match b with | 0 => handle ps_a16_0 os_a16_0 conv_a16_0 (Bk_a16_0 fu) fu s k | 2 => handle ps_a16_2 os_a16_2 conv_a16_2 (Bk_a16_2 fu) fu s k | _ => none
theorem ev_a16 (fu : Nat) (c_0 : S_impl_Config) : evFun E (pc_a16 fu) msk_a16 (lp_a16 fu) out_i64 63 [(.rptr [(.int .i64 c_0.Version), (.rs c_0.Backends.z .impl_Backend c_0.Backends.n c_0.Backends.f), (.rs c_0.Vips.z .impl_Vip c_0.Vips.n c_0.Vips.f)])] = F_spec_l5Fault fu c_0 := by kernel_rfl
noncomputable def body_a16 : Code := Try.f63.body.getD .skip
noncomputable def lc_a16_0 : Code := ((loops 0 body_a16).getD 0 (0, .skip)).2
theorem round_a16_0 (fu : Nat) (it : St RT den → Option (Int)) (k : Ex → St RT den → Option (Int)) c w : evCode E (pc_a16 fu) msk_a16 (lp_a16 fu) 0 lc_a16_0 (back_a16_0 c w) (after (msk_a16 0) (msk_a16 100000) 0 it k) = Bk_a16_0 fu c k w (fun w => it (back_a16_0 c w)) := by kernel_rfl
theorem lpok_a16_0 (fu : Nat) : ∀ s k r, lp_a16 fu 0 s k = some r → ∃ fuel, iter (msk_a16 0) (msk_a16 100000) s.objs.length (evCode E (pc_a16 fu) msk_a16 (lp_a16 fu) 0 lc_a16_0) fuel s k = some r :=
  handle_ok (ps := ps_a16_0) (os := os_a16_0) (conv := conv_a16_0) (B := Bk_a16_0 fu) (fu := fu) back_a16_0 (fun raw => by kernel_rfl) 0 (fun c w => by kernel_rfl) (round_a16_0 fu)
noncomputable def lc_a16_2 : Code := ((loops 0 body_a16).getD 1 (0, .skip)).2
theorem round_a16_2 (fu : Nat) (it : St RT den → Option (Int)) (k : Ex → St RT den → Option (Int)) c w : evCode E (pc_a16 fu) msk_a16 (lp_a16 fu) 2 lc_a16_2 (back_a16_2 c w) (after (msk_a16 2) (msk_a16 100002) 0 it k) = Bk_a16_2 fu c k w (fun w => it (back_a16_2 c w)) := by kernel_rfl
theorem lpok_a16_2 (fu : Nat) : ∀ s k r, lp_a16 fu 2 s k = some r → ∃ fuel, iter (msk_a16 2) (msk_a16 100002) s.objs.length (evCode E (pc_a16 fu) msk_a16 (lp_a16 fu) 2 lc_a16_2) fuel s k = some r :=
  handle_ok (ps := ps_a16_2) (os := os_a16_2) (conv := conv_a16_2) (B := Bk_a16_2 fu) (fu := fu) back_a16_2 (fun raw => by kernel_rfl) 0 (fun c w => by kernel_rfl) (round_a16_2 fu)
theorem lpok_a16 (fu : Nat) : LpOk E (pc_a16 fu) msk_a16 (lp_a16 fu) (loops 0 body_a16) := loop_all 2 (by kernel_rfl) fun i hi => match i, hi with
  | 0, _ => by
    have h : (loops 0 body_a16).getD 0 (0, .skip) = (0, lc_a16_0) := by kernel_rfl
    rw [h]; exact lpok_a16_0 fu
  | 1, _ => by
    have h : (loops 0 body_a16).getD 1 (0, .skip) = (2, lc_a16_2) := by kernel_rfl
    rw [h]; exact lpok_a16_2 fu
  | i + 2, hi => absurd hi (by omega)
def S_a16 (fu : Nat) (xs : List (D RT den)) : Option (Out RT den) := match xs with | [.rptr (.int .i64 a0_1 :: .rs za0_2 .impl_Backend na0_2 fa0_2 :: .rs za0_3 .impl_Vip na0_3 fa0_3 :: ra0)] => some ⟨Int, F_spec_l5Fault fu (⟨a0_1, (⟨za0_2, na0_2, fa0_2⟩ : (Sl S_impl_Backend)), (⟨za0_3, na0_3, fa0_3⟩ : (Sl S_impl_Vip))⟩ : S_impl_Config), enc_i64, fun _ => true⟩ | _ => none
theorem hpc_a16 (fu : Nat) : ∀ f xs o, pcf_a16 fu f xs = some o → ∀ y, o.x = some y → Good E Try.prog f xs (o.g y) := by
  intro f xs o h
  unfold pcf_a16 at h
  split at h
  · exact good_a7 fu xs o h
  · exact good_a10 fu xs o h
  · exact good_a15 fu xs o h
  · cases h
theorem goodv_a16 (fu : Nat) (c_0 : S_impl_Config) (y : Int) (hy : F_spec_l5Fault fu c_0 = some y) : Good E Try.prog 63 [(.rptr [(.int .i64 c_0.Version), (.rs c_0.Backends.z .impl_Backend c_0.Backends.n c_0.Backends.f), (.rs c_0.Vips.z .impl_Vip c_0.Vips.n c_0.Vips.f)])] (enc_i64 y) :=
  fun_good E_ok (pc_good (pc := pc_a16 fu) (hpc_a16 fu) hpx0) (fn := Try.f63) (c := body_a16) (out := out_i64) (y := y) (by kernel_rfl) (by kernel_rfl) (by kernel_rfl) (lpok_a16 fu) (fun d hd => out_i64_enc d _ hd) ((ev_a16 fu c_0).trans hy)
theorem good_a16 (fu : Nat) : ∀ xs o, S_a16 fu xs = some o → ∀ y, o.x = some y → Good E Try.prog 63 xs (o.g y) := by
  intro xs o h y hy
  unfold S_a16 at h
  split at h
  · rename_i a0_1 za0_2 na0_2 fa0_2 za0_3 na0_3 fa0_3 ra0
    cases h
    exact (goodv_a16 fu (⟨a0_1, (⟨za0_2, na0_2, fa0_2⟩ : (Sl S_impl_Backend)), (⟨za0_3, na0_3, fa0_3⟩ : (Sl S_impl_Vip))⟩ : S_impl_Config) y hy).sub ⟨Sub.of_eq ra0 rfl, trivial⟩
  · cases h
end Go.Proofs.Ytmnbmponjhglcaa.Pd
