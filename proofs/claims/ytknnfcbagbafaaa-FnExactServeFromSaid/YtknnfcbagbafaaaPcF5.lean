/- The functions' evaluated forms, each a proved summary. Conditions: none. -/
import Derived.Test.YtknnfcbagbafaaaPcF4
namespace Go.Proofs.Ytknnfcbagbafaaa.Pc
open Go Go.RowKit Go.Proofs Vm
set_option linter.unusedVariables false
set_option linter.unusedSimpArgs false
set_option maxRecDepth 100000
/-! laws.heldBackendS -/
def F_laws_heldBackendS_B0 {ρ : Type} (fu : Nat) (a0_0 : (Sl S_impl_Backend)) (k0 : Int → Option ρ) (k1 : Int → Option ρ) (k1_1 : Int) (i5_2 : Int) (go : Int → Int → Option ρ) : Option ρ :=
  (bif (decide (i5_2 < ((a0_0.n : Nat) : Int))) then ((bif (decide (0 ≤ i5_2) && decide ((Int.toNat i5_2) < a0_0.n)) then some () else none : Option Unit).bind fun _ => (bif ((a0_0.f (Int.toNat i5_2)).Name != k1_1) then
    (k0 k1_1) else ((bif (decide (0 ≤ i5_2) && decide ((Int.toNat i5_2) < a0_0.n)) then some () else none : Option Unit).bind fun _ => (bif ((a0_0.f (Int.toNat i5_2)).Address != (IntKind.wrap .i64 (k1_1 + 1))) then
    (k0 (IntKind.wrap .i64 (k1_1 + 1))) else ((bif (decide (0 ≤ i5_2) && decide ((Int.toNat i5_2) < a0_0.n)) then some () else none : Option Unit).bind fun _ => (bif ((a0_0.f (Int.toNat i5_2)).Weight != (IntKind.wrap .i64 ((IntKind.wrap .i64 (k1_1 + 1)) + 1))) then
    (k0 (IntKind.wrap .i64 ((IntKind.wrap .i64 (k1_1 + 1)) + 1))) else ((bif (decide (0 ≤ i5_2) && decide ((Int.toNat i5_2) < a0_0.n)) then some () else none : Option Unit).bind fun _ =>
    (bif ((a0_0.f (Int.toNat i5_2)).Stage != (IntKind.wrap .i64 ((IntKind.wrap .i64 ((IntKind.wrap .i64 (k1_1 + 1)) + 1)) + 1))) then (k0 (IntKind.wrap .i64 ((IntKind.wrap .i64 ((IntKind.wrap .i64 (k1_1 + 1)) + 1)) + 1))) else
    ((bif (decide (0 ≤ i5_2) && decide ((Int.toNat i5_2) < a0_0.n)) then some () else none : Option Unit).bind fun _ => (bif (!((a0_0.f (Int.toNat i5_2)).Up == ((Int.tmod (IntKind.wrap .i64 ((IntKind.wrap .i64 ((IntKind.wrap .i64 ((IntKind.wrap .i64 (k1_1 + 1)) + 1)) + 1)) + 1)) 3) == 0))) then
    (k0 (IntKind.wrap .i64 ((IntKind.wrap .i64 ((IntKind.wrap .i64 ((IntKind.wrap .i64 (k1_1 + 1)) + 1)) + 1)) + 1))) else (go (IntKind.wrap .i64 ((IntKind.wrap .i64 ((IntKind.wrap .i64 ((IntKind.wrap .i64 ((IntKind.wrap .i64 (k1_1 + 1)) + 1)) + 1)) + 1)) + 1)) (IntKind.wrap .i64 (i5_2 + 1))))))))))))) else
    (k1 k1_1))
def F_laws_heldBackendS (fu : Nat) (a_0 : (Sl S_impl_Backend)) (k_1 : Int) : Option (Int) :=
  (L (fun w0 go0 => F_laws_heldBackendS_B0 fu a_0 (fun z299 => (some (-1))) (fun z300 => (some z300)) w0.1 w0.2 (fun q0 q1 => go0 (q0, q1))) fu ((k_1, 0) : Int × Int))
def pc_c3 (fu : Nat) : Pc RT den := ⟨pcf0, fun _ => false, fun _ => false, pcd0, pcx0⟩
def msk_c3 (b : Nat) : List Nat := match b with | 0 => [2, 3, 4, 6, 7, 8, 9, 10, 11, 12, 13, 14, 15, 16, 17, 18, 19, 20, 21, 22, 23, 24, 25, 26, 27, 28, 29, 30, 31, 32, 33, 34, 35, 36, 37, 38, 39, 40, 41, 42, 43, 44, 45, 46, 47, 48, 49, 50, 51, 52, 53, 54, 55, 56, 57, 58, 59] | 100000 => [0, 2, 3, 5, 6, 7, 8, 9, 10, 11, 12, 13, 14, 15, 16, 17, 18, 19, 20, 21, 22, 23, 24, 25, 26, 27, 28, 29, 30, 31, 32, 33, 34, 35, 36, 37, 38, 39, 40, 41, 42, 43, 44, 45, 46, 47, 48, 49, 50, 51, 52, 53, 54, 55, 56, 57, 58, 59] | _ => []
def ps_c3_0 : List (Pat RT) := [.flat (.rs .impl_Backend), .flat (.int .i64), .flat .q, .flat .q, .flat .q, .flat (.int .i64), .flat .q, .flat .q, .flat .q, .flat .q, .flat .q, .flat .q, .flat .q, .flat .q, .flat .q, .flat .q, .flat .q, .flat .q, .flat .q, .flat .q, .flat .q, .flat .q, .flat .q, .flat .q, .flat .q, .flat .q, .flat .q, .flat .q, .flat .q, .flat .q, .flat .q, .flat .q, .flat .q, .flat .q, .flat .q, .flat .q, .flat .q, .flat .q, .flat .q, .flat .q, .flat .q, .flat .q, .flat .q, .flat .q, .flat .q, .flat .q, .flat .q, .flat .q, .flat .q, .flat .q, .flat .q, .flat .q, .flat .q, .flat .q, .flat .q, .flat .q, .flat .q, .flat .q, .flat .q, .flat .q]
def os_c3_0 : List (OP RT) := []
def conv_c3_0 (r : Raw den ps_c3_0 os_c3_0) : ((Sl S_impl_Backend)) × (Int × Int) := (r.1.1, (r.1.2.1, r.1.2.2.2.2.2.1))
def back_c3_0 (c : (Sl S_impl_Backend)) (w : Int × Int) : St RT den := ⟨[(.rs c.z .impl_Backend c.n c.f), (.int .i64 w.1), .q, .q, .q, (.int .i64 w.2), .q, .q, .q, .q, .q, .q, .q, .q, .q, .q, .q, .q, .q, .q, .q, .q, .q, .q, .q, .q, .q, .q, .q, .q, .q, .q, .q, .q, .q, .q, .q, .q, .q, .q, .q, .q, .q, .q, .q, .q, .q, .q, .q, .q, .q, .q, .q, .q, .q, .q, .q, .q, .q, .q], []⟩
def Bk_c3_0 {ρ : Type} (fu : Nat) (c : (Sl S_impl_Backend)) (k : Ex → St RT den → Option ρ) (w : Int × Int) (go : (Int × Int) → Option ρ) : Option ρ := F_laws_heldBackendS_B0 fu c (fun a0 => k .ret ⟨[.q, (.int .i64 a0), .q, .q, (.int .i64 (-1)), .q, .q, .q, .q, .q, .q, .q, .q, .q, .q, .q, .q, .q, .q, .q, .q, .q, .q, .q, .q, .q, .q, .q, .q, .q, .q, .q, .q, .q, .q, .q, .q, .q, .q, .q, .q, .q, .q, .q, .q, .q, .q, .q, .q, .q, .q, .q, .q, .q, .q, .q, .q, .q, .q, .q], []⟩) (fun a0 => k (.exit 0) ⟨[.q, (.int .i64 a0), .q, .q, .q, .q, .q, .q, .q, .q, .q, .q, .q, .q, .q, .q, .q, .q, .q, .q, .q, .q, .q, .q, .q, .q, .q, .q, .q, .q, .q, .q, .q, .q, .q, .q, .q, .q, .q, .q, .q, .q, .q, .q, .q, .q, .q, .q, .q, .q, .q, .q, .q, .q, .q, .q, .q, .q, .q, .q], []⟩) w.1 w.2 (fun q0 q1 => go (q0, q1))
def lp_c3 (fu : Nat) : Lp RT den (Int) := fun b s k => match b with | 0 => handle ps_c3_0 os_c3_0 conv_c3_0 (Bk_c3_0 fu) fu s k | _ => none
theorem ev_c3 (fu : Nat) (a_0 : (Sl S_impl_Backend)) (k_1 : Int) : evFun E (pc_c3 fu) msk_c3 (lp_c3 fu) out_i64 95 [(.rs a_0.z .impl_Backend a_0.n a_0.f), (.int .i64 k_1)] = F_laws_heldBackendS fu a_0 k_1 := by kernel_rfl
noncomputable def body_c3 : Code := Try.f95.body.getD .skip
noncomputable def lc_c3_0 : Code := ((loops 0 body_c3).getD 0 (0, .skip)).2
theorem round_c3_0 (fu : Nat) (it : St RT den → Option (Int)) (k : Ex → St RT den → Option (Int)) c w : evCode E (pc_c3 fu) msk_c3 (lp_c3 fu) 0 lc_c3_0 (back_c3_0 c w) (after (msk_c3 0) (msk_c3 100000) 0 it k) = Bk_c3_0 fu c k w (fun w => it (back_c3_0 c w)) := by kernel_rfl
theorem lpok_c3_0 (fu : Nat) : ∀ s k r, lp_c3 fu 0 s k = some r → ∃ fuel, iter (msk_c3 0) (msk_c3 100000) s.objs.length (evCode E (pc_c3 fu) msk_c3 (lp_c3 fu) 0 lc_c3_0) fuel s k = some r :=
  handle_ok (ps := ps_c3_0) (os := os_c3_0) (conv := conv_c3_0) (B := Bk_c3_0 fu) (fu := fu) back_c3_0 (fun raw => by kernel_rfl) 0 (fun c w => by kernel_rfl) (round_c3_0 fu)
theorem lpok_c3 (fu : Nat) : LpOk E (pc_c3 fu) msk_c3 (lp_c3 fu) (loops 0 body_c3) := loop_all 1 (by kernel_rfl) fun i hi => match i, hi with
  | 0, _ => by
    have h : (loops 0 body_c3).getD 0 (0, .skip) = (0, lc_c3_0) := by kernel_rfl
    rw [h]; exact lpok_c3_0 fu
  | i + 1, hi => absurd hi (by omega)
def S_c3 (fu : Nat) (xs : List (D RT den)) : Option (Out RT den) := match xs with | [.rs za0_0 .impl_Backend na0_0 fa0_0, .int .i64 a1_0] => some ⟨Int, F_laws_heldBackendS fu (⟨za0_0, na0_0, fa0_0⟩ : (Sl S_impl_Backend)) a1_0, enc_i64, fun _ => true⟩ | _ => none
theorem goodv_c3 (fu : Nat) (a_0 : (Sl S_impl_Backend)) (k_1 : Int) (y : Int) (hy : F_laws_heldBackendS fu a_0 k_1 = some y) : Good E Try.prog 95 [(.rs a_0.z .impl_Backend a_0.n a_0.f), (.int .i64 k_1)] (enc_i64 y) :=
  fun_good E_ok (pc_good (pc := pc_c3 fu) hpc0 hpx0) (fn := Try.f95) (c := body_c3) (out := out_i64) (y := y) (by kernel_rfl) (by kernel_rfl) (by kernel_rfl) (lpok_c3 fu) (fun d hd => out_i64_enc d _ hd) ((ev_c3 fu a_0 k_1).trans hy)
theorem good_c3 (fu : Nat) : ∀ xs o, S_c3 fu xs = some o → ∀ y, o.x = some y → Good E Try.prog 95 xs (o.g y) := by
  intro xs o h y hy
  unfold S_c3 at h
  split at h
  · rename_i za0_0 na0_0 fa0_0 a1_0
    cases h
    exact goodv_c3 fu (⟨za0_0, na0_0, fa0_0⟩ : (Sl S_impl_Backend)) a1_0 y hy
  · cases h

/-! laws.heldInt64S -/
def F_laws_heldInt64S_B0 {ρ : Type} (fu : Nat) (a0_0 : (Sl Int)) (k0 : Int → Option ρ) (k1 : Int → Option ρ) (k1_1 : Int) (i5_2 : Int) (go : Int → Int → Option ρ) : Option ρ :=
  (bif (decide (i5_2 < ((a0_0.n : Nat) : Int))) then ((bif (decide (0 ≤ i5_2) && decide ((Int.toNat i5_2) < a0_0.n)) then some () else none : Option Unit).bind fun _ => (bif ((a0_0.f (Int.toNat i5_2)) != k1_1) then
    (k0 k1_1) else (go (IntKind.wrap .i64 (k1_1 + 1)) (IntKind.wrap .i64 (i5_2 + 1))))) else (k1 k1_1))
def F_laws_heldInt64S (fu : Nat) (a_0 : (Sl Int)) (k_1 : Int) : Option (Int) :=
  (L (fun w0 go0 => F_laws_heldInt64S_B0 fu a_0 (fun z304 => (some (-1))) (fun z305 => (some z305)) w0.1 w0.2 (fun q0 q1 => go0 (q0, q1))) fu ((k_1, 0) : Int × Int))
def pc_c4 (fu : Nat) : Pc RT den := ⟨pcf0, fun _ => false, fun _ => false, pcd0, pcx0⟩
def msk_c4 (b : Nat) : List Nat := match b with | 0 => [2, 3, 4, 6, 7, 8, 9, 10, 11, 12, 13, 14, 15, 16, 17, 18, 19, 20] | 100000 => [0, 2, 3, 5, 6, 7, 8, 9, 10, 11, 12, 13, 14, 15, 16, 17, 18, 19, 20] | _ => []
def ps_c4_0 : List (Pat RT) := [.flat (.rs .i64), .flat (.int .i64), .flat .q, .flat .q, .flat .q, .flat (.int .i64), .flat .q, .flat .q, .flat .q, .flat .q, .flat .q, .flat .q, .flat .q, .flat .q, .flat .q, .flat .q, .flat .q, .flat .q, .flat .q, .flat .q, .flat .q]
def os_c4_0 : List (OP RT) := []
def conv_c4_0 (r : Raw den ps_c4_0 os_c4_0) : ((Sl Int)) × (Int × Int) := (r.1.1, (r.1.2.1, r.1.2.2.2.2.2.1))
def back_c4_0 (c : (Sl Int)) (w : Int × Int) : St RT den := ⟨[(.rs c.z .i64 c.n c.f), (.int .i64 w.1), .q, .q, .q, (.int .i64 w.2), .q, .q, .q, .q, .q, .q, .q, .q, .q, .q, .q, .q, .q, .q, .q], []⟩
def Bk_c4_0 {ρ : Type} (fu : Nat) (c : (Sl Int)) (k : Ex → St RT den → Option ρ) (w : Int × Int) (go : (Int × Int) → Option ρ) : Option ρ := F_laws_heldInt64S_B0 fu c (fun a0 => k .ret ⟨[.q, (.int .i64 a0), .q, .q, (.int .i64 (-1)), .q, .q, .q, .q, .q, .q, .q, .q, .q, .q, .q, .q, .q, .q, .q, .q], []⟩) (fun a0 => k (.exit 0) ⟨[.q, (.int .i64 a0), .q, .q, .q, .q, .q, .q, .q, .q, .q, .q, .q, .q, .q, .q, .q, .q, .q, .q, .q], []⟩) w.1 w.2 (fun q0 q1 => go (q0, q1))
def lp_c4 (fu : Nat) : Lp RT den (Int) := fun b s k => match b with | 0 => handle ps_c4_0 os_c4_0 conv_c4_0 (Bk_c4_0 fu) fu s k | _ => none
theorem ev_c4 (fu : Nat) (a_0 : (Sl Int)) (k_1 : Int) : evFun E (pc_c4 fu) msk_c4 (lp_c4 fu) out_i64 129 [(.rs a_0.z .i64 a_0.n a_0.f), (.int .i64 k_1)] = F_laws_heldInt64S fu a_0 k_1 := by kernel_rfl
noncomputable def body_c4 : Code := Try.f129.body.getD .skip
noncomputable def lc_c4_0 : Code := ((loops 0 body_c4).getD 0 (0, .skip)).2
theorem round_c4_0 (fu : Nat) (it : St RT den → Option (Int)) (k : Ex → St RT den → Option (Int)) c w : evCode E (pc_c4 fu) msk_c4 (lp_c4 fu) 0 lc_c4_0 (back_c4_0 c w) (after (msk_c4 0) (msk_c4 100000) 0 it k) = Bk_c4_0 fu c k w (fun w => it (back_c4_0 c w)) := by kernel_rfl
theorem lpok_c4_0 (fu : Nat) : ∀ s k r, lp_c4 fu 0 s k = some r → ∃ fuel, iter (msk_c4 0) (msk_c4 100000) s.objs.length (evCode E (pc_c4 fu) msk_c4 (lp_c4 fu) 0 lc_c4_0) fuel s k = some r :=
  handle_ok (ps := ps_c4_0) (os := os_c4_0) (conv := conv_c4_0) (B := Bk_c4_0 fu) (fu := fu) back_c4_0 (fun raw => by kernel_rfl) 0 (fun c w => by kernel_rfl) (round_c4_0 fu)
theorem lpok_c4 (fu : Nat) : LpOk E (pc_c4 fu) msk_c4 (lp_c4 fu) (loops 0 body_c4) := loop_all 1 (by kernel_rfl) fun i hi => match i, hi with
  | 0, _ => by
    have h : (loops 0 body_c4).getD 0 (0, .skip) = (0, lc_c4_0) := by kernel_rfl
    rw [h]; exact lpok_c4_0 fu
  | i + 1, hi => absurd hi (by omega)
def S_c4 (fu : Nat) (xs : List (D RT den)) : Option (Out RT den) := match xs with | [.rs za0_0 .i64 na0_0 fa0_0, .int .i64 a1_0] => some ⟨Int, F_laws_heldInt64S fu (⟨za0_0, na0_0, fa0_0⟩ : (Sl Int)) a1_0, enc_i64, fun _ => true⟩ | _ => none
theorem goodv_c4 (fu : Nat) (a_0 : (Sl Int)) (k_1 : Int) (y : Int) (hy : F_laws_heldInt64S fu a_0 k_1 = some y) : Good E Try.prog 129 [(.rs a_0.z .i64 a_0.n a_0.f), (.int .i64 k_1)] (enc_i64 y) :=
  fun_good E_ok (pc_good (pc := pc_c4 fu) hpc0 hpx0) (fn := Try.f129) (c := body_c4) (out := out_i64) (y := y) (by kernel_rfl) (by kernel_rfl) (by kernel_rfl) (lpok_c4 fu) (fun d hd => out_i64_enc d _ hd) ((ev_c4 fu a_0 k_1).trans hy)
theorem good_c4 (fu : Nat) : ∀ xs o, S_c4 fu xs = some o → ∀ y, o.x = some y → Good E Try.prog 129 xs (o.g y) := by
  intro xs o h y hy
  unfold S_c4 at h
  split at h
  · rename_i za0_0 na0_0 fa0_0 a1_0
    cases h
    exact goodv_c4 fu (⟨za0_0, na0_0, fa0_0⟩ : (Sl Int)) a1_0 y hy
  · cases h

/-! laws.heldVipS -/
def F_laws_heldVipS_B0 {ρ : Type} (fu : Nat) (a0_0 : (Sl S_impl_Vip)) (k0 : Int → Option ρ) (k1 : Int → Option ρ) (k1_1 : Int) (i5_2 : Int) (go : Int → Int → Option ρ) : Option ρ :=
  (bif (decide (i5_2 < ((a0_0.n : Nat) : Int))) then ((bif (decide (0 ≤ i5_2) && decide ((Int.toNat i5_2) < a0_0.n)) then some () else none : Option Unit).bind fun _ => (bif ((a0_0.f (Int.toNat i5_2)).Address != k1_1) then
    (k0 k1_1) else ((bif (decide (0 ≤ i5_2) && decide ((Int.toNat i5_2) < a0_0.n)) then some () else none : Option Unit).bind fun _ => (bif ((a0_0.f (Int.toNat i5_2)).Port != (IntKind.wrap .i64 (k1_1 + 1))) then
    (k0 (IntKind.wrap .i64 (k1_1 + 1))) else ((bif (decide (0 ≤ i5_2) && decide ((Int.toNat i5_2) < a0_0.n)) then some () else none : Option Unit).bind fun _ => (bif ((a0_0.f (Int.toNat i5_2)).Proto != (IntKind.wrap .i64 ((IntKind.wrap .i64 (k1_1 + 1)) + 1))) then
    (k0 (IntKind.wrap .i64 ((IntKind.wrap .i64 (k1_1 + 1)) + 1))) else ((bif (decide (0 ≤ i5_2) && decide ((Int.toNat i5_2) < a0_0.n)) then some () else none : Option Unit).bind fun _ =>
    ((F_laws_heldInt64S fu (a0_0.f (Int.toNat i5_2)).Names (IntKind.wrap .i64 ((IntKind.wrap .i64 ((IntKind.wrap .i64 (k1_1 + 1)) + 1)) + 1))).bind fun y301 => (bif (decide (y301 < 0)) then
    (k0 y301) else (go y301 (IntKind.wrap .i64 (i5_2 + 1)))))))))))) else (k1 k1_1))
def F_laws_heldVipS (fu : Nat) (a_0 : (Sl S_impl_Vip)) (k_1 : Int) : Option (Int) :=
  (L (fun w0 go0 => F_laws_heldVipS_B0 fu a_0 (fun z302 => (some (-1))) (fun z303 => (some z303)) w0.1 w0.2 (fun q0 q1 => go0 (q0, q1))) fu ((k_1, 0) : Int × Int))
def pcf_c5 (fu : Nat) (f : Nat) (xs : List (D RT den)) : Option (Out RT den) := match f with | 129 => S_c4 fu xs | _ => none
def pc_c5 (fu : Nat) : Pc RT den := ⟨pcf_c5 fu, fun _ => false, fun _ => false, pcd0, pcx0⟩
def msk_c5 (b : Nat) : List Nat := match b with | 0 => [2, 3, 4, 6, 7, 8, 9, 10, 11, 12, 13, 14, 15, 16, 17, 18, 19, 20, 21, 22, 23, 24, 25, 26, 27, 28, 29, 30, 31, 32, 33, 34, 35, 36, 37, 38, 39, 40, 41, 42, 43, 44, 45, 46, 47, 48] | 100000 => [0, 2, 3, 5, 6, 7, 8, 9, 10, 11, 12, 13, 14, 15, 16, 17, 18, 19, 20, 21, 22, 23, 24, 25, 26, 27, 28, 29, 30, 31, 32, 33, 34, 35, 36, 37, 38, 39, 40, 41, 42, 43, 44, 45, 46, 47, 48] | _ => []
def ps_c5_0 : List (Pat RT) := [.flat (.rs .impl_Vip), .flat (.int .i64), .flat .q, .flat .q, .flat .q, .flat (.int .i64), .flat .q, .flat .q, .flat .q, .flat .q, .flat .q, .flat .q, .flat .q, .flat .q, .flat .q, .flat .q, .flat .q, .flat .q, .flat .q, .flat .q, .flat .q, .flat .q, .flat .q, .flat .q, .flat .q, .flat .q, .flat .q, .flat .q, .flat .q, .flat .q, .flat .q, .flat .q, .flat .q, .flat .q, .flat .q, .flat .q, .flat .q, .flat .q, .flat .q, .flat .q, .flat .q, .flat .q, .flat .q, .flat .q, .flat .q, .flat .q, .flat .q, .flat .q, .flat .q]
def os_c5_0 : List (OP RT) := []
def conv_c5_0 (r : Raw den ps_c5_0 os_c5_0) : ((Sl S_impl_Vip)) × (Int × Int) := (r.1.1, (r.1.2.1, r.1.2.2.2.2.2.1))
def back_c5_0 (c : (Sl S_impl_Vip)) (w : Int × Int) : St RT den := ⟨[(.rs c.z .impl_Vip c.n c.f), (.int .i64 w.1), .q, .q, .q, (.int .i64 w.2), .q, .q, .q, .q, .q, .q, .q, .q, .q, .q, .q, .q, .q, .q, .q, .q, .q, .q, .q, .q, .q, .q, .q, .q, .q, .q, .q, .q, .q, .q, .q, .q, .q, .q, .q, .q, .q, .q, .q, .q, .q, .q, .q], []⟩
def Bk_c5_0 {ρ : Type} (fu : Nat) (c : (Sl S_impl_Vip)) (k : Ex → St RT den → Option ρ) (w : Int × Int) (go : (Int × Int) → Option ρ) : Option ρ := F_laws_heldVipS_B0 fu c (fun a0 => k .ret ⟨[.q, (.int .i64 a0), .q, .q, (.int .i64 (-1)), .q, .q, .q, .q, .q, .q, .q, .q, .q, .q, .q, .q, .q, .q, .q, .q, .q, .q, .q, .q, .q, .q, .q, .q, .q, .q, .q, .q, .q, .q, .q, .q, .q, .q, .q, .q, .q, .q, .q, .q, .q, .q, .q, .q], []⟩) (fun a0 => k (.exit 0) ⟨[.q, (.int .i64 a0), .q, .q, .q, .q, .q, .q, .q, .q, .q, .q, .q, .q, .q, .q, .q, .q, .q, .q, .q, .q, .q, .q, .q, .q, .q, .q, .q, .q, .q, .q, .q, .q, .q, .q, .q, .q, .q, .q, .q, .q, .q, .q, .q, .q, .q, .q, .q], []⟩) w.1 w.2 (fun q0 q1 => go (q0, q1))
def lp_c5 (fu : Nat) : Lp RT den (Int) := fun b s k => match b with | 0 => handle ps_c5_0 os_c5_0 conv_c5_0 (Bk_c5_0 fu) fu s k | _ => none
theorem ev_c5 (fu : Nat) (a_0 : (Sl S_impl_Vip)) (k_1 : Int) : evFun E (pc_c5 fu) msk_c5 (lp_c5 fu) out_i64 96 [(.rs a_0.z .impl_Vip a_0.n a_0.f), (.int .i64 k_1)] = F_laws_heldVipS fu a_0 k_1 := by kernel_rfl
noncomputable def body_c5 : Code := Try.f96.body.getD .skip
noncomputable def lc_c5_0 : Code := ((loops 0 body_c5).getD 0 (0, .skip)).2
theorem round_c5_0 (fu : Nat) (it : St RT den → Option (Int)) (k : Ex → St RT den → Option (Int)) c w : evCode E (pc_c5 fu) msk_c5 (lp_c5 fu) 0 lc_c5_0 (back_c5_0 c w) (after (msk_c5 0) (msk_c5 100000) 0 it k) = Bk_c5_0 fu c k w (fun w => it (back_c5_0 c w)) := by kernel_rfl
theorem lpok_c5_0 (fu : Nat) : ∀ s k r, lp_c5 fu 0 s k = some r → ∃ fuel, iter (msk_c5 0) (msk_c5 100000) s.objs.length (evCode E (pc_c5 fu) msk_c5 (lp_c5 fu) 0 lc_c5_0) fuel s k = some r :=
  handle_ok (ps := ps_c5_0) (os := os_c5_0) (conv := conv_c5_0) (B := Bk_c5_0 fu) (fu := fu) back_c5_0 (fun raw => by kernel_rfl) 0 (fun c w => by kernel_rfl) (round_c5_0 fu)
theorem lpok_c5 (fu : Nat) : LpOk E (pc_c5 fu) msk_c5 (lp_c5 fu) (loops 0 body_c5) := loop_all 1 (by kernel_rfl) fun i hi => match i, hi with
  | 0, _ => by
    have h : (loops 0 body_c5).getD 0 (0, .skip) = (0, lc_c5_0) := by kernel_rfl
    rw [h]; exact lpok_c5_0 fu
  | i + 1, hi => absurd hi (by omega)
def S_c5 (fu : Nat) (xs : List (D RT den)) : Option (Out RT den) := match xs with | [.rs za0_0 .impl_Vip na0_0 fa0_0, .int .i64 a1_0] => some ⟨Int, F_laws_heldVipS fu (⟨za0_0, na0_0, fa0_0⟩ : (Sl S_impl_Vip)) a1_0, enc_i64, fun _ => true⟩ | _ => none
theorem hpc_c5 (fu : Nat) : ∀ f xs o, pcf_c5 fu f xs = some o → ∀ y, o.x = some y → Good E Try.prog f xs (o.g y) := by
  intro f xs o h
  unfold pcf_c5 at h
  split at h
  · exact good_c4 fu xs o h
  · cases h
theorem goodv_c5 (fu : Nat) (a_0 : (Sl S_impl_Vip)) (k_1 : Int) (y : Int) (hy : F_laws_heldVipS fu a_0 k_1 = some y) : Good E Try.prog 96 [(.rs a_0.z .impl_Vip a_0.n a_0.f), (.int .i64 k_1)] (enc_i64 y) :=
  fun_good E_ok (pc_good (pc := pc_c5 fu) (hpc_c5 fu) hpx0) (fn := Try.f96) (c := body_c5) (out := out_i64) (y := y) (by kernel_rfl) (by kernel_rfl) (by kernel_rfl) (lpok_c5 fu) (fun d hd => out_i64_enc d _ hd) ((ev_c5 fu a_0 k_1).trans hy)
theorem good_c5 (fu : Nat) : ∀ xs o, S_c5 fu xs = some o → ∀ y, o.x = some y → Good E Try.prog 96 xs (o.g y) := by
  intro xs o h y hy
  unfold S_c5 at h
  split at h
  · rename_i za0_0 na0_0 fa0_0 a1_0
    cases h
    exact goodv_c5 fu (⟨za0_0, na0_0, fa0_0⟩ : (Sl S_impl_Vip)) a1_0 y hy
  · cases h

/-! laws.heldConfig -/
def F_laws_heldConfig (fu : Nat) (a_0 : S_impl_Config) (k_1 : Int) : Option (Int) :=
  ((F_laws_heldBackendS fu a_0.Backends k_1).bind fun y297 => (bif (decide (y297 < 0)) then (some (-1)) else ((F_laws_heldVipS fu a_0.Vips y297).bind fun y298 => (bif (decide (y298 < 0)) then
    (some (-1)) else (some y298)))))
def pcf_c6 (fu : Nat) (f : Nat) (xs : List (D RT den)) : Option (Out RT den) := match f with | 95 => S_c3 fu xs | 96 => S_c5 fu xs | _ => none
def pc_c6 (fu : Nat) : Pc RT den := ⟨pcf_c6 fu, fun _ => false, fun _ => false, pcd0, pcx0⟩
def msk_c6 (b : Nat) : List Nat := []
def lp_c6 (fu : Nat) : Lp RT den (Int) := fun b s k => none
theorem ev_c6 (fu : Nat) (a_0 : S_impl_Config) (k_1 : Int) : evFun E (pc_c6 fu) msk_c6 (lp_c6 fu) out_i64 48 [(.agg [(.int .i64 a_0.Version), (.rs a_0.Backends.z .impl_Backend a_0.Backends.n a_0.Backends.f), (.rs a_0.Vips.z .impl_Vip a_0.Vips.n a_0.Vips.f)]), (.int .i64 k_1)] = F_laws_heldConfig fu a_0 k_1 := by kernel_rfl
noncomputable def body_c6 : Code := Try.f48.body.getD .skip
theorem lpok_c6 (fu : Nat) : LpOk E (pc_c6 fu) msk_c6 (lp_c6 fu) (loops 0 body_c6) := by
  have h : loops 0 body_c6 = [] := by kernel_rfl
  rw [h]; intro p hp; cases hp
def S_c6 (fu : Nat) (xs : List (D RT den)) : Option (Out RT den) := match xs with | [.agg [.int .i64 a0_1, .rs za0_2 .impl_Backend na0_2 fa0_2, .rs za0_3 .impl_Vip na0_3 fa0_3], .int .i64 a1_0] => some ⟨Int, F_laws_heldConfig fu (⟨a0_1, (⟨za0_2, na0_2, fa0_2⟩ : (Sl S_impl_Backend)), (⟨za0_3, na0_3, fa0_3⟩ : (Sl S_impl_Vip))⟩ : S_impl_Config) a1_0, enc_i64, fun _ => true⟩ | _ => none
theorem hpc_c6 (fu : Nat) : ∀ f xs o, pcf_c6 fu f xs = some o → ∀ y, o.x = some y → Good E Try.prog f xs (o.g y) := by
  intro f xs o h
  unfold pcf_c6 at h
  split at h
  · exact good_c3 fu xs o h
  · exact good_c5 fu xs o h
  · cases h
theorem goodv_c6 (fu : Nat) (a_0 : S_impl_Config) (k_1 : Int) (y : Int) (hy : F_laws_heldConfig fu a_0 k_1 = some y) : Good E Try.prog 48 [(.agg [(.int .i64 a_0.Version), (.rs a_0.Backends.z .impl_Backend a_0.Backends.n a_0.Backends.f), (.rs a_0.Vips.z .impl_Vip a_0.Vips.n a_0.Vips.f)]), (.int .i64 k_1)] (enc_i64 y) :=
  fun_good E_ok (pc_good (pc := pc_c6 fu) (hpc_c6 fu) hpx0) (fn := Try.f48) (c := body_c6) (out := out_i64) (y := y) (by kernel_rfl) (by kernel_rfl) (by kernel_rfl) (lpok_c6 fu) (fun d hd => out_i64_enc d _ hd) ((ev_c6 fu a_0 k_1).trans hy)
theorem good_c6 (fu : Nat) : ∀ xs o, S_c6 fu xs = some o → ∀ y, o.x = some y → Good E Try.prog 48 xs (o.g y) := by
  intro xs o h y hy
  unfold S_c6 at h
  split at h
  · rename_i a0_1 za0_2 na0_2 fa0_2 za0_3 na0_3 fa0_3 a1_0
    cases h
    exact goodv_c6 fu (⟨a0_1, (⟨za0_2, na0_2, fa0_2⟩ : (Sl S_impl_Backend)), (⟨za0_3, na0_3, fa0_3⟩ : (Sl S_impl_Vip))⟩ : S_impl_Config) a1_0 y hy
  · cases h

/-! laws.heldCmdS -/
def F_laws_heldCmdS_B0 {ρ : Type} (fu : Nat) (a0_0 : (Sl S_impl_Cmd)) (k0 : Int → Option ρ) (k1 : Int → Option ρ) (k1_1 : Int) (i5_2 : Int) (go : Int → Int → Option ρ) : Option ρ :=
  (bif (decide (i5_2 < ((a0_0.n : Nat) : Int))) then ((bif (decide (0 ≤ i5_2) && decide ((Int.toNat i5_2) < a0_0.n)) then some () else none : Option Unit).bind fun _ => (bif ((a0_0.f (Int.toNat i5_2)).Kind != k1_1) then
    (k0 k1_1) else ((bif (decide (0 ≤ i5_2) && decide ((Int.toNat i5_2) < a0_0.n)) then some () else none : Option Unit).bind fun _ => (bif ((a0_0.f (Int.toNat i5_2)).Expect != (IntKind.wrap .i64 (k1_1 + 1))) then
    (k0 (IntKind.wrap .i64 (k1_1 + 1))) else ((bif (decide (0 ≤ i5_2) && decide ((Int.toNat i5_2) < a0_0.n)) then some () else none : Option Unit).bind fun _ => (bif ((a0_0.f (Int.toNat i5_2)).Name != (IntKind.wrap .i64 ((IntKind.wrap .i64 (k1_1 + 1)) + 1))) then
    (k0 (IntKind.wrap .i64 ((IntKind.wrap .i64 (k1_1 + 1)) + 1))) else ((bif (decide (0 ≤ i5_2) && decide ((Int.toNat i5_2) < a0_0.n)) then some () else none : Option Unit).bind fun _ =>
    (bif ((a0_0.f (Int.toNat i5_2)).Addr != (IntKind.wrap .i64 ((IntKind.wrap .i64 ((IntKind.wrap .i64 (k1_1 + 1)) + 1)) + 1))) then (k0 (IntKind.wrap .i64 ((IntKind.wrap .i64 ((IntKind.wrap .i64 (k1_1 + 1)) + 1)) + 1))) else
    ((bif (decide (0 ≤ i5_2) && decide ((Int.toNat i5_2) < a0_0.n)) then some () else none : Option Unit).bind fun _ => (bif ((a0_0.f (Int.toNat i5_2)).Number != (IntKind.wrap .i64 ((IntKind.wrap .i64 ((IntKind.wrap .i64 ((IntKind.wrap .i64 (k1_1 + 1)) + 1)) + 1)) + 1))) then
    (k0 (IntKind.wrap .i64 ((IntKind.wrap .i64 ((IntKind.wrap .i64 ((IntKind.wrap .i64 (k1_1 + 1)) + 1)) + 1)) + 1))) else ((bif (decide (0 ≤ i5_2) && decide ((Int.toNat i5_2) < a0_0.n)) then
    some () else none : Option Unit).bind fun _ => (bif ((a0_0.f (Int.toNat i5_2)).Proto != (IntKind.wrap .i64 ((IntKind.wrap .i64 ((IntKind.wrap .i64 ((IntKind.wrap .i64 ((IntKind.wrap .i64 (k1_1 + 1)) + 1)) + 1)) + 1)) + 1))) then
    (k0 (IntKind.wrap .i64 ((IntKind.wrap .i64 ((IntKind.wrap .i64 ((IntKind.wrap .i64 ((IntKind.wrap .i64 (k1_1 + 1)) + 1)) + 1)) + 1)) + 1))) else (go (IntKind.wrap .i64 ((IntKind.wrap .i64 ((IntKind.wrap .i64 ((IntKind.wrap .i64 ((IntKind.wrap .i64 ((IntKind.wrap .i64 (k1_1 + 1)) + 1)) + 1)) + 1)) + 1)) + 1)) (IntKind.wrap .i64 (i5_2 + 1))))))))))))))) else
    (k1 k1_1))
def F_laws_heldCmdS (fu : Nat) (a_0 : (Sl S_impl_Cmd)) (k_1 : Int) : Option (Int) :=
  (L (fun w0 go0 => F_laws_heldCmdS_B0 fu a_0 (fun z306 => (some (-1))) (fun z307 => (some z307)) w0.1 w0.2 (fun q0 q1 => go0 (q0, q1))) fu ((k_1, 0) : Int × Int))
def pc_c7 (fu : Nat) : Pc RT den := ⟨pcf0, fun _ => false, fun _ => false, pcd0, pcx0⟩
def msk_c7 (b : Nat) : List Nat := match b with | 0 => [2, 3, 4, 6, 7, 8, 9, 10, 11, 12, 13, 14, 15, 16, 17, 18, 19, 20, 21, 22, 23, 24, 25, 26, 27, 28, 29, 30, 31, 32, 33, 34, 35, 36, 37, 38, 39, 40, 41, 42, 43, 44, 45, 46, 47, 48, 49, 50, 51, 52, 53, 54, 55, 56, 57, 58, 59, 60, 61, 62, 63, 64, 65, 66] | 100000 => [0, 2, 3, 5, 6, 7, 8, 9, 10, 11, 12, 13, 14, 15, 16, 17, 18, 19, 20, 21, 22, 23, 24, 25, 26, 27, 28, 29, 30, 31, 32, 33, 34, 35, 36, 37, 38, 39, 40, 41, 42, 43, 44, 45, 46, 47, 48, 49, 50, 51, 52, 53, 54, 55, 56, 57, 58, 59, 60, 61, 62, 63, 64, 65, 66] | _ => []
def ps_c7_0 : List (Pat RT) := [.flat (.rs .impl_Cmd), .flat (.int .i64), .flat .q, .flat .q, .flat .q, .flat (.int .i64), .flat .q, .flat .q, .flat .q, .flat .q, .flat .q, .flat .q, .flat .q, .flat .q, .flat .q, .flat .q, .flat .q, .flat .q, .flat .q, .flat .q, .flat .q, .flat .q, .flat .q, .flat .q, .flat .q, .flat .q, .flat .q, .flat .q, .flat .q, .flat .q, .flat .q, .flat .q, .flat .q, .flat .q, .flat .q, .flat .q, .flat .q, .flat .q, .flat .q, .flat .q, .flat .q, .flat .q, .flat .q, .flat .q, .flat .q, .flat .q, .flat .q, .flat .q, .flat .q, .flat .q, .flat .q, .flat .q, .flat .q, .flat .q, .flat .q, .flat .q, .flat .q, .flat .q, .flat .q, .flat .q, .flat .q, .flat .q, .flat .q, .flat .q, .flat .q, .flat .q, .flat .q]
def os_c7_0 : List (OP RT) := []
def conv_c7_0 (r : Raw den ps_c7_0 os_c7_0) : ((Sl S_impl_Cmd)) × (Int × Int) := (r.1.1, (r.1.2.1, r.1.2.2.2.2.2.1))
def back_c7_0 (c : (Sl S_impl_Cmd)) (w : Int × Int) : St RT den := ⟨[(.rs c.z .impl_Cmd c.n c.f), (.int .i64 w.1), .q, .q, .q, (.int .i64 w.2), .q, .q, .q, .q, .q, .q, .q, .q, .q, .q, .q, .q, .q, .q, .q, .q, .q, .q, .q, .q, .q, .q, .q, .q, .q, .q, .q, .q, .q, .q, .q, .q, .q, .q, .q, .q, .q, .q, .q, .q, .q, .q, .q, .q, .q, .q, .q, .q, .q, .q, .q, .q, .q, .q, .q, .q, .q, .q, .q, .q, .q], []⟩
def Bk_c7_0 {ρ : Type} (fu : Nat) (c : (Sl S_impl_Cmd)) (k : Ex → St RT den → Option ρ) (w : Int × Int) (go : (Int × Int) → Option ρ) : Option ρ := F_laws_heldCmdS_B0 fu c (fun a0 => k .ret ⟨[.q, (.int .i64 a0), .q, .q, (.int .i64 (-1)), .q, .q, .q, .q, .q, .q, .q, .q, .q, .q, .q, .q, .q, .q, .q, .q, .q, .q, .q, .q, .q, .q, .q, .q, .q, .q, .q, .q, .q, .q, .q, .q, .q, .q, .q, .q, .q, .q, .q, .q, .q, .q, .q, .q, .q, .q, .q, .q, .q, .q, .q, .q, .q, .q, .q, .q, .q, .q, .q, .q, .q, .q], []⟩) (fun a0 => k (.exit 0) ⟨[.q, (.int .i64 a0), .q, .q, .q, .q, .q, .q, .q, .q, .q, .q, .q, .q, .q, .q, .q, .q, .q, .q, .q, .q, .q, .q, .q, .q, .q, .q, .q, .q, .q, .q, .q, .q, .q, .q, .q, .q, .q, .q, .q, .q, .q, .q, .q, .q, .q, .q, .q, .q, .q, .q, .q, .q, .q, .q, .q, .q, .q, .q, .q, .q, .q, .q, .q, .q, .q], []⟩) w.1 w.2 (fun q0 q1 => go (q0, q1))
def lp_c7 (fu : Nat) : Lp RT den (Int) := fun b s k => match b with | 0 => handle ps_c7_0 os_c7_0 conv_c7_0 (Bk_c7_0 fu) fu s k | _ => none
theorem ev_c7 (fu : Nat) (a_0 : (Sl S_impl_Cmd)) (k_1 : Int) : evFun E (pc_c7 fu) msk_c7 (lp_c7 fu) out_i64 118 [(.rs a_0.z .impl_Cmd a_0.n a_0.f), (.int .i64 k_1)] = F_laws_heldCmdS fu a_0 k_1 := by kernel_rfl
noncomputable def body_c7 : Code := Try.f118.body.getD .skip
noncomputable def lc_c7_0 : Code := ((loops 0 body_c7).getD 0 (0, .skip)).2
theorem round_c7_0 (fu : Nat) (it : St RT den → Option (Int)) (k : Ex → St RT den → Option (Int)) c w : evCode E (pc_c7 fu) msk_c7 (lp_c7 fu) 0 lc_c7_0 (back_c7_0 c w) (after (msk_c7 0) (msk_c7 100000) 0 it k) = Bk_c7_0 fu c k w (fun w => it (back_c7_0 c w)) := by kernel_rfl
theorem lpok_c7_0 (fu : Nat) : ∀ s k r, lp_c7 fu 0 s k = some r → ∃ fuel, iter (msk_c7 0) (msk_c7 100000) s.objs.length (evCode E (pc_c7 fu) msk_c7 (lp_c7 fu) 0 lc_c7_0) fuel s k = some r :=
  handle_ok (ps := ps_c7_0) (os := os_c7_0) (conv := conv_c7_0) (B := Bk_c7_0 fu) (fu := fu) back_c7_0 (fun raw => by kernel_rfl) 0 (fun c w => by kernel_rfl) (round_c7_0 fu)
theorem lpok_c7 (fu : Nat) : LpOk E (pc_c7 fu) msk_c7 (lp_c7 fu) (loops 0 body_c7) := loop_all 1 (by kernel_rfl) fun i hi => match i, hi with
  | 0, _ => by
    have h : (loops 0 body_c7).getD 0 (0, .skip) = (0, lc_c7_0) := by kernel_rfl
    rw [h]; exact lpok_c7_0 fu
  | i + 1, hi => absurd hi (by omega)
def S_c7 (fu : Nat) (xs : List (D RT den)) : Option (Out RT den) := match xs with | [.rs za0_0 .impl_Cmd na0_0 fa0_0, .int .i64 a1_0] => some ⟨Int, F_laws_heldCmdS fu (⟨za0_0, na0_0, fa0_0⟩ : (Sl S_impl_Cmd)) a1_0, enc_i64, fun _ => true⟩ | _ => none
theorem goodv_c7 (fu : Nat) (a_0 : (Sl S_impl_Cmd)) (k_1 : Int) (y : Int) (hy : F_laws_heldCmdS fu a_0 k_1 = some y) : Good E Try.prog 118 [(.rs a_0.z .impl_Cmd a_0.n a_0.f), (.int .i64 k_1)] (enc_i64 y) :=
  fun_good E_ok (pc_good (pc := pc_c7 fu) hpc0 hpx0) (fn := Try.f118) (c := body_c7) (out := out_i64) (y := y) (by kernel_rfl) (by kernel_rfl) (by kernel_rfl) (lpok_c7 fu) (fun d hd => out_i64_enc d _ hd) ((ev_c7 fu a_0 k_1).trans hy)
theorem good_c7 (fu : Nat) : ∀ xs o, S_c7 fu xs = some o → ∀ y, o.x = some y → Good E Try.prog 118 xs (o.g y) := by
  intro xs o h y hy
  unfold S_c7 at h
  split at h
  · rename_i za0_0 na0_0 fa0_0 a1_0
    cases h
    exact goodv_c7 fu (⟨za0_0, na0_0, fa0_0⟩ : (Sl S_impl_Cmd)) a1_0 y hy
  · cases h

/-! laws.heldUpdate -/
def F_laws_heldUpdate (fu : Nat) (a_0 : S_impl_Update) (k_1 : Int) : Option (Int) :=
  ((F_laws_heldConfig fu a_0.Config k_1).bind fun y295 => (bif (decide (y295 < 0)) then (some (-1)) else ((F_laws_heldCmdS fu a_0.Cmds y295).bind fun y296 => (bif (decide (y296 < 0)) then
    (some (-1)) else (some y296)))))
def pcf_c8 (fu : Nat) (f : Nat) (xs : List (D RT den)) : Option (Out RT den) := match f with | 48 => S_c6 fu xs | 118 => S_c7 fu xs | _ => none
def pc_c8 (fu : Nat) : Pc RT den := ⟨pcf_c8 fu, fun _ => false, fun _ => false, pcd0, pcx0⟩
def msk_c8 (b : Nat) : List Nat := []
def lp_c8 (fu : Nat) : Lp RT den (Int) := fun b s k => none
theorem ev_c8 (fu : Nat) (a_0 : S_impl_Update) (k_1 : Int) : evFun E (pc_c8 fu) msk_c8 (lp_c8 fu) out_i64 79 [(.agg [(.int .i64 a_0.From), (.int .i64 a_0.To), (.bool a_0.Full), (.int .i64 a_0.Config.Version), (.rs a_0.Config.Backends.z .impl_Backend a_0.Config.Backends.n a_0.Config.Backends.f), (.rs a_0.Config.Vips.z .impl_Vip a_0.Config.Vips.n a_0.Config.Vips.f), (.rs a_0.Cmds.z .impl_Cmd a_0.Cmds.n a_0.Cmds.f)]), (.int .i64 k_1)] = F_laws_heldUpdate fu a_0 k_1 := by kernel_rfl
noncomputable def body_c8 : Code := Try.f79.body.getD .skip
theorem lpok_c8 (fu : Nat) : LpOk E (pc_c8 fu) msk_c8 (lp_c8 fu) (loops 0 body_c8) := by
  have h : loops 0 body_c8 = [] := by kernel_rfl
  rw [h]; intro p hp; cases hp
def S_c8 (fu : Nat) (xs : List (D RT den)) : Option (Out RT den) := match xs with | [.agg [.int .i64 a0_1, .int .i64 a0_2, .bool a0_3, .int .i64 a0_5, .rs za0_6 .impl_Backend na0_6 fa0_6, .rs za0_7 .impl_Vip na0_7 fa0_7, .rs za0_8 .impl_Cmd na0_8 fa0_8], .int .i64 a1_0] => some ⟨Int, F_laws_heldUpdate fu (⟨a0_1, a0_2, a0_3, (⟨a0_5, (⟨za0_6, na0_6, fa0_6⟩ : (Sl S_impl_Backend)), (⟨za0_7, na0_7, fa0_7⟩ : (Sl S_impl_Vip))⟩ : S_impl_Config), (⟨za0_8, na0_8, fa0_8⟩ : (Sl S_impl_Cmd))⟩ : S_impl_Update) a1_0, enc_i64, fun _ => true⟩ | _ => none
theorem hpc_c8 (fu : Nat) : ∀ f xs o, pcf_c8 fu f xs = some o → ∀ y, o.x = some y → Good E Try.prog f xs (o.g y) := by
  intro f xs o h
  unfold pcf_c8 at h
  split at h
  · exact good_c6 fu xs o h
  · exact good_c7 fu xs o h
  · cases h
theorem goodv_c8 (fu : Nat) (a_0 : S_impl_Update) (k_1 : Int) (y : Int) (hy : F_laws_heldUpdate fu a_0 k_1 = some y) : Good E Try.prog 79 [(.agg [(.int .i64 a_0.From), (.int .i64 a_0.To), (.bool a_0.Full), (.int .i64 a_0.Config.Version), (.rs a_0.Config.Backends.z .impl_Backend a_0.Config.Backends.n a_0.Config.Backends.f), (.rs a_0.Config.Vips.z .impl_Vip a_0.Config.Vips.n a_0.Config.Vips.f), (.rs a_0.Cmds.z .impl_Cmd a_0.Cmds.n a_0.Cmds.f)]), (.int .i64 k_1)] (enc_i64 y) :=
  fun_good E_ok (pc_good (pc := pc_c8 fu) (hpc_c8 fu) hpx0) (fn := Try.f79) (c := body_c8) (out := out_i64) (y := y) (by kernel_rfl) (by kernel_rfl) (by kernel_rfl) (lpok_c8 fu) (fun d hd => out_i64_enc d _ hd) ((ev_c8 fu a_0 k_1).trans hy)
theorem good_c8 (fu : Nat) : ∀ xs o, S_c8 fu xs = some o → ∀ y, o.x = some y → Good E Try.prog 79 xs (o.g y) := by
  intro xs o h y hy
  unfold S_c8 at h
  split at h
  · rename_i a0_1 a0_2 a0_3 a0_5 za0_6 na0_6 fa0_6 za0_7 na0_7 fa0_7 za0_8 na0_8 fa0_8 a1_0
    cases h
    exact goodv_c8 fu (⟨a0_1, a0_2, a0_3, (⟨a0_5, (⟨za0_6, na0_6, fa0_6⟩ : (Sl S_impl_Backend)), (⟨za0_7, na0_7, fa0_7⟩ : (Sl S_impl_Vip))⟩ : S_impl_Config), (⟨za0_8, na0_8, fa0_8⟩ : (Sl S_impl_Cmd))⟩ : S_impl_Update) a1_0 y hy
  · cases h

/-! laws.heldUpdateResult -/
def F_laws_heldUpdateResult (fu : Nat) (a_0 : S_impl_UpdateResult) (k_1 : Int) : Option (Int) :=
  ((F_laws_heldUpdate fu a_0.Update k_1).bind fun y294 => (bif (decide (y294 < 0)) then (some (-1)) else (some y294)))
def pcf_c9 (fu : Nat) (f : Nat) (xs : List (D RT den)) : Option (Out RT den) := match f with | 79 => S_c8 fu xs | _ => none
def pc_c9 (fu : Nat) : Pc RT den := ⟨pcf_c9 fu, fun _ => false, fun _ => false, pcd0, pcx0⟩
def msk_c9 (b : Nat) : List Nat := []
def lp_c9 (fu : Nat) : Lp RT den (Int) := fun b s k => none
theorem ev_c9 (fu : Nat) (a_0 : S_impl_UpdateResult) (k_1 : Int) : evFun E (pc_c9 fu) msk_c9 (lp_c9 fu) out_i64 38 [(.agg [(.int .i64 a_0.Code), (.int .i64 a_0.Update.From), (.int .i64 a_0.Update.To), (.bool a_0.Update.Full), (.int .i64 a_0.Update.Config.Version), (.rs a_0.Update.Config.Backends.z .impl_Backend a_0.Update.Config.Backends.n a_0.Update.Config.Backends.f), (.rs a_0.Update.Config.Vips.z .impl_Vip a_0.Update.Config.Vips.n a_0.Update.Config.Vips.f), (.rs a_0.Update.Cmds.z .impl_Cmd a_0.Update.Cmds.n a_0.Update.Cmds.f)]), (.int .i64 k_1)] = F_laws_heldUpdateResult fu a_0 k_1 := by kernel_rfl
noncomputable def body_c9 : Code := Try.f38.body.getD .skip
theorem lpok_c9 (fu : Nat) : LpOk E (pc_c9 fu) msk_c9 (lp_c9 fu) (loops 0 body_c9) := by
  have h : loops 0 body_c9 = [] := by kernel_rfl
  rw [h]; intro p hp; cases hp
def S_c9 (fu : Nat) (xs : List (D RT den)) : Option (Out RT den) := match xs with | [.agg [.int .i64 a0_1, .int .i64 a0_3, .int .i64 a0_4, .bool a0_5, .int .i64 a0_7, .rs za0_8 .impl_Backend na0_8 fa0_8, .rs za0_9 .impl_Vip na0_9 fa0_9, .rs za0_10 .impl_Cmd na0_10 fa0_10], .int .i64 a1_0] => some ⟨Int, F_laws_heldUpdateResult fu (⟨a0_1, (⟨a0_3, a0_4, a0_5, (⟨a0_7, (⟨za0_8, na0_8, fa0_8⟩ : (Sl S_impl_Backend)), (⟨za0_9, na0_9, fa0_9⟩ : (Sl S_impl_Vip))⟩ : S_impl_Config), (⟨za0_10, na0_10, fa0_10⟩ : (Sl S_impl_Cmd))⟩ : S_impl_Update)⟩ : S_impl_UpdateResult) a1_0, enc_i64, fun _ => true⟩ | _ => none
theorem hpc_c9 (fu : Nat) : ∀ f xs o, pcf_c9 fu f xs = some o → ∀ y, o.x = some y → Good E Try.prog f xs (o.g y) := by
  intro f xs o h
  unfold pcf_c9 at h
  split at h
  · exact good_c8 fu xs o h
  · cases h
theorem goodv_c9 (fu : Nat) (a_0 : S_impl_UpdateResult) (k_1 : Int) (y : Int) (hy : F_laws_heldUpdateResult fu a_0 k_1 = some y) : Good E Try.prog 38 [(.agg [(.int .i64 a_0.Code), (.int .i64 a_0.Update.From), (.int .i64 a_0.Update.To), (.bool a_0.Update.Full), (.int .i64 a_0.Update.Config.Version), (.rs a_0.Update.Config.Backends.z .impl_Backend a_0.Update.Config.Backends.n a_0.Update.Config.Backends.f), (.rs a_0.Update.Config.Vips.z .impl_Vip a_0.Update.Config.Vips.n a_0.Update.Config.Vips.f), (.rs a_0.Update.Cmds.z .impl_Cmd a_0.Update.Cmds.n a_0.Update.Cmds.f)]), (.int .i64 k_1)] (enc_i64 y) :=
  fun_good E_ok (pc_good (pc := pc_c9 fu) (hpc_c9 fu) hpx0) (fn := Try.f38) (c := body_c9) (out := out_i64) (y := y) (by kernel_rfl) (by kernel_rfl) (by kernel_rfl) (lpok_c9 fu) (fun d hd => out_i64_enc d _ hd) ((ev_c9 fu a_0 k_1).trans hy)
theorem good_c9 (fu : Nat) : ∀ xs o, S_c9 fu xs = some o → ∀ y, o.x = some y → Good E Try.prog 38 xs (o.g y) := by
  intro xs o h y hy
  unfold S_c9 at h
  split at h
  · rename_i a0_1 a0_3 a0_4 a0_5 a0_7 za0_8 na0_8 fa0_8 za0_9 na0_9 fa0_9 za0_10 na0_10 fa0_10 a1_0
    cases h
    exact goodv_c9 fu (⟨a0_1, (⟨a0_3, a0_4, a0_5, (⟨a0_7, (⟨za0_8, na0_8, fa0_8⟩ : (Sl S_impl_Backend)), (⟨za0_9, na0_9, fa0_9⟩ : (Sl S_impl_Vip))⟩ : S_impl_Config), (⟨za0_10, na0_10, fa0_10⟩ : (Sl S_impl_Cmd))⟩ : S_impl_Update)⟩ : S_impl_UpdateResult) a1_0 y hy
  · cases h

/-! laws.FnExactServeFrom -/
def F_laws_FnExactServeFrom (fu : Nat) (aAll_0 : (Sl S_laws_Config)) (aCmds_1 : (Sl S_impl_Cmd)) (aFrom_2 : Int) : Option (Bool) :=
  ((F_laws_szConfigS fu aAll_0 1048576).bind fun y1 => (bif (decide (y1 < 0)) then (some true) else ((F_laws_szCmdS fu aCmds_1 y1).bind fun y2 => (bif (decide (y2 < 0)) then (some true) else
    ((F_laws_toConfigS_U fu aAll_0).bind fun y21 => ((F_laws_toCmdS_H fu aCmds_1).bind fun y26 => ((F_spec_ServeFrom_U fu (⟨none, y21.1, y21.2.2⟩ : (Sl S_impl_Config)) (⟨none,
    y26.n, y26.f⟩ : (Sl S_impl_Cmd)) aFrom_2).bind fun y109 => ((F_laws_toConfigS_U fu aAll_0).bind fun y110 => ((F_laws_toCmdS_H fu aCmds_1).bind fun y111 => ((F_impl_ServeFrom_U fu (⟨none,
    y110.1, y110.2.2⟩ : (Sl S_impl_Config)) (⟨none, y111.n, y111.f⟩ : (Sl S_impl_Cmd)) aFrom_2).bind fun y238 => ((F_laws_eqUpdateResult fu (⟨y238.1, (⟨y238.2.1, y238.2.2.1,
    y238.2.2.2.1, (⟨y238.2.2.2.2.1, (⟨none, y238.2.2.2.2.2.1, y238.2.2.2.2.2.2.2.2.2.1⟩ : (Sl S_impl_Backend)), (⟨none, y238.2.2.2.2.2.2.1, y238.2.2.2.2.2.2.2.2.2.2.2.1⟩ : (Sl S_impl_Vip))⟩ : S_impl_Config),
    (⟨none, y238.2.2.2.2.2.2.2.1, y238.2.2.2.2.2.2.2.2.2.2.2.2.2⟩ : (Sl S_impl_Cmd))⟩ : S_impl_Update)⟩ : S_impl_UpdateResult) (⟨y109.1, (⟨y109.2.1, y109.2.2.1, y109.2.2.2.1,
    (⟨y109.2.2.2.2.1, (⟨none, y109.2.2.2.2.2.1, y109.2.2.2.2.2.2.2.2.2.1⟩ : (Sl S_impl_Backend)), (⟨none, y109.2.2.2.2.2.2.1, y109.2.2.2.2.2.2.2.2.2.2.2.1⟩ : (Sl S_impl_Vip))⟩ : S_impl_Config),
    (⟨none, y109.2.2.2.2.2.2.2.1, y109.2.2.2.2.2.2.2.2.2.2.2.2.2⟩ : (Sl S_impl_Cmd))⟩ : S_impl_Update)⟩ : S_impl_UpdateResult)).bind fun y239 => (bif (!y239) then (some false) else
    ((F_laws_toConfigS_U fu aAll_0).bind fun y240 => ((F_laws_eqConfigS fu (⟨none, y110.1, y110.2.2⟩ : (Sl S_impl_Config)) (⟨none, y240.1, y240.2.2⟩ : (Sl S_impl_Config))).bind fun y241 =>
    (bif (!y241) then (some false) else ((F_laws_toCmdS_H fu aCmds_1).bind fun y242 => ((F_laws_eqCmdS fu (⟨none, y111.n, y111.f⟩ : (Sl S_impl_Cmd)) (⟨none, y242.n, y242.f⟩ : (Sl S_impl_Cmd))).bind fun y243 =>
    (bif (!y243) then (some false) else ((F_laws_markConfigS_U fu y110.1 1 y110.2.1 y110.2.1 y110.2.2).bind fun y255 => ((F_laws_markCmdS_L fu y111.n y255.1 y111.n y111.f).bind fun y258 =>
    (((bif (decide (y258.1 < 0)) then (some true) else ((F_laws_eqUpdateResult fu (⟨y238.1, (⟨y238.2.1, y238.2.2.1, y238.2.2.2.1, (⟨y238.2.2.2.2.1, (⟨none, y238.2.2.2.2.2.1,
    y238.2.2.2.2.2.2.2.2.2.1⟩ : (Sl S_impl_Backend)), (⟨none, y238.2.2.2.2.2.2.1, y238.2.2.2.2.2.2.2.2.2.2.2.1⟩ : (Sl S_impl_Vip))⟩ : S_impl_Config), (⟨none, y238.2.2.2.2.2.2.2.1,
    y238.2.2.2.2.2.2.2.2.2.2.2.2.2⟩ : (Sl S_impl_Cmd))⟩ : S_impl_Update)⟩ : S_impl_UpdateResult) (⟨y109.1, (⟨y109.2.1, y109.2.2.1, y109.2.2.2.1, (⟨y109.2.2.2.2.1, (⟨none,
    y109.2.2.2.2.2.1, y109.2.2.2.2.2.2.2.2.2.1⟩ : (Sl S_impl_Backend)), (⟨none, y109.2.2.2.2.2.2.1, y109.2.2.2.2.2.2.2.2.2.2.2.1⟩ : (Sl S_impl_Vip))⟩ : S_impl_Config), (⟨none,
    y109.2.2.2.2.2.2.2.1, y109.2.2.2.2.2.2.2.2.2.2.2.2.2⟩ : (Sl S_impl_Cmd))⟩ : S_impl_Update)⟩ : S_impl_UpdateResult)).bind fun y259 => (some (!y259)))) : Option Bool).bind fun m260 =>
    (bif m260 then (some false) else ((F_laws_markUpdateResult_U fu y238.1 y238.2.1 y238.2.2.1 y238.2.2.2.1 y238.2.2.2.2.1 y238.2.2.2.2.2.1 y238.2.2.2.2.2.2.1 y238.2.2.2.2.2.2.2.1 1 y238.2.2.2.2.2.2.2.2.1 y238.2.2.2.2.2.2.2.2.2.1 y238.2.2.2.2.2.2.2.2.2.2.1 y238.2.2.2.2.2.2.2.2.2.2.1 y238.2.2.2.2.2.2.2.2.2.2.2.1 y238.2.2.2.2.2.2.2.2.2.2.2.2.1 y238.2.2.2.2.2.2.2.2.2.2.2.2.2).bind fun y268 =>
    ((F_laws_heldUpdateResult fu (⟨y238.1, (⟨y238.2.1, y238.2.2.1, y238.2.2.2.1, (⟨y238.2.2.2.2.1, (⟨none, y238.2.2.2.2.2.1, y268.2.2.1⟩ : (Sl S_impl_Backend)), (⟨none,
    y238.2.2.2.2.2.2.1, y268.2.2.2.2.2.1⟩ : (Sl S_impl_Vip))⟩ : S_impl_Config), (⟨none, y238.2.2.2.2.2.2.2.1, y268.2.2.2.2.2.2.2⟩ : (Sl S_impl_Cmd))⟩ : S_impl_Update)⟩ : S_impl_UpdateResult) 1).bind fun y269 =>
    (bif (decide (y269 < 0)) then (some false) else (bif (y269 != y268.1) then (some false) else ((F_laws_toConfigS_U fu aAll_0).bind fun y270 => ((F_laws_toCmdS_H fu aCmds_1).bind fun y271 =>
    ((F_impl_ServeFrom_U fu (⟨none, y270.1, y270.2.2⟩ : (Sl S_impl_Config)) (⟨none, y271.n, y271.f⟩ : (Sl S_impl_Cmd)) aFrom_2).bind fun y272 => ((F_laws_eqUpdateResult fu (⟨y272.1,
    (⟨y272.2.1, y272.2.2.1, y272.2.2.2.1, (⟨y272.2.2.2.2.1, (⟨none, y272.2.2.2.2.2.1, y272.2.2.2.2.2.2.2.2.2.1⟩ : (Sl S_impl_Backend)), (⟨none, y272.2.2.2.2.2.2.1,
    y272.2.2.2.2.2.2.2.2.2.2.2.1⟩ : (Sl S_impl_Vip))⟩ : S_impl_Config), (⟨none, y272.2.2.2.2.2.2.2.1, y272.2.2.2.2.2.2.2.2.2.2.2.2.2⟩ : (Sl S_impl_Cmd))⟩ : S_impl_Update)⟩ : S_impl_UpdateResult) (⟨y109.1,
    (⟨y109.2.1, y109.2.2.1, y109.2.2.2.1, (⟨y109.2.2.2.2.1, (⟨none, y109.2.2.2.2.2.1, y109.2.2.2.2.2.2.2.2.2.1⟩ : (Sl S_impl_Backend)), (⟨none, y109.2.2.2.2.2.2.1,
    y109.2.2.2.2.2.2.2.2.2.2.2.1⟩ : (Sl S_impl_Vip))⟩ : S_impl_Config), (⟨none, y109.2.2.2.2.2.2.2.1, y109.2.2.2.2.2.2.2.2.2.2.2.2.2⟩ : (Sl S_impl_Cmd))⟩ : S_impl_Update)⟩ : S_impl_UpdateResult)).bind fun y273 =>
    (bif (!y273) then (some false) else ((F_laws_heldUpdateResult fu (⟨y238.1, (⟨y238.2.1, y238.2.2.1, y238.2.2.2.1, (⟨y238.2.2.2.2.1, (⟨none, y238.2.2.2.2.2.1, y268.2.2.1⟩ : (Sl S_impl_Backend)),
    (⟨none, y238.2.2.2.2.2.2.1, y268.2.2.2.2.2.1⟩ : (Sl S_impl_Vip))⟩ : S_impl_Config), (⟨none, y238.2.2.2.2.2.2.2.1, y268.2.2.2.2.2.2.2⟩ : (Sl S_impl_Cmd))⟩ : S_impl_Update)⟩ : S_impl_UpdateResult) 1).bind fun y274 =>
    (bif (decide (y274 < 0)) then (some false) else (bif (y274 != y268.1) then (some false) else (some true)))))))))))))))))))))))))))))))))))
def pcf_c10 (fu : Nat) (f : Nat) (xs : List (D RT den)) : Option (Out RT den) := match f with | 26 => S_b30 fu xs | 27 => S_b31 fu xs | 32 => S_c1 fu xs | 33 => S_c2 fu xs | 34 => S_b39 fu xs | 38 => S_c9 fu xs | _ => none
def pcx_c10 (fu : Nat) (f : Nat) (xs : List (D RT den)) (ins : List (Ob RT den)) : Option (OutX RT den) := match f with | 28 => S_a26 fu xs ins | 29 => S_a6 fu xs ins | 30 => S_a8 fu xs ins | 31 => S_b15 fu xs ins | 35 => S_b19 fu xs ins | 36 => S_b20 fu xs ins | 37 => S_b24 fu xs ins | _ => none
def pcd_c10 : Nat → Bool := fun f => match f with | 28 => true | 29 => true | 31 => true | 35 => true | 37 => true | _ => false
def pc_c10 (fu : Nat) : Pc RT den := ⟨pcf_c10 fu, fun f => match f with | 28 => true | 29 => true | 30 => true | 31 => true | 35 => true | 36 => true | 37 => true | _ => false, fun f => match f with | 35 => true | 36 => true | 37 => true | _ => false, pcd_c10, pcx_c10 fu⟩
def msk_c10 (b : Nat) : List Nat := match b with | 200021 => [67] | _ => []
def lp_c10 (fu : Nat) : Lp RT den (Bool) := fun b s k => none
theorem ev_c10 (fu : Nat) (aAll_0 : (Sl S_laws_Config)) (aCmds_1 : (Sl S_impl_Cmd)) (aFrom_2 : Int) : evFun E (pc_c10 fu) msk_c10 (lp_c10 fu) out_bo 5 [(.rs aAll_0.z .laws_Config aAll_0.n aAll_0.f), (.rs aCmds_1.z .impl_Cmd aCmds_1.n aCmds_1.f), (.int .i64 aFrom_2)] = F_laws_FnExactServeFrom fu aAll_0 aCmds_1 aFrom_2 := by kernel_rfl
noncomputable def body_c10 : Code := Try.f5.body.getD .skip
theorem lpok_c10 (fu : Nat) : LpOk E (pc_c10 fu) msk_c10 (lp_c10 fu) (loops 0 body_c10) := by
  have h : loops 0 body_c10 = [] := by kernel_rfl
  rw [h]; intro p hp; cases hp
def S_c10 (fu : Nat) (xs : List (D RT den)) : Option (Out RT den) := match xs with | [.rs za0_0 .laws_Config na0_0 fa0_0, .rs za1_0 .impl_Cmd na1_0 fa1_0, .int .i64 a2_0] => some ⟨Bool, F_laws_FnExactServeFrom fu (⟨za0_0, na0_0, fa0_0⟩ : (Sl S_laws_Config)) (⟨za1_0, na1_0, fa1_0⟩ : (Sl S_impl_Cmd)) a2_0, enc_bo, fun _ => true⟩ | _ => none
theorem hpc_c10 (fu : Nat) : ∀ f xs o, pcf_c10 fu f xs = some o → ∀ y, o.x = some y → Good E Try.prog f xs (o.g y) := by
  intro f xs o h
  unfold pcf_c10 at h
  split at h
  · exact good_b30 fu xs o h
  · exact good_b31 fu xs o h
  · exact good_c1 fu xs o h
  · exact good_c2 fu xs o h
  · exact good_b39 fu xs o h
  · exact good_c9 fu xs o h
  · cases h
theorem hpx_c10 (fu : Nat) : ∀ f xs ins o, pcx_c10 fu f xs ins = some o → ∀ y, o.x = some y → GoodXD E Try.prog (pcd_c10 f) f xs ins (o.g y).1 (o.g y).2 := by
  intro f xs ins o h
  unfold pcx_c10 at h
  split at h
  · exact good_a26 fu xs ins o h
  · exact good_a6 fu xs ins o h
  · exact good_a8 fu xs ins o h
  · exact good_b15 fu xs ins o h
  · exact good_b19 fu xs ins o h
  · exact good_b20 fu xs ins o h
  · exact good_b24 fu xs ins o h
  · cases h
theorem goodv_c10 (fu : Nat) (aAll_0 : (Sl S_laws_Config)) (aCmds_1 : (Sl S_impl_Cmd)) (aFrom_2 : Int) (y : Bool) (hy : F_laws_FnExactServeFrom fu aAll_0 aCmds_1 aFrom_2 = some y) : Good E Try.prog 5 [(.rs aAll_0.z .laws_Config aAll_0.n aAll_0.f), (.rs aCmds_1.z .impl_Cmd aCmds_1.n aCmds_1.f), (.int .i64 aFrom_2)] (enc_bo y) :=
  fun_good E_ok (pc_good (pc := pc_c10 fu) (hpc_c10 fu) (hpx_c10 fu)) (fn := Try.f5) (c := body_c10) (out := out_bo) (y := y) (by kernel_rfl) (by kernel_rfl) (by kernel_rfl) (lpok_c10 fu) (fun d hd => out_bo_enc d _ hd) ((ev_c10 fu aAll_0 aCmds_1 aFrom_2).trans hy)
theorem good_c10 (fu : Nat) : ∀ xs o, S_c10 fu xs = some o → ∀ y, o.x = some y → Good E Try.prog 5 xs (o.g y) := by
  intro xs o h y hy
  unfold S_c10 at h
  split at h
  · rename_i za0_0 na0_0 fa0_0 za1_0 na1_0 fa1_0 a2_0
    cases h
    exact goodv_c10 fu (⟨za0_0, na0_0, fa0_0⟩ : (Sl S_laws_Config)) (⟨za1_0, na1_0, fa1_0⟩ : (Sl S_impl_Cmd)) a2_0 y hy
  · cases h
end Go.Proofs.Ytknnfcbagbafaaa.Pc
