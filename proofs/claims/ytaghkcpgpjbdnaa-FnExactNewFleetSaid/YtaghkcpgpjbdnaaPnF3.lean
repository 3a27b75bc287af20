/- The functions' evaluated forms, each a proved summary. Conditions: none. -/
import Derived.Test.YtaghkcpgpjbdnaaPnF2
namespace Go.Proofs.Ytaghkcpgpjbdnaa.Pn
open Go Go.RowKit Go.Proofs Vm
set_option linter.unusedVariables false
set_option linter.unusedSimpArgs false
set_option maxRecDepth 100000
/-! laws.heldHeldS -/
def F_laws_heldHeldS_B0 {ρ : Type} (fu : Nat) (a0_0 : (Sl S_impl_Held)) (k0 : Int → Option ρ) (k1 : Int → Option ρ) (k1_1 : Int) (i5_2 : Int) (go : Int → Int → Option ρ) : Option ρ :=
  (bif (decide (i5_2 < ((a0_0.n : Nat) : Int))) then ((bif (decide (0 ≤ i5_2) && decide ((Int.toNat i5_2) < a0_0.n)) then some () else none : Option Unit).bind fun _ => (bif ((a0_0.f (Int.toNat i5_2)).Flow.From != k1_1) then
    (k0 k1_1) else ((bif (decide (0 ≤ i5_2) && decide ((Int.toNat i5_2) < a0_0.n)) then some () else none : Option Unit).bind fun _ => (bif ((a0_0.f (Int.toNat i5_2)).Flow.To != (IntKind.wrap .i64 (k1_1 + 1))) then
    (k0 (IntKind.wrap .i64 (k1_1 + 1))) else ((bif (decide (0 ≤ i5_2) && decide ((Int.toNat i5_2) < a0_0.n)) then some () else none : Option Unit).bind fun _ => (bif ((a0_0.f (Int.toNat i5_2)).Flow.Proto != (IntKind.wrap .i64 ((IntKind.wrap .i64 (k1_1 + 1)) + 1))) then
    (k0 (IntKind.wrap .i64 ((IntKind.wrap .i64 (k1_1 + 1)) + 1))) else ((bif (decide (0 ≤ i5_2) && decide ((Int.toNat i5_2) < a0_0.n)) then some () else none : Option Unit).bind fun _ =>
    (bif ((a0_0.f (Int.toNat i5_2)).Flow.FromP != (IntKind.wrap .i64 ((IntKind.wrap .i64 ((IntKind.wrap .i64 (k1_1 + 1)) + 1)) + 1))) then (k0 (IntKind.wrap .i64 ((IntKind.wrap .i64 ((IntKind.wrap .i64 (k1_1 + 1)) + 1)) + 1))) else
    ((bif (decide (0 ≤ i5_2) && decide ((Int.toNat i5_2) < a0_0.n)) then some () else none : Option Unit).bind fun _ => (bif ((a0_0.f (Int.toNat i5_2)).Flow.ToP != (IntKind.wrap .i64 ((IntKind.wrap .i64 ((IntKind.wrap .i64 ((IntKind.wrap .i64 (k1_1 + 1)) + 1)) + 1)) + 1))) then
    (k0 (IntKind.wrap .i64 ((IntKind.wrap .i64 ((IntKind.wrap .i64 ((IntKind.wrap .i64 (k1_1 + 1)) + 1)) + 1)) + 1))) else ((bif (decide (0 ≤ i5_2) && decide ((Int.toNat i5_2) < a0_0.n)) then
    some () else none : Option Unit).bind fun _ => (bif ((a0_0.f (Int.toNat i5_2)).Name != (IntKind.wrap .i64 ((IntKind.wrap .i64 ((IntKind.wrap .i64 ((IntKind.wrap .i64 ((IntKind.wrap .i64 (k1_1 + 1)) + 1)) + 1)) + 1)) + 1))) then
    (k0 (IntKind.wrap .i64 ((IntKind.wrap .i64 ((IntKind.wrap .i64 ((IntKind.wrap .i64 ((IntKind.wrap .i64 (k1_1 + 1)) + 1)) + 1)) + 1)) + 1))) else ((bif (decide (0 ≤ i5_2) &&
    decide ((Int.toNat i5_2) < a0_0.n)) then some () else none : Option Unit).bind fun _ => (bif ((a0_0.f (Int.toNat i5_2)).Seen != (IntKind.wrap .i64 ((IntKind.wrap .i64 ((IntKind.wrap .i64 ((IntKind.wrap .i64 ((IntKind.wrap .i64 ((IntKind.wrap .i64 (k1_1 + 1)) + 1)) + 1)) + 1)) + 1)) + 1))) then
    (k0 (IntKind.wrap .i64 ((IntKind.wrap .i64 ((IntKind.wrap .i64 ((IntKind.wrap .i64 ((IntKind.wrap .i64 ((IntKind.wrap .i64 (k1_1 + 1)) + 1)) + 1)) + 1)) + 1)) + 1))) else (go (IntKind.wrap .i64 ((IntKind.wrap .i64 ((IntKind.wrap .i64 ((IntKind.wrap .i64 ((IntKind.wrap .i64 ((IntKind.wrap .i64 ((IntKind.wrap .i64 (k1_1 + 1)) + 1)) + 1)) + 1)) + 1)) + 1)) + 1)) (IntKind.wrap .i64 (i5_2 + 1))))))))))))))))) else
    (k1 k1_1))
def F_laws_heldHeldS (fu : Nat) (a_0 : (Sl S_impl_Held)) (k_1 : Int) : Option (Int) :=
  (L (fun w0 go0 => F_laws_heldHeldS_B0 fu a_0 (fun z96 => (some (-1))) (fun z97 => (some z97)) w0.1 w0.2 (fun q0 q1 => go0 (q0, q1))) fu ((k_1, 0) : Int × Int))
def pcf_laws_heldHeldS (fu : Nat) (f : Nat) (xs : List (D RT den)) : Option (Out RT den) := none
def pcx_laws_heldHeldS (fu : Nat) (f : Nat) (xs : List (D RT den)) (ins : List (Ob RT den)) : Option (OutX RT den) := none
def pc_laws_heldHeldS (fu : Nat) : Pc RT den := ⟨pcf_laws_heldHeldS fu, fun _ => false, fun _ => false, pcx_laws_heldHeldS fu⟩
def msk_laws_heldHeldS (b : Nat) : List Nat := match b with | 0 => [2, 3, 4, 6, 7, 8, 9, 10, 11, 12, 13, 14, 15, 16, 17, 18, 19, 20, 21, 22, 23, 24, 25, 26, 27, 28, 29, 30, 31, 32, 33, 34, 35, 36, 37, 38, 39, 40, 41, 42, 43, 44, 45, 46, 47, 48, 49, 50, 51, 52, 53, 54, 55, 56, 57, 58, 59, 60, 61, 62, 63, 64, 65, 66, 67, 68, 69, 70, 71, 72, 73, 74, 75, 76, 77, 78, 79, 80] | 100000 => [0, 2, 3, 5, 6, 7, 8, 9, 10, 11, 12, 13, 14, 15, 16, 17, 18, 19, 20, 21, 22, 23, 24, 25, 26, 27, 28, 29, 30, 31, 32, 33, 34, 35, 36, 37, 38, 39, 40, 41, 42, 43, 44, 45, 46, 47, 48, 49, 50, 51, 52, 53, 54, 55, 56, 57, 58, 59, 60, 61, 62, 63, 64, 65, 66, 67, 68, 69, 70, 71, 72, 73, 74, 75, 76, 77, 78, 79, 80] | _ => []
def ps_laws_heldHeldS_0 : List (Pat RT) := [.flat (.rs .impl_Held), .flat (.int .i64), .flat .dead, .flat .dead, .flat .dead, .flat (.int .i64), .flat .dead, .flat .dead, .flat .dead, .flat .dead, .flat .dead, .flat .dead, .flat .dead, .flat .dead, .flat .dead, .flat .dead, .flat .dead, .flat .dead, .flat .dead, .flat .dead, .flat .dead, .flat .dead, .flat .dead, .flat .dead, .flat .dead, .flat .dead, .flat .dead, .flat .dead, .flat .dead, .flat .dead, .flat .dead, .flat .dead, .flat .dead, .flat .dead, .flat .dead, .flat .dead, .flat .dead, .flat .dead, .flat .dead, .flat .dead, .flat .dead, .flat .dead, .flat .dead, .flat .dead, .flat .dead, .flat .dead, .flat .dead, .flat .dead, .flat .dead, .flat .dead, .flat .dead, .flat .dead, .flat .dead, .flat .dead, .flat .dead, .flat .dead, .flat .dead, .flat .dead, .flat .dead, .flat .dead, .flat .dead, .flat .dead, .flat .dead, .flat .dead, .flat .dead, .flat .dead, .flat .dead, .flat .dead, .flat .dead, .flat .dead, .flat .dead, .flat .dead, .flat .dead, .flat .dead, .flat .dead, .flat .dead, .flat .dead, .flat .dead, .flat .dead, .flat .dead, .flat .dead]
def os_laws_heldHeldS_0 : List (OP RT) := []
def conv_laws_heldHeldS_0 (r : Raw den ps_laws_heldHeldS_0 os_laws_heldHeldS_0) : ((Sl S_impl_Held)) × (Int × Int) := (r.1.1, (r.1.2.1, r.1.2.2.2.2.2.1))
def back_laws_heldHeldS_0 (c : (Sl S_impl_Held)) (w : Int × Int) : St RT den := ⟨[(.rs c.z .impl_Held c.n c.f), (.int .i64 w.1), .dead, .dead, .dead, (.int .i64 w.2), .dead, .dead, .dead, .dead, .dead, .dead, .dead, .dead, .dead, .dead, .dead, .dead, .dead, .dead, .dead, .dead, .dead, .dead, .dead, .dead, .dead, .dead, .dead, .dead, .dead, .dead, .dead, .dead, .dead, .dead, .dead, .dead, .dead, .dead, .dead, .dead, .dead, .dead, .dead, .dead, .dead, .dead, .dead, .dead, .dead, .dead, .dead, .dead, .dead, .dead, .dead, .dead, .dead, .dead, .dead, .dead, .dead, .dead, .dead, .dead, .dead, .dead, .dead, .dead, .dead, .dead, .dead, .dead, .dead, .dead, .dead, .dead, .dead, .dead, .dead], []⟩
def Bk_laws_heldHeldS_0 {ρ : Type} (fu : Nat) (c : (Sl S_impl_Held)) (k : Ex → St RT den → Option ρ) (w : Int × Int) (go : (Int × Int) → Option ρ) : Option ρ := F_laws_heldHeldS_B0 fu c (fun a0 => k .ret ⟨[.dead, (.int .i64 a0), .dead, .dead, (.int .i64 (-1)), .dead, .dead, .dead, .dead, .dead, .dead, .dead, .dead, .dead, .dead, .dead, .dead, .dead, .dead, .dead, .dead, .dead, .dead, .dead, .dead, .dead, .dead, .dead, .dead, .dead, .dead, .dead, .dead, .dead, .dead, .dead, .dead, .dead, .dead, .dead, .dead, .dead, .dead, .dead, .dead, .dead, .dead, .dead, .dead, .dead, .dead, .dead, .dead, .dead, .dead, .dead, .dead, .dead, .dead, .dead, .dead, .dead, .dead, .dead, .dead, .dead, .dead, .dead, .dead, .dead, .dead, .dead, .dead, .dead, .dead, .dead, .dead, .dead, .dead, .dead, .dead], []⟩) (fun a0 => k (.exit 0) ⟨[.dead, (.int .i64 a0), .dead, .dead, .dead, .dead, .dead, .dead, .dead, .dead, .dead, .dead, .dead, .dead, .dead, .dead, .dead, .dead, .dead, .dead, .dead, .dead, .dead, .dead, .dead, .dead, .dead, .dead, .dead, .dead, .dead, .dead, .dead, .dead, .dead, .dead, .dead, .dead, .dead, .dead, .dead, .dead, .dead, .dead, .dead, .dead, .dead, .dead, .dead, .dead, .dead, .dead, .dead, .dead, .dead, .dead, .dead, .dead, .dead, .dead, .dead, .dead, .dead, .dead, .dead, .dead, .dead, .dead, .dead, .dead, .dead, .dead, .dead, .dead, .dead, .dead, .dead, .dead, .dead, .dead, .dead], []⟩) w.1 w.2 (fun q0 q1 => go (q0, q1))
def lp_laws_heldHeldS (fu : Nat) : Lp RT den (Int) := fun b s k => match b with | 0 => handle ps_laws_heldHeldS_0 os_laws_heldHeldS_0 conv_laws_heldHeldS_0 (Bk_laws_heldHeldS_0 fu) fu s k | _ => none
theorem ev_laws_heldHeldS (fu : Nat) (a_0 : (Sl S_impl_Held)) (k_1 : Int) : evFun E (pc_laws_heldHeldS fu) msk_laws_heldHeldS (lp_laws_heldHeldS fu) out_i64 39 [(.rs a_0.z .impl_Held a_0.n a_0.f), (.int .i64 k_1)] = F_laws_heldHeldS fu a_0 k_1 := by kernel_rfl
noncomputable def body_laws_heldHeldS : Code := Try.f39.body.getD .skip
noncomputable def lc_laws_heldHeldS_0 : Code := ((loops 0 body_laws_heldHeldS).getD 0 (0, .skip)).2
theorem round_laws_heldHeldS_0 (fu : Nat) (it : St RT den → Option (Int)) (k : Ex → St RT den → Option (Int)) c w : evCode E (pc_laws_heldHeldS fu) msk_laws_heldHeldS (lp_laws_heldHeldS fu) 0 lc_laws_heldHeldS_0 (back_laws_heldHeldS_0 c w) (after (msk_laws_heldHeldS 0) (msk_laws_heldHeldS 100000) 0 it k) = Bk_laws_heldHeldS_0 fu c k w (fun w => it (back_laws_heldHeldS_0 c w)) := by kernel_rfl
theorem lpok_laws_heldHeldS_0 (fu : Nat) : ∀ s k r, lp_laws_heldHeldS fu 0 s k = some r → ∃ fuel, iter (msk_laws_heldHeldS 0) (msk_laws_heldHeldS 100000) s.objs.length (evCode E (pc_laws_heldHeldS fu) msk_laws_heldHeldS (lp_laws_heldHeldS fu) 0 lc_laws_heldHeldS_0) fuel s k = some r :=
  handle_ok (ps := ps_laws_heldHeldS_0) (os := os_laws_heldHeldS_0) (conv := conv_laws_heldHeldS_0) (B := Bk_laws_heldHeldS_0 fu) (fu := fu) back_laws_heldHeldS_0 (fun raw => by kernel_rfl) 0 (fun c w => by kernel_rfl) (round_laws_heldHeldS_0 fu)
theorem lpok_laws_heldHeldS (fu : Nat) : LpOk E (pc_laws_heldHeldS fu) msk_laws_heldHeldS (lp_laws_heldHeldS fu) (loops 0 body_laws_heldHeldS) := loop_all 1 (by kernel_rfl) fun i hi => match i, hi with
  | 0, _ => by
    have h : (loops 0 body_laws_heldHeldS).getD 0 (0, .skip) = (0, lc_laws_heldHeldS_0) := by kernel_rfl
    rw [h]; exact lpok_laws_heldHeldS_0 fu
  | i + 1, hi => absurd hi (by omega)
def S_laws_heldHeldS (fu : Nat) (xs : List (D RT den)) : Option (Out RT den) := match xs with | [.rs za0_0 .impl_Held na0_0 fa0_0, .int .i64 a1_0] => some ⟨Int, F_laws_heldHeldS fu (⟨za0_0, na0_0, fa0_0⟩ : (Sl S_impl_Held)) a1_0, enc_i64, fun _ => true⟩ | _ => none
theorem hpc_laws_heldHeldS (fu : Nat) : ∀ f xs o, pcf_laws_heldHeldS fu f xs = some o → ∀ y, o.x = some y → Good E Try.prog f xs (o.g y) := by
  intro f xs o h
  cases h
theorem hpx_laws_heldHeldS (fu : Nat) : ∀ f xs ins o, pcx_laws_heldHeldS fu f xs ins = some o → ∀ y, o.x = some y → GoodX E Try.prog f xs ins (o.g y).1 (o.g y).2 := by
  intro f xs ins o h
  cases h
theorem goodv_laws_heldHeldS (fu : Nat) (a_0 : (Sl S_impl_Held)) (k_1 : Int) (y : Int) (hy : F_laws_heldHeldS fu a_0 k_1 = some y) : Good E Try.prog 39 [(.rs a_0.z .impl_Held a_0.n a_0.f), (.int .i64 k_1)] (enc_i64 y) :=
  fun_good E_ok (pc_good (pc := pc_laws_heldHeldS fu) (hpc_laws_heldHeldS fu) (hpx_laws_heldHeldS fu)) (fn := Try.f39) (c := body_laws_heldHeldS) (out := out_i64) (y := y) (by kernel_rfl) (by kernel_rfl) (by kernel_rfl) (lpok_laws_heldHeldS fu) (fun d hd => out_i64_enc d _ hd) ((ev_laws_heldHeldS fu a_0 k_1).trans hy)
theorem good_laws_heldHeldS (fu : Nat) : ∀ xs o, S_laws_heldHeldS fu xs = some o → ∀ y, o.x = some y → Good E Try.prog 39 xs (o.g y) := by
  intro xs o h y hy
  unfold S_laws_heldHeldS at h
  split at h
  · rename_i za0_0 na0_0 fa0_0 a1_0
    cases h
    exact goodv_laws_heldHeldS fu (⟨za0_0, na0_0, fa0_0⟩ : (Sl S_impl_Held)) a1_0 y hy
  · cases h

/-! laws.heldMuxS -/
def F_laws_heldMuxS_B0 {ρ : Type} (fu : Nat) (a0_0 : (Sl S_impl_Mux_0)) (k0 : Int → Option ρ) (k1 : Int → Option ρ) (k1_1 : Int) (i5_2 : Int) (go : Int → Int → Option ρ) : Option ρ :=
  (bif (decide (i5_2 < ((a0_0.n : Nat) : Int))) then ((bif (decide (0 ≤ i5_2) && decide ((Int.toNat i5_2) < a0_0.n)) then some () else none : Option Unit).bind fun _ => (bif ((a0_0.f (Int.toNat i5_2)).Address != k1_1) then
    (k0 k1_1) else ((bif (decide (0 ≤ i5_2) && decide ((Int.toNat i5_2) < a0_0.n)) then some () else none : Option Unit).bind fun _ => (bif ((a0_0.f (Int.toNat i5_2)).Now != (IntKind.wrap .i64 (k1_1 + 1))) then
    (k0 (IntKind.wrap .i64 (k1_1 + 1))) else ((bif (decide (0 ≤ i5_2) && decide ((Int.toNat i5_2) < a0_0.n)) then some () else none : Option Unit).bind fun _ => (bif (!((a0_0.f (Int.toNat i5_2)).Watch_Ready == ((Int.tmod (IntKind.wrap .i64 ((IntKind.wrap .i64 (k1_1 + 1)) + 1)) 3) == 0))) then
    (k0 (IntKind.wrap .i64 ((IntKind.wrap .i64 (k1_1 + 1)) + 1))) else ((bif (decide (0 ≤ i5_2) && decide ((Int.toNat i5_2) < a0_0.n)) then some () else none : Option Unit).bind fun _ =>
    (bif ((a0_0.f (Int.toNat i5_2)).Watch_Config_Version != (IntKind.wrap .i64 ((IntKind.wrap .i64 ((IntKind.wrap .i64 (k1_1 + 1)) + 1)) + 1))) then (k0 (IntKind.wrap .i64 ((IntKind.wrap .i64 ((IntKind.wrap .i64 (k1_1 + 1)) + 1)) + 1))) else
    ((bif (decide (0 ≤ i5_2) && decide ((Int.toNat i5_2) < a0_0.n)) then some () else none : Option Unit).bind fun _ => ((F_laws_heldBackendS fu (⟨(some true), 0, (fun _ => dflt .impl_Backend)⟩ : (Sl S_impl_Backend)) (IntKind.wrap .i64 ((IntKind.wrap .i64 ((IntKind.wrap .i64 ((IntKind.wrap .i64 (k1_1 + 1)) + 1)) + 1)) + 1))).bind fun y80 =>
    (bif (decide (y80 < 0)) then (k0 y80) else ((bif (decide (0 ≤ i5_2) && decide ((Int.toNat i5_2) < a0_0.n)) then some () else none : Option Unit).bind fun _ => ((F_laws_heldVipS fu (⟨(some true),
    0, (fun _ => dflt .impl_Vip)⟩ : (Sl S_impl_Vip)) y80).bind fun y81 => (bif (decide (y81 < 0)) then (k0 y81) else ((bif (decide (0 ≤ i5_2) && decide ((Int.toNat i5_2) < a0_0.n)) then
    some () else none : Option Unit).bind fun _ => ((F_laws_heldInt64SS fu (⟨(some true), 0, (fun _ => dflt .sl_i64)⟩ : (Sl (Sl Int))) y81).bind fun y82 => (bif (decide (y82 < 0)) then
    (k0 y82) else ((bif (decide (0 ≤ i5_2) && decide ((Int.toNat i5_2) < a0_0.n)) then some () else none : Option Unit).bind fun _ => ((F_laws_heldHeldS fu (⟨(some true), 0, (fun _ =>
    dflt .impl_Held)⟩ : (Sl S_impl_Held)) y82).bind fun y83 => (bif (decide (y83 < 0)) then (k0 y83) else (go y83 (IntKind.wrap .i64 (i5_2 + 1))))))))))))))))))))))) else (k1 k1_1))
def F_laws_heldMuxS (fu : Nat) (a_0 : (Sl S_impl_Mux_0)) (k_1 : Int) : Option (Int) :=
  (L (fun w0 go0 => F_laws_heldMuxS_B0 fu a_0 (fun z84 => (some (-1))) (fun z85 => (some z85)) w0.1 w0.2 (fun q0 q1 => go0 (q0, q1))) fu ((k_1, 0) : Int × Int))
def pcf_laws_heldMuxS (fu : Nat) (f : Nat) (xs : List (D RT den)) : Option (Out RT den) := match f with | 38 => S_laws_heldInt64SS fu xs | 39 => S_laws_heldHeldS fu xs | 56 => S_laws_heldBackendS fu xs | 57 => S_laws_heldVipS fu xs | _ => none
def pcx_laws_heldMuxS (fu : Nat) (f : Nat) (xs : List (D RT den)) (ins : List (Ob RT den)) : Option (OutX RT den) := none
def pc_laws_heldMuxS (fu : Nat) : Pc RT den := ⟨pcf_laws_heldMuxS fu, fun _ => false, fun _ => false, pcx_laws_heldMuxS fu⟩
def msk_laws_heldMuxS (b : Nat) : List Nat := match b with | 0 => [2, 3, 4, 6, 7, 8, 9, 10, 11, 12, 13, 14, 15, 16, 17, 18, 19, 20, 21, 22, 23, 24, 25, 26, 27, 28, 29, 30, 31, 32, 33, 34, 35, 36, 37, 38, 39, 40, 41, 42, 43, 44, 45, 46, 47, 48, 49, 50, 51, 52, 53, 54, 55, 56, 57, 58, 59, 60, 61, 62, 63, 64, 65, 66, 67, 68, 69, 70, 71, 72, 73, 74, 75, 76, 77, 78, 79, 80, 81, 82, 83, 84, 85, 86, 87, 88, 89, 90, 91, 92, 93] | 100000 => [0, 2, 3, 5, 6, 7, 8, 9, 10, 11, 12, 13, 14, 15, 16, 17, 18, 19, 20, 21, 22, 23, 24, 25, 26, 27, 28, 29, 30, 31, 32, 33, 34, 35, 36, 37, 38, 39, 40, 41, 42, 43, 44, 45, 46, 47, 48, 49, 50, 51, 52, 53, 54, 55, 56, 57, 58, 59, 60, 61, 62, 63, 64, 65, 66, 67, 68, 69, 70, 71, 72, 73, 74, 75, 76, 77, 78, 79, 80, 81, 82, 83, 84, 85, 86, 87, 88, 89, 90, 91, 92, 93] | _ => []
def ps_laws_heldMuxS_0 : List (Pat RT) := [.flat (.rs .impl_Mux), .flat (.int .i64), .flat .dead, .flat .dead, .flat .dead, .flat (.int .i64), .flat .dead, .flat .dead, .flat .dead, .flat .dead, .flat .dead, .flat .dead, .flat .dead, .flat .dead, .flat .dead, .flat .dead, .flat .dead, .flat .dead, .flat .dead, .flat .dead, .flat .dead, .flat .dead, .flat .dead, .flat .dead, .flat .dead, .flat .dead, .flat .dead, .flat .dead, .flat .dead, .flat .dead, .flat .dead, .flat .dead, .flat .dead, .flat .dead, .flat .dead, .flat .dead, .flat .dead, .flat .dead, .flat .dead, .flat .dead, .flat .dead, .flat .dead, .flat .dead, .flat .dead, .flat .dead, .flat .dead, .flat .dead, .flat .dead, .flat .dead, .flat .dead, .flat .dead, .flat .dead, .flat .dead, .flat .dead, .flat .dead, .flat .dead, .flat .dead, .flat .dead, .flat .dead, .flat .dead, .flat .dead, .flat .dead, .flat .dead, .flat .dead, .flat .dead, .flat .dead, .flat .dead, .flat .dead, .flat .dead, .flat .dead, .flat .dead, .flat .dead, .flat .dead, .flat .dead, .flat .dead, .flat .dead, .flat .dead, .flat .dead, .flat .dead, .flat .dead, .flat .dead, .flat .dead, .flat .dead, .flat .dead, .flat .dead, .flat .dead, .flat .dead, .flat .dead, .flat .dead, .flat .dead, .flat .dead, .flat .dead, .flat .dead, .flat .dead]
def os_laws_heldMuxS_0 : List (OP RT) := []
def conv_laws_heldMuxS_0 (r : Raw den ps_laws_heldMuxS_0 os_laws_heldMuxS_0) : ((Sl S_impl_Mux_0)) × (Int × Int) := (r.1.1, (r.1.2.1, r.1.2.2.2.2.2.1))
def back_laws_heldMuxS_0 (c : (Sl S_impl_Mux_0)) (w : Int × Int) : St RT den := ⟨[(.rs c.z .impl_Mux c.n c.f), (.int .i64 w.1), .dead, .dead, .dead, (.int .i64 w.2), .dead, .dead, .dead, .dead, .dead, .dead, .dead, .dead, .dead, .dead, .dead, .dead, .dead, .dead, .dead, .dead, .dead, .dead, .dead, .dead, .dead, .dead, .dead, .dead, .dead, .dead, .dead, .dead, .dead, .dead, .dead, .dead, .dead, .dead, .dead, .dead, .dead, .dead, .dead, .dead, .dead, .dead, .dead, .dead, .dead, .dead, .dead, .dead, .dead, .dead, .dead, .dead, .dead, .dead, .dead, .dead, .dead, .dead, .dead, .dead, .dead, .dead, .dead, .dead, .dead, .dead, .dead, .dead, .dead, .dead, .dead, .dead, .dead, .dead, .dead, .dead, .dead, .dead, .dead, .dead, .dead, .dead, .dead, .dead, .dead, .dead, .dead, .dead], []⟩
def Bk_laws_heldMuxS_0 {ρ : Type} (fu : Nat) (c : (Sl S_impl_Mux_0)) (k : Ex → St RT den → Option ρ) (w : Int × Int) (go : (Int × Int) → Option ρ) : Option ρ := F_laws_heldMuxS_B0 fu c (fun a0 => k .ret ⟨[.dead, (.int .i64 a0), .dead, .dead, (.int .i64 (-1)), .dead, .dead, .dead, .dead, .dead, .dead, .dead, .dead, .dead, .dead, .dead, .dead, .dead, .dead, .dead, .dead, .dead, .dead, .dead, .dead, .dead, .dead, .dead, .dead, .dead, .dead, .dead, .dead, .dead, .dead, .dead, .dead, .dead, .dead, .dead, .dead, .dead, .dead, .dead, .dead, .dead, .dead, .dead, .dead, .dead, .dead, .dead, .dead, .dead, .dead, .dead, .dead, .dead, .dead, .dead, .dead, .dead, .dead, .dead, .dead, .dead, .dead, .dead, .dead, .dead, .dead, .dead, .dead, .dead, .dead, .dead, .dead, .dead, .dead, .dead, .dead, .dead, .dead, .dead, .dead, .dead, .dead, .dead, .dead, .dead, .dead, .dead, .dead, .dead], []⟩) (fun a0 => k (.exit 0) ⟨[.dead, (.int .i64 a0), .dead, .dead, .dead, .dead, .dead, .dead, .dead, .dead, .dead, .dead, .dead, .dead, .dead, .dead, .dead, .dead, .dead, .dead, .dead, .dead, .dead, .dead, .dead, .dead, .dead, .dead, .dead, .dead, .dead, .dead, .dead, .dead, .dead, .dead, .dead, .dead, .dead, .dead, .dead, .dead, .dead, .dead, .dead, .dead, .dead, .dead, .dead, .dead, .dead, .dead, .dead, .dead, .dead, .dead, .dead, .dead, .dead, .dead, .dead, .dead, .dead, .dead, .dead, .dead, .dead, .dead, .dead, .dead, .dead, .dead, .dead, .dead, .dead, .dead, .dead, .dead, .dead, .dead, .dead, .dead, .dead, .dead, .dead, .dead, .dead, .dead, .dead, .dead, .dead, .dead, .dead, .dead], []⟩) w.1 w.2 (fun q0 q1 => go (q0, q1))
def lp_laws_heldMuxS (fu : Nat) : Lp RT den (Int) := fun b s k => match b with | 0 => handle ps_laws_heldMuxS_0 os_laws_heldMuxS_0 conv_laws_heldMuxS_0 (Bk_laws_heldMuxS_0 fu) fu s k | _ => none
theorem ev_laws_heldMuxS (fu : Nat) (a_0 : (Sl S_impl_Mux_0)) (k_1 : Int) : evFun E (pc_laws_heldMuxS fu) msk_laws_heldMuxS (lp_laws_heldMuxS fu) out_i64 45 [(.rs a_0.z .impl_Mux a_0.n a_0.f), (.int .i64 k_1)] = F_laws_heldMuxS fu a_0 k_1 := by kernel_rfl
noncomputable def body_laws_heldMuxS : Code := Try.f45.body.getD .skip
noncomputable def lc_laws_heldMuxS_0 : Code := ((loops 0 body_laws_heldMuxS).getD 0 (0, .skip)).2
theorem round_laws_heldMuxS_0 (fu : Nat) (it : St RT den → Option (Int)) (k : Ex → St RT den → Option (Int)) c w : evCode E (pc_laws_heldMuxS fu) msk_laws_heldMuxS (lp_laws_heldMuxS fu) 0 lc_laws_heldMuxS_0 (back_laws_heldMuxS_0 c w) (after (msk_laws_heldMuxS 0) (msk_laws_heldMuxS 100000) 0 it k) = Bk_laws_heldMuxS_0 fu c k w (fun w => it (back_laws_heldMuxS_0 c w)) := by kernel_rfl
theorem lpok_laws_heldMuxS_0 (fu : Nat) : ∀ s k r, lp_laws_heldMuxS fu 0 s k = some r → ∃ fuel, iter (msk_laws_heldMuxS 0) (msk_laws_heldMuxS 100000) s.objs.length (evCode E (pc_laws_heldMuxS fu) msk_laws_heldMuxS (lp_laws_heldMuxS fu) 0 lc_laws_heldMuxS_0) fuel s k = some r :=
  handle_ok (ps := ps_laws_heldMuxS_0) (os := os_laws_heldMuxS_0) (conv := conv_laws_heldMuxS_0) (B := Bk_laws_heldMuxS_0 fu) (fu := fu) back_laws_heldMuxS_0 (fun raw => by kernel_rfl) 0 (fun c w => by kernel_rfl) (round_laws_heldMuxS_0 fu)
theorem lpok_laws_heldMuxS (fu : Nat) : LpOk E (pc_laws_heldMuxS fu) msk_laws_heldMuxS (lp_laws_heldMuxS fu) (loops 0 body_laws_heldMuxS) := loop_all 1 (by kernel_rfl) fun i hi => match i, hi with
  | 0, _ => by
    have h : (loops 0 body_laws_heldMuxS).getD 0 (0, .skip) = (0, lc_laws_heldMuxS_0) := by kernel_rfl
    rw [h]; exact lpok_laws_heldMuxS_0 fu
  | i + 1, hi => absurd hi (by omega)
def S_laws_heldMuxS (fu : Nat) (xs : List (D RT den)) : Option (Out RT den) := match xs with | [.rs za0_0 .impl_Mux na0_0 fa0_0, .int .i64 a1_0] => some ⟨Int, F_laws_heldMuxS fu (⟨za0_0, na0_0, fa0_0⟩ : (Sl S_impl_Mux_0)) a1_0, enc_i64, fun _ => true⟩ | _ => none
theorem hpc_laws_heldMuxS (fu : Nat) : ∀ f xs o, pcf_laws_heldMuxS fu f xs = some o → ∀ y, o.x = some y → Good E Try.prog f xs (o.g y) := by
  intro f xs o h
  unfold pcf_laws_heldMuxS at h
  split at h
  · exact good_laws_heldInt64SS fu xs o h
  · exact good_laws_heldHeldS fu xs o h
  · exact good_laws_heldBackendS fu xs o h
  · exact good_laws_heldVipS fu xs o h
  · cases h
theorem hpx_laws_heldMuxS (fu : Nat) : ∀ f xs ins o, pcx_laws_heldMuxS fu f xs ins = some o → ∀ y, o.x = some y → GoodX E Try.prog f xs ins (o.g y).1 (o.g y).2 := by
  intro f xs ins o h
  cases h
theorem goodv_laws_heldMuxS (fu : Nat) (a_0 : (Sl S_impl_Mux_0)) (k_1 : Int) (y : Int) (hy : F_laws_heldMuxS fu a_0 k_1 = some y) : Good E Try.prog 45 [(.rs a_0.z .impl_Mux a_0.n a_0.f), (.int .i64 k_1)] (enc_i64 y) :=
  fun_good E_ok (pc_good (pc := pc_laws_heldMuxS fu) (hpc_laws_heldMuxS fu) (hpx_laws_heldMuxS fu)) (fn := Try.f45) (c := body_laws_heldMuxS) (out := out_i64) (y := y) (by kernel_rfl) (by kernel_rfl) (by kernel_rfl) (lpok_laws_heldMuxS fu) (fun d hd => out_i64_enc d _ hd) ((ev_laws_heldMuxS fu a_0 k_1).trans hy)
theorem good_laws_heldMuxS (fu : Nat) : ∀ xs o, S_laws_heldMuxS fu xs = some o → ∀ y, o.x = some y → Good E Try.prog 45 xs (o.g y) := by
  intro xs o h y hy
  unfold S_laws_heldMuxS at h
  split at h
  · rename_i za0_0 na0_0 fa0_0 a1_0
    cases h
    exact goodv_laws_heldMuxS fu (⟨za0_0, na0_0, fa0_0⟩ : (Sl S_impl_Mux_0)) a1_0 y hy
  · cases h

/-! laws.heldFleet -/
def F_laws_heldFleet (fu : Nat) (a_0 : S_impl_Fleet) (k_1 : Int) : Option (Int) :=
  ((F_laws_heldEntryS fu a_0.Agreed k_1).bind fun y76 => (bif (decide (y76 < 0)) then (some (-1)) else ((F_laws_heldMuxS fu a_0.Muxes y76).bind fun y77 => (bif (decide (y77 < 0)) then
    (some (-1)) else (some y77)))))
def pcf_laws_heldFleet (fu : Nat) (f : Nat) (xs : List (D RT den)) : Option (Out RT den) := match f with | 44 => S_laws_heldEntryS fu xs | 45 => S_laws_heldMuxS fu xs | _ => none
def pcx_laws_heldFleet (fu : Nat) (f : Nat) (xs : List (D RT den)) (ins : List (Ob RT den)) : Option (OutX RT den) := none
def pc_laws_heldFleet (fu : Nat) : Pc RT den := ⟨pcf_laws_heldFleet fu, fun _ => false, fun _ => false, pcx_laws_heldFleet fu⟩
def msk_laws_heldFleet (b : Nat) : List Nat := []
def lp_laws_heldFleet (fu : Nat) : Lp RT den (Int) := fun b s k => none
theorem ev_laws_heldFleet (fu : Nat) (a_0 : S_impl_Fleet) (k_1 : Int) : evFun E (pc_laws_heldFleet fu) msk_laws_heldFleet (lp_laws_heldFleet fu) out_i64 30 [(.agg [(.rs a_0.Agreed.z .impl_Entry a_0.Agreed.n a_0.Agreed.f), (.rs a_0.Muxes.z .impl_Mux a_0.Muxes.n a_0.Muxes.f)]), (.int .i64 k_1)] = F_laws_heldFleet fu a_0 k_1 := by kernel_rfl
noncomputable def body_laws_heldFleet : Code := Try.f30.body.getD .skip
theorem lpok_laws_heldFleet (fu : Nat) : LpOk E (pc_laws_heldFleet fu) msk_laws_heldFleet (lp_laws_heldFleet fu) (loops 0 body_laws_heldFleet) := by
  have h : loops 0 body_laws_heldFleet = [] := by kernel_rfl
  rw [h]; intro p hp; cases hp
def S_laws_heldFleet (fu : Nat) (xs : List (D RT den)) : Option (Out RT den) := match xs with | [.agg [.rs za0_1 .impl_Entry na0_1 fa0_1, .rs za0_2 .impl_Mux na0_2 fa0_2], .int .i64 a1_0] => some ⟨Int, F_laws_heldFleet fu (⟨(⟨za0_1, na0_1, fa0_1⟩ : (Sl S_impl_Entry)), (⟨za0_2, na0_2, fa0_2⟩ : (Sl S_impl_Mux_0))⟩ : S_impl_Fleet) a1_0, enc_i64, fun _ => true⟩ | _ => none
theorem hpc_laws_heldFleet (fu : Nat) : ∀ f xs o, pcf_laws_heldFleet fu f xs = some o → ∀ y, o.x = some y → Good E Try.prog f xs (o.g y) := by
  intro f xs o h
  unfold pcf_laws_heldFleet at h
  split at h
  · exact good_laws_heldEntryS fu xs o h
  · exact good_laws_heldMuxS fu xs o h
  · cases h
theorem hpx_laws_heldFleet (fu : Nat) : ∀ f xs ins o, pcx_laws_heldFleet fu f xs ins = some o → ∀ y, o.x = some y → GoodX E Try.prog f xs ins (o.g y).1 (o.g y).2 := by
  intro f xs ins o h
  cases h
theorem goodv_laws_heldFleet (fu : Nat) (a_0 : S_impl_Fleet) (k_1 : Int) (y : Int) (hy : F_laws_heldFleet fu a_0 k_1 = some y) : Good E Try.prog 30 [(.agg [(.rs a_0.Agreed.z .impl_Entry a_0.Agreed.n a_0.Agreed.f), (.rs a_0.Muxes.z .impl_Mux a_0.Muxes.n a_0.Muxes.f)]), (.int .i64 k_1)] (enc_i64 y) :=
  fun_good E_ok (pc_good (pc := pc_laws_heldFleet fu) (hpc_laws_heldFleet fu) (hpx_laws_heldFleet fu)) (fn := Try.f30) (c := body_laws_heldFleet) (out := out_i64) (y := y) (by kernel_rfl) (by kernel_rfl) (by kernel_rfl) (lpok_laws_heldFleet fu) (fun d hd => out_i64_enc d _ hd) ((ev_laws_heldFleet fu a_0 k_1).trans hy)
theorem good_laws_heldFleet (fu : Nat) : ∀ xs o, S_laws_heldFleet fu xs = some o → ∀ y, o.x = some y → Good E Try.prog 30 xs (o.g y) := by
  intro xs o h y hy
  unfold S_laws_heldFleet at h
  split at h
  · rename_i za0_1 na0_1 fa0_1 za0_2 na0_2 fa0_2 a1_0
    cases h
    exact goodv_laws_heldFleet fu (⟨(⟨za0_1, na0_1, fa0_1⟩ : (Sl S_impl_Entry)), (⟨za0_2, na0_2, fa0_2⟩ : (Sl S_impl_Mux_0))⟩ : S_impl_Fleet) a1_0 y hy
  · cases h

/-! laws.heldFleetResult -/
def F_laws_heldFleetResult (fu : Nat) (a_0 : S_impl_FleetResult) (k_1 : Int) : Option (Int) :=
  ((F_laws_heldByteS fu a_0.Out k_1).bind fun y72 => (bif (decide (y72 < 0)) then (some (-1)) else ((F_laws_heldFleet fu a_0.Fleet y72).bind fun y73 => (bif (decide (y73 < 0)) then
    (some (-1)) else (some y73)))))
def pcf_laws_heldFleetResult (fu : Nat) (f : Nat) (xs : List (D RT den)) : Option (Out RT den) := match f with | 22 => S_laws_heldByteS fu xs | 30 => S_laws_heldFleet fu xs | _ => none
def pcx_laws_heldFleetResult (fu : Nat) (f : Nat) (xs : List (D RT den)) (ins : List (Ob RT den)) : Option (OutX RT den) := none
def pc_laws_heldFleetResult (fu : Nat) : Pc RT den := ⟨pcf_laws_heldFleetResult fu, fun _ => false, fun _ => false, pcx_laws_heldFleetResult fu⟩
def msk_laws_heldFleetResult (b : Nat) : List Nat := []
def lp_laws_heldFleetResult (fu : Nat) : Lp RT den (Int) := fun b s k => none
theorem ev_laws_heldFleetResult (fu : Nat) (a_0 : S_impl_FleetResult) (k_1 : Int) : evFun E (pc_laws_heldFleetResult fu) msk_laws_heldFleetResult (lp_laws_heldFleetResult fu) out_i64 14 [(.agg [(.int .i64 a_0.Code), (.int .i64 a_0.Why), (.int .i64 a_0.Name), (.rs a_0.Out.z .u8 a_0.Out.n a_0.Out.f), (.rs a_0.Fleet.Agreed.z .impl_Entry a_0.Fleet.Agreed.n a_0.Fleet.Agreed.f), (.rs a_0.Fleet.Muxes.z .impl_Mux a_0.Fleet.Muxes.n a_0.Fleet.Muxes.f)]), (.int .i64 k_1)] = F_laws_heldFleetResult fu a_0 k_1 := by kernel_rfl
noncomputable def body_laws_heldFleetResult : Code := Try.f14.body.getD .skip
theorem lpok_laws_heldFleetResult (fu : Nat) : LpOk E (pc_laws_heldFleetResult fu) msk_laws_heldFleetResult (lp_laws_heldFleetResult fu) (loops 0 body_laws_heldFleetResult) := by
  have h : loops 0 body_laws_heldFleetResult = [] := by kernel_rfl
  rw [h]; intro p hp; cases hp
def S_laws_heldFleetResult (fu : Nat) (xs : List (D RT den)) : Option (Out RT den) := match xs with | [.agg [.int .i64 a0_1, .int .i64 a0_2, .int .i64 a0_3, .rs za0_4 .u8 na0_4 fa0_4, .rs za0_6 .impl_Entry na0_6 fa0_6, .rs za0_7 .impl_Mux na0_7 fa0_7], .int .i64 a1_0] => some ⟨Int, F_laws_heldFleetResult fu (⟨a0_1, a0_2, a0_3, (⟨za0_4, na0_4, fa0_4⟩ : (Sl Int)), (⟨(⟨za0_6, na0_6, fa0_6⟩ : (Sl S_impl_Entry)), (⟨za0_7, na0_7, fa0_7⟩ : (Sl S_impl_Mux_0))⟩ : S_impl_Fleet)⟩ : S_impl_FleetResult) a1_0, enc_i64, fun _ => true⟩ | _ => none
theorem hpc_laws_heldFleetResult (fu : Nat) : ∀ f xs o, pcf_laws_heldFleetResult fu f xs = some o → ∀ y, o.x = some y → Good E Try.prog f xs (o.g y) := by
  intro f xs o h
  unfold pcf_laws_heldFleetResult at h
  split at h
  · exact good_laws_heldByteS fu xs o h
  · exact good_laws_heldFleet fu xs o h
  · cases h
theorem hpx_laws_heldFleetResult (fu : Nat) : ∀ f xs ins o, pcx_laws_heldFleetResult fu f xs ins = some o → ∀ y, o.x = some y → GoodX E Try.prog f xs ins (o.g y).1 (o.g y).2 := by
  intro f xs ins o h
  cases h
theorem goodv_laws_heldFleetResult (fu : Nat) (a_0 : S_impl_FleetResult) (k_1 : Int) (y : Int) (hy : F_laws_heldFleetResult fu a_0 k_1 = some y) : Good E Try.prog 14 [(.agg [(.int .i64 a_0.Code), (.int .i64 a_0.Why), (.int .i64 a_0.Name), (.rs a_0.Out.z .u8 a_0.Out.n a_0.Out.f), (.rs a_0.Fleet.Agreed.z .impl_Entry a_0.Fleet.Agreed.n a_0.Fleet.Agreed.f), (.rs a_0.Fleet.Muxes.z .impl_Mux a_0.Fleet.Muxes.n a_0.Fleet.Muxes.f)]), (.int .i64 k_1)] (enc_i64 y) :=
  fun_good E_ok (pc_good (pc := pc_laws_heldFleetResult fu) (hpc_laws_heldFleetResult fu) (hpx_laws_heldFleetResult fu)) (fn := Try.f14) (c := body_laws_heldFleetResult) (out := out_i64) (y := y) (by kernel_rfl) (by kernel_rfl) (by kernel_rfl) (lpok_laws_heldFleetResult fu) (fun d hd => out_i64_enc d _ hd) ((ev_laws_heldFleetResult fu a_0 k_1).trans hy)
theorem good_laws_heldFleetResult (fu : Nat) : ∀ xs o, S_laws_heldFleetResult fu xs = some o → ∀ y, o.x = some y → Good E Try.prog 14 xs (o.g y) := by
  intro xs o h y hy
  unfold S_laws_heldFleetResult at h
  split at h
  · rename_i a0_1 a0_2 a0_3 za0_4 na0_4 fa0_4 za0_6 na0_6 fa0_6 za0_7 na0_7 fa0_7 a1_0
    cases h
    exact goodv_laws_heldFleetResult fu (⟨a0_1, a0_2, a0_3, (⟨za0_4, na0_4, fa0_4⟩ : (Sl Int)), (⟨(⟨za0_6, na0_6, fa0_6⟩ : (Sl S_impl_Entry)), (⟨za0_7, na0_7, fa0_7⟩ : (Sl S_impl_Mux_0))⟩ : S_impl_Fleet)⟩ : S_impl_FleetResult) a1_0 y hy
  · cases h

/-! laws.FnExactNewFleet -/
def F_laws_FnExactNewFleet (fu : Nat) (aMuxes_0 : Int) : Option (Bool) :=
  ((F_spec_NewFleet_H fu aMuxes_0).bind fun y16 => ((F_impl_NewFleet_H fu aMuxes_0).bind fun y32 => ((F_laws_eqFleetResult fu (⟨y32.Code, y32.Why, y32.Name, (⟨none, y32.Out.n,
    y32.Out.f⟩ : (Sl Int)), (⟨(⟨none, y32.Fleet.Agreed.n, y32.Fleet.Agreed.f⟩ : (Sl S_impl_Entry)), (⟨none, y32.Fleet.Muxes.n, y32.Fleet.Muxes.f⟩ : (Sl S_impl_Mux_0))⟩ : S_impl_Fleet)⟩ : S_impl_FleetResult) (⟨y16.Code,
    y16.Why, y16.Name, (⟨none, y16.Out.n, y16.Out.f⟩ : (Sl Int)), (⟨(⟨none, y16.Fleet.Agreed.n, y16.Fleet.Agreed.f⟩ : (Sl S_impl_Entry)), (⟨none, y16.Fleet.Muxes.n,
    y16.Fleet.Muxes.f⟩ : (Sl S_impl_Mux_0))⟩ : S_impl_Fleet)⟩ : S_impl_FleetResult)).bind fun y33 => (bif (!y33) then (some false) else ((F_laws_markFleetResult_L fu y32.Code y32.Why y32.Name y32.Out.n y32.Fleet.Agreed.n y32.Fleet.Muxes.n 1 y32.Out.n y32.Out.f y32.Fleet.Agreed.n y32.Fleet.Agreed.f y32.Fleet.Muxes.n y32.Fleet.Muxes.f).bind fun y48 =>
    ((F_laws_heldFleetResult fu (⟨y32.Code, y32.Why, y32.Name, (⟨none, y32.Out.n, y48.2.1.2⟩ : (Sl Int)), (⟨(⟨none, y32.Fleet.Agreed.n, y48.2.2.1.2⟩ : (Sl S_impl_Entry)), (⟨none,
    y32.Fleet.Muxes.n, y48.2.2.2.2⟩ : (Sl S_impl_Mux_0))⟩ : S_impl_Fleet)⟩ : S_impl_FleetResult) 1).bind fun y49 => (bif (decide (y49 < 0)) then (some false) else (bif (y49 != y48.1) then
    (some false) else ((F_impl_NewFleet_H fu aMuxes_0).bind fun y50 => ((F_laws_eqFleetResult fu (⟨y50.Code, y50.Why, y50.Name, (⟨none, y50.Out.n, y50.Out.f⟩ : (Sl Int)), (⟨(⟨none,
    y50.Fleet.Agreed.n, y50.Fleet.Agreed.f⟩ : (Sl S_impl_Entry)), (⟨none, y50.Fleet.Muxes.n, y50.Fleet.Muxes.f⟩ : (Sl S_impl_Mux_0))⟩ : S_impl_Fleet)⟩ : S_impl_FleetResult) (⟨y16.Code,
    y16.Why, y16.Name, (⟨none, y16.Out.n, y16.Out.f⟩ : (Sl Int)), (⟨(⟨none, y16.Fleet.Agreed.n, y16.Fleet.Agreed.f⟩ : (Sl S_impl_Entry)), (⟨none, y16.Fleet.Muxes.n,
    y16.Fleet.Muxes.f⟩ : (Sl S_impl_Mux_0))⟩ : S_impl_Fleet)⟩ : S_impl_FleetResult)).bind fun y51 => (bif (!y51) then (some false) else ((F_laws_heldFleetResult fu (⟨y32.Code,
    y32.Why, y32.Name, (⟨none, y32.Out.n, y48.2.1.2⟩ : (Sl Int)), (⟨(⟨none, y32.Fleet.Agreed.n, y48.2.2.1.2⟩ : (Sl S_impl_Entry)), (⟨none, y32.Fleet.Muxes.n, y48.2.2.2.2⟩ : (Sl S_impl_Mux_0))⟩ : S_impl_Fleet)⟩ : S_impl_FleetResult) 1).bind fun y52 =>
    (bif (decide (y52 < 0)) then (some false) else (bif (y52 != y48.1) then (some false) else (some true)))))))))))))))
def pcf_laws_FnExactNewFleet (fu : Nat) (f : Nat) (xs : List (D RT den)) : Option (Out RT den) := match f with | 12 => S_laws_eqFleetResult fu xs | 14 => S_laws_heldFleetResult fu xs | _ => none
def pcx_laws_FnExactNewFleet (fu : Nat) (f : Nat) (xs : List (D RT den)) (ins : List (Ob RT den)) : Option (OutX RT den) := match f with | 10 => S_spec_NewFleet_H fu xs ins | 11 => S_impl_NewFleet_H fu xs ins | 13 => S_laws_markFleetResult_L fu xs ins | _ => none
def pc_laws_FnExactNewFleet (fu : Nat) : Pc RT den := ⟨pcf_laws_FnExactNewFleet fu, fun f => match f with | 10 => true | 11 => true | 13 => true | _ => false, fun f => match f with | 13 => true | _ => false, pcx_laws_FnExactNewFleet fu⟩
def msk_laws_FnExactNewFleet (b : Nat) : List Nat := []
def lp_laws_FnExactNewFleet (fu : Nat) : Lp RT den (Bool) := fun b s k => none
theorem ev_laws_FnExactNewFleet (fu : Nat) (aMuxes_0 : Int) : evFun E (pc_laws_FnExactNewFleet fu) msk_laws_FnExactNewFleet (lp_laws_FnExactNewFleet fu) out_bo 4 [(.int .i64 aMuxes_0)] = F_laws_FnExactNewFleet fu aMuxes_0 := by kernel_rfl
noncomputable def body_laws_FnExactNewFleet : Code := Try.f4.body.getD .skip
theorem lpok_laws_FnExactNewFleet (fu : Nat) : LpOk E (pc_laws_FnExactNewFleet fu) msk_laws_FnExactNewFleet (lp_laws_FnExactNewFleet fu) (loops 0 body_laws_FnExactNewFleet) := by
  have h : loops 0 body_laws_FnExactNewFleet = [] := by kernel_rfl
  rw [h]; intro p hp; cases hp
def S_laws_FnExactNewFleet (fu : Nat) (xs : List (D RT den)) : Option (Out RT den) := match xs with | [.int .i64 a0_0] => some ⟨Bool, F_laws_FnExactNewFleet fu a0_0, enc_bo, fun _ => true⟩ | _ => none
theorem hpc_laws_FnExactNewFleet (fu : Nat) : ∀ f xs o, pcf_laws_FnExactNewFleet fu f xs = some o → ∀ y, o.x = some y → Good E Try.prog f xs (o.g y) := by
  intro f xs o h
  unfold pcf_laws_FnExactNewFleet at h
  split at h
  · exact good_laws_eqFleetResult fu xs o h
  · exact good_laws_heldFleetResult fu xs o h
  · cases h
theorem hpx_laws_FnExactNewFleet (fu : Nat) : ∀ f xs ins o, pcx_laws_FnExactNewFleet fu f xs ins = some o → ∀ y, o.x = some y → GoodX E Try.prog f xs ins (o.g y).1 (o.g y).2 := by
  intro f xs ins o h
  unfold pcx_laws_FnExactNewFleet at h
  split at h
  · exact good_spec_NewFleet_H fu xs ins o h
  · exact good_impl_NewFleet_H fu xs ins o h
  · exact good_laws_markFleetResult_L fu xs ins o h
  · cases h
theorem goodv_laws_FnExactNewFleet (fu : Nat) (aMuxes_0 : Int) (y : Bool) (hy : F_laws_FnExactNewFleet fu aMuxes_0 = some y) : Good E Try.prog 4 [(.int .i64 aMuxes_0)] (enc_bo y) :=
  fun_good E_ok (pc_good (pc := pc_laws_FnExactNewFleet fu) (hpc_laws_FnExactNewFleet fu) (hpx_laws_FnExactNewFleet fu)) (fn := Try.f4) (c := body_laws_FnExactNewFleet) (out := out_bo) (y := y) (by kernel_rfl) (by kernel_rfl) (by kernel_rfl) (lpok_laws_FnExactNewFleet fu) (fun d hd => out_bo_enc d _ hd) ((ev_laws_FnExactNewFleet fu aMuxes_0).trans hy)
theorem good_laws_FnExactNewFleet (fu : Nat) : ∀ xs o, S_laws_FnExactNewFleet fu xs = some o → ∀ y, o.x = some y → Good E Try.prog 4 xs (o.g y) := by
  intro xs o h y hy
  unfold S_laws_FnExactNewFleet at h
  split at h
  · rename_i a0_0
    cases h
    exact goodv_laws_FnExactNewFleet fu a0_0 y hy
  · cases h
end Go.Proofs.Ytaghkcpgpjbdnaa.Pn
