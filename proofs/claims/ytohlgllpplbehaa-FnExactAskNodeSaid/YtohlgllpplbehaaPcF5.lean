/- The functions' evaluated forms, each a proved summary. Conditions: none. -/
import Derived.Test.YtohlgllpplbehaaPcF4
namespace Go.Proofs.Ytohlgllpplbehaa.Pc
open Go Go.RowKit Go.Proofs Vm
set_option linter.unusedVariables false
set_option linter.unusedSimpArgs false
set_option maxRecDepth 100000
/-! laws.heldEntryS -/
def F_laws_heldEntryS_B0 {ρ : Type} (fu : Nat) (a0_0 : (Sl S_impl_Entry)) (k0 : Int → Option ρ) (k1 : Int → Option ρ) (k1_1 : Int) (i5_2 : Int) (go : Int → Int → Option ρ) : Option ρ :=
  (bif (decide (i5_2 < ((a0_0.n : Nat) : Int))) then ((bif (decide (0 ≤ i5_2) && decide ((Int.toNat i5_2) < a0_0.n)) then some () else none : Option Unit).bind fun _ => (bif ((a0_0.f (Int.toNat i5_2)).Term != k1_1) then
    (k0 k1_1) else ((bif (decide (0 ≤ i5_2) && decide ((Int.toNat i5_2) < a0_0.n)) then some () else none : Option Unit).bind fun _ => (bif ((a0_0.f (Int.toNat i5_2)).Client != (IntKind.wrap .i64 (k1_1 + 1))) then
    (k0 (IntKind.wrap .i64 (k1_1 + 1))) else ((bif (decide (0 ≤ i5_2) && decide ((Int.toNat i5_2) < a0_0.n)) then some () else none : Option Unit).bind fun _ => (bif ((a0_0.f (Int.toNat i5_2)).Seq != (IntKind.wrap .i64 ((IntKind.wrap .i64 (k1_1 + 1)) + 1))) then
    (k0 (IntKind.wrap .i64 ((IntKind.wrap .i64 (k1_1 + 1)) + 1))) else ((bif (decide (0 ≤ i5_2) && decide ((Int.toNat i5_2) < a0_0.n)) then some () else none : Option Unit).bind fun _ =>
    (bif ((a0_0.f (Int.toNat i5_2)).Cmd.Kind != (IntKind.wrap .i64 ((IntKind.wrap .i64 ((IntKind.wrap .i64 (k1_1 + 1)) + 1)) + 1))) then (k0 (IntKind.wrap .i64 ((IntKind.wrap .i64 ((IntKind.wrap .i64 (k1_1 + 1)) + 1)) + 1))) else
    ((bif (decide (0 ≤ i5_2) && decide ((Int.toNat i5_2) < a0_0.n)) then some () else none : Option Unit).bind fun _ => (bif ((a0_0.f (Int.toNat i5_2)).Cmd.Expect != (IntKind.wrap .i64 ((IntKind.wrap .i64 ((IntKind.wrap .i64 ((IntKind.wrap .i64 (k1_1 + 1)) + 1)) + 1)) + 1))) then
    (k0 (IntKind.wrap .i64 ((IntKind.wrap .i64 ((IntKind.wrap .i64 ((IntKind.wrap .i64 (k1_1 + 1)) + 1)) + 1)) + 1))) else ((bif (decide (0 ≤ i5_2) && decide ((Int.toNat i5_2) < a0_0.n)) then
    some () else none : Option Unit).bind fun _ => (bif ((a0_0.f (Int.toNat i5_2)).Cmd.Name != (IntKind.wrap .i64 ((IntKind.wrap .i64 ((IntKind.wrap .i64 ((IntKind.wrap .i64 ((IntKind.wrap .i64 (k1_1 + 1)) + 1)) + 1)) + 1)) + 1))) then
    (k0 (IntKind.wrap .i64 ((IntKind.wrap .i64 ((IntKind.wrap .i64 ((IntKind.wrap .i64 ((IntKind.wrap .i64 (k1_1 + 1)) + 1)) + 1)) + 1)) + 1))) else ((bif (decide (0 ≤ i5_2) &&
    decide ((Int.toNat i5_2) < a0_0.n)) then some () else none : Option Unit).bind fun _ => (bif ((a0_0.f (Int.toNat i5_2)).Cmd.Addr != (IntKind.wrap .i64 ((IntKind.wrap .i64 ((IntKind.wrap .i64 ((IntKind.wrap .i64 ((IntKind.wrap .i64 ((IntKind.wrap .i64 (k1_1 + 1)) + 1)) + 1)) + 1)) + 1)) + 1))) then
    (k0 (IntKind.wrap .i64 ((IntKind.wrap .i64 ((IntKind.wrap .i64 ((IntKind.wrap .i64 ((IntKind.wrap .i64 ((IntKind.wrap .i64 (k1_1 + 1)) + 1)) + 1)) + 1)) + 1)) + 1))) else ((bif (decide (0 ≤ i5_2) &&
    decide ((Int.toNat i5_2) < a0_0.n)) then some () else none : Option Unit).bind fun _ => (bif ((a0_0.f (Int.toNat i5_2)).Cmd.Number != (IntKind.wrap .i64 ((IntKind.wrap .i64 ((IntKind.wrap .i64 ((IntKind.wrap .i64 ((IntKind.wrap .i64 ((IntKind.wrap .i64 ((IntKind.wrap .i64 (k1_1 + 1)) + 1)) + 1)) + 1)) + 1)) + 1)) + 1))) then
    (k0 (IntKind.wrap .i64 ((IntKind.wrap .i64 ((IntKind.wrap .i64 ((IntKind.wrap .i64 ((IntKind.wrap .i64 ((IntKind.wrap .i64 ((IntKind.wrap .i64 (k1_1 + 1)) + 1)) + 1)) + 1)) + 1)) + 1)) + 1))) else
    ((bif (decide (0 ≤ i5_2) && decide ((Int.toNat i5_2) < a0_0.n)) then some () else none : Option Unit).bind fun _ => (bif ((a0_0.f (Int.toNat i5_2)).Cmd.Proto != (IntKind.wrap .i64 ((IntKind.wrap .i64 ((IntKind.wrap .i64 ((IntKind.wrap .i64 ((IntKind.wrap .i64 ((IntKind.wrap .i64 ((IntKind.wrap .i64 ((IntKind.wrap .i64 (k1_1 + 1)) + 1)) + 1)) + 1)) + 1)) + 1)) + 1)) + 1))) then
    (k0 (IntKind.wrap .i64 ((IntKind.wrap .i64 ((IntKind.wrap .i64 ((IntKind.wrap .i64 ((IntKind.wrap .i64 ((IntKind.wrap .i64 ((IntKind.wrap .i64 ((IntKind.wrap .i64 (k1_1 + 1)) + 1)) + 1)) + 1)) + 1)) + 1)) + 1)) + 1))) else
    (go (IntKind.wrap .i64 ((IntKind.wrap .i64 ((IntKind.wrap .i64 ((IntKind.wrap .i64 ((IntKind.wrap .i64 ((IntKind.wrap .i64 ((IntKind.wrap .i64 ((IntKind.wrap .i64 ((IntKind.wrap .i64 (k1_1 + 1)) + 1)) + 1)) + 1)) + 1)) + 1)) + 1)) + 1)) + 1)) (IntKind.wrap .i64 (i5_2 + 1))))))))))))))))))))) else
    (k1 k1_1))
def F_laws_heldEntryS (fu : Nat) (a_0 : (Sl S_impl_Entry)) (k_1 : Int) : Option (Int) :=
  (L (fun w0 go0 => F_laws_heldEntryS_B0 fu a_0 (fun z310 => (some (-1))) (fun z311 => (some z311)) w0.1 w0.2 (fun q0 q1 => go0 (q0, q1))) fu ((k_1, 0) : Int × Int))
def pcf_laws_heldEntryS (fu : Nat) (f : Nat) (xs : List (D RT den)) : Option (Out RT den) := none
def pcx_laws_heldEntryS (fu : Nat) (f : Nat) (xs : List (D RT den)) (ins : List (Ob RT den)) : Option (OutX RT den) := none
def pc_laws_heldEntryS (fu : Nat) : Pc RT den := ⟨pcf_laws_heldEntryS fu, fun _ => false, fun _ => false, pcx_laws_heldEntryS fu⟩
def msk_laws_heldEntryS (b : Nat) : List Nat := match b with | 0 => [2, 3, 4, 6, 7, 8, 9, 10, 11, 12, 13, 14, 15, 16, 17, 18, 19, 20, 21, 22, 23, 24, 25, 26, 27, 28, 29, 30, 31, 32, 33, 34, 35, 36, 37, 38, 39, 40, 41, 42, 43, 44, 45, 46, 47, 48, 49, 50, 51, 52, 53, 54, 55, 56, 57, 58, 59, 60, 61, 62, 63, 64, 65, 66, 67, 68, 69, 70, 71, 72, 73, 74, 75, 76, 77, 78, 79, 80, 81, 82, 83, 84, 85, 86, 87, 88, 89, 90, 91, 92, 93, 94, 95, 96, 97, 98, 99] | 100000 => [0, 2, 3, 5, 6, 7, 8, 9, 10, 11, 12, 13, 14, 15, 16, 17, 18, 19, 20, 21, 22, 23, 24, 25, 26, 27, 28, 29, 30, 31, 32, 33, 34, 35, 36, 37, 38, 39, 40, 41, 42, 43, 44, 45, 46, 47, 48, 49, 50, 51, 52, 53, 54, 55, 56, 57, 58, 59, 60, 61, 62, 63, 64, 65, 66, 67, 68, 69, 70, 71, 72, 73, 74, 75, 76, 77, 78, 79, 80, 81, 82, 83, 84, 85, 86, 87, 88, 89, 90, 91, 92, 93, 94, 95, 96, 97, 98, 99] | _ => []
def ps_laws_heldEntryS_0 : List (Pat RT) := [.flat (.rs .impl_Entry), .flat (.int .i64), .flat .dead, .flat .dead, .flat .dead, .flat (.int .i64), .flat .dead, .flat .dead, .flat .dead, .flat .dead, .flat .dead, .flat .dead, .flat .dead, .flat .dead, .flat .dead, .flat .dead, .flat .dead, .flat .dead, .flat .dead, .flat .dead, .flat .dead, .flat .dead, .flat .dead, .flat .dead, .flat .dead, .flat .dead, .flat .dead, .flat .dead, .flat .dead, .flat .dead, .flat .dead, .flat .dead, .flat .dead, .flat .dead, .flat .dead, .flat .dead, .flat .dead, .flat .dead, .flat .dead, .flat .dead, .flat .dead, .flat .dead, .flat .dead, .flat .dead, .flat .dead, .flat .dead, .flat .dead, .flat .dead, .flat .dead, .flat .dead, .flat .dead, .flat .dead, .flat .dead, .flat .dead, .flat .dead, .flat .dead, .flat .dead, .flat .dead, .flat .dead, .flat .dead, .flat .dead, .flat .dead, .flat .dead, .flat .dead, .flat .dead, .flat .dead, .flat .dead, .flat .dead, .flat .dead, .flat .dead, .flat .dead, .flat .dead, .flat .dead, .flat .dead, .flat .dead, .flat .dead, .flat .dead, .flat .dead, .flat .dead, .flat .dead, .flat .dead, .flat .dead, .flat .dead, .flat .dead, .flat .dead, .flat .dead, .flat .dead, .flat .dead, .flat .dead, .flat .dead, .flat .dead, .flat .dead, .flat .dead, .flat .dead, .flat .dead, .flat .dead, .flat .dead, .flat .dead, .flat .dead, .flat .dead]
def os_laws_heldEntryS_0 : List (OP RT) := []
def conv_laws_heldEntryS_0 (r : Raw den ps_laws_heldEntryS_0 os_laws_heldEntryS_0) : ((Sl S_impl_Entry)) × (Int × Int) := (r.1.1, (r.1.2.1, r.1.2.2.2.2.2.1))
def back_laws_heldEntryS_0 (c : (Sl S_impl_Entry)) (w : Int × Int) : St RT den := ⟨[(.rs c.z .impl_Entry c.n c.f), (.int .i64 w.1), .dead, .dead, .dead, (.int .i64 w.2), .dead, .dead, .dead, .dead, .dead, .dead, .dead, .dead, .dead, .dead, .dead, .dead, .dead, .dead, .dead, .dead, .dead, .dead, .dead, .dead, .dead, .dead, .dead, .dead, .dead, .dead, .dead, .dead, .dead, .dead, .dead, .dead, .dead, .dead, .dead, .dead, .dead, .dead, .dead, .dead, .dead, .dead, .dead, .dead, .dead, .dead, .dead, .dead, .dead, .dead, .dead, .dead, .dead, .dead, .dead, .dead, .dead, .dead, .dead, .dead, .dead, .dead, .dead, .dead, .dead, .dead, .dead, .dead, .dead, .dead, .dead, .dead, .dead, .dead, .dead, .dead, .dead, .dead, .dead, .dead, .dead, .dead, .dead, .dead, .dead, .dead, .dead, .dead, .dead, .dead, .dead, .dead, .dead, .dead], []⟩
def Bk_laws_heldEntryS_0 {ρ : Type} (fu : Nat) (c : (Sl S_impl_Entry)) (k : Ex → St RT den → Option ρ) (w : Int × Int) (go : (Int × Int) → Option ρ) : Option ρ := F_laws_heldEntryS_B0 fu c (fun a0 => k .ret ⟨[.dead, (.int .i64 a0), .dead, .dead, (.int .i64 (-1)), .dead, .dead, .dead, .dead, .dead, .dead, .dead, .dead, .dead, .dead, .dead, .dead, .dead, .dead, .dead, .dead, .dead, .dead, .dead, .dead, .dead, .dead, .dead, .dead, .dead, .dead, .dead, .dead, .dead, .dead, .dead, .dead, .dead, .dead, .dead, .dead, .dead, .dead, .dead, .dead, .dead, .dead, .dead, .dead, .dead, .dead, .dead, .dead, .dead, .dead, .dead, .dead, .dead, .dead, .dead, .dead, .dead, .dead, .dead, .dead, .dead, .dead, .dead, .dead, .dead, .dead, .dead, .dead, .dead, .dead, .dead, .dead, .dead, .dead, .dead, .dead, .dead, .dead, .dead, .dead, .dead, .dead, .dead, .dead, .dead, .dead, .dead, .dead, .dead, .dead, .dead, .dead, .dead, .dead, .dead], []⟩) (fun a0 => k (.exit 0) ⟨[.dead, (.int .i64 a0), .dead, .dead, .dead, .dead, .dead, .dead, .dead, .dead, .dead, .dead, .dead, .dead, .dead, .dead, .dead, .dead, .dead, .dead, .dead, .dead, .dead, .dead, .dead, .dead, .dead, .dead, .dead, .dead, .dead, .dead, .dead, .dead, .dead, .dead, .dead, .dead, .dead, .dead, .dead, .dead, .dead, .dead, .dead, .dead, .dead, .dead, .dead, .dead, .dead, .dead, .dead, .dead, .dead, .dead, .dead, .dead, .dead, .dead, .dead, .dead, .dead, .dead, .dead, .dead, .dead, .dead, .dead, .dead, .dead, .dead, .dead, .dead, .dead, .dead, .dead, .dead, .dead, .dead, .dead, .dead, .dead, .dead, .dead, .dead, .dead, .dead, .dead, .dead, .dead, .dead, .dead, .dead, .dead, .dead, .dead, .dead, .dead, .dead], []⟩) w.1 w.2 (fun q0 q1 => go (q0, q1))
def lp_laws_heldEntryS (fu : Nat) : Lp RT den (Int) := fun b s k => match b with | 0 => handle ps_laws_heldEntryS_0 os_laws_heldEntryS_0 conv_laws_heldEntryS_0 (Bk_laws_heldEntryS_0 fu) fu s k | _ => none
theorem ev_laws_heldEntryS (fu : Nat) (a_0 : (Sl S_impl_Entry)) (k_1 : Int) : evFun E (pc_laws_heldEntryS fu) msk_laws_heldEntryS (lp_laws_heldEntryS fu) out_i64 98 [(.rs a_0.z .impl_Entry a_0.n a_0.f), (.int .i64 k_1)] = F_laws_heldEntryS fu a_0 k_1 := by kernel_rfl
noncomputable def body_laws_heldEntryS : Code := Try.f98.body.getD .skip
noncomputable def lc_laws_heldEntryS_0 : Code := ((loops 0 body_laws_heldEntryS).getD 0 (0, .skip)).2
theorem round_laws_heldEntryS_0 (fu : Nat) (it : St RT den → Option (Int)) (k : Ex → St RT den → Option (Int)) c w : evCode E (pc_laws_heldEntryS fu) msk_laws_heldEntryS (lp_laws_heldEntryS fu) 0 lc_laws_heldEntryS_0 (back_laws_heldEntryS_0 c w) (after (msk_laws_heldEntryS 0) (msk_laws_heldEntryS 100000) 0 it k) = Bk_laws_heldEntryS_0 fu c k w (fun w => it (back_laws_heldEntryS_0 c w)) := by kernel_rfl
theorem lpok_laws_heldEntryS_0 (fu : Nat) : ∀ s k r, lp_laws_heldEntryS fu 0 s k = some r → ∃ fuel, iter (msk_laws_heldEntryS 0) (msk_laws_heldEntryS 100000) s.objs.length (evCode E (pc_laws_heldEntryS fu) msk_laws_heldEntryS (lp_laws_heldEntryS fu) 0 lc_laws_heldEntryS_0) fuel s k = some r :=
  handle_ok (ps := ps_laws_heldEntryS_0) (os := os_laws_heldEntryS_0) (conv := conv_laws_heldEntryS_0) (B := Bk_laws_heldEntryS_0 fu) (fu := fu) back_laws_heldEntryS_0 (fun raw => by kernel_rfl) 0 (fun c w => by kernel_rfl) (round_laws_heldEntryS_0 fu)
theorem lpok_laws_heldEntryS (fu : Nat) : LpOk E (pc_laws_heldEntryS fu) msk_laws_heldEntryS (lp_laws_heldEntryS fu) (loops 0 body_laws_heldEntryS) := loop_all 1 (by kernel_rfl) fun i hi => match i, hi with
  | 0, _ => by
    have h : (loops 0 body_laws_heldEntryS).getD 0 (0, .skip) = (0, lc_laws_heldEntryS_0) := by kernel_rfl
    rw [h]; exact lpok_laws_heldEntryS_0 fu
  | i + 1, hi => absurd hi (by omega)
def S_laws_heldEntryS (fu : Nat) (xs : List (D RT den)) : Option (Out RT den) := match xs with | [.rs za0_0 .impl_Entry na0_0 fa0_0, .int .i64 a1_0] => some ⟨Int, F_laws_heldEntryS fu (⟨za0_0, na0_0, fa0_0⟩ : (Sl S_impl_Entry)) a1_0, enc_i64, fun _ => true⟩ | _ => none
theorem hpc_laws_heldEntryS (fu : Nat) : ∀ f xs o, pcf_laws_heldEntryS fu f xs = some o → ∀ y, o.x = some y → Good E Try.prog f xs (o.g y) := by
  intro f xs o h
  cases h
theorem hpx_laws_heldEntryS (fu : Nat) : ∀ f xs ins o, pcx_laws_heldEntryS fu f xs ins = some o → ∀ y, o.x = some y → GoodX E Try.prog f xs ins (o.g y).1 (o.g y).2 := by
  intro f xs ins o h
  cases h
theorem goodv_laws_heldEntryS (fu : Nat) (a_0 : (Sl S_impl_Entry)) (k_1 : Int) (y : Int) (hy : F_laws_heldEntryS fu a_0 k_1 = some y) : Good E Try.prog 98 [(.rs a_0.z .impl_Entry a_0.n a_0.f), (.int .i64 k_1)] (enc_i64 y) :=
  fun_good E_ok (pc_good (pc := pc_laws_heldEntryS fu) (hpc_laws_heldEntryS fu) (hpx_laws_heldEntryS fu)) (fn := Try.f98) (c := body_laws_heldEntryS) (out := out_i64) (y := y) (by kernel_rfl) (by kernel_rfl) (by kernel_rfl) (lpok_laws_heldEntryS fu) (fun d hd => out_i64_enc d _ hd) ((ev_laws_heldEntryS fu a_0 k_1).trans hy)
theorem good_laws_heldEntryS (fu : Nat) : ∀ xs o, S_laws_heldEntryS fu xs = some o → ∀ y, o.x = some y → Good E Try.prog 98 xs (o.g y) := by
  intro xs o h y hy
  unfold S_laws_heldEntryS at h
  split at h
  · rename_i za0_0 na0_0 fa0_0 a1_0
    cases h
    exact goodv_laws_heldEntryS fu (⟨za0_0, na0_0, fa0_0⟩ : (Sl S_impl_Entry)) a1_0 y hy
  · cases h

/-! laws.heldInt64S -/
def F_laws_heldInt64S_B0 {ρ : Type} (fu : Nat) (a0_0 : (Sl Int)) (k0 : Int → Option ρ) (k1 : Int → Option ρ) (k1_1 : Int) (i5_2 : Int) (go : Int → Int → Option ρ) : Option ρ :=
  (bif (decide (i5_2 < ((a0_0.n : Nat) : Int))) then ((bif (decide (0 ≤ i5_2) && decide ((Int.toNat i5_2) < a0_0.n)) then some () else none : Option Unit).bind fun _ => (bif ((a0_0.f (Int.toNat i5_2)) != k1_1) then
    (k0 k1_1) else (go (IntKind.wrap .i64 (k1_1 + 1)) (IntKind.wrap .i64 (i5_2 + 1))))) else (k1 k1_1))
def F_laws_heldInt64S (fu : Nat) (a_0 : (Sl Int)) (k_1 : Int) : Option (Int) :=
  (L (fun w0 go0 => F_laws_heldInt64S_B0 fu a_0 (fun z312 => (some (-1))) (fun z313 => (some z313)) w0.1 w0.2 (fun q0 q1 => go0 (q0, q1))) fu ((k_1, 0) : Int × Int))
def pcf_laws_heldInt64S (fu : Nat) (f : Nat) (xs : List (D RT den)) : Option (Out RT den) := none
def pcx_laws_heldInt64S (fu : Nat) (f : Nat) (xs : List (D RT den)) (ins : List (Ob RT den)) : Option (OutX RT den) := none
def pc_laws_heldInt64S (fu : Nat) : Pc RT den := ⟨pcf_laws_heldInt64S fu, fun _ => false, fun _ => false, pcx_laws_heldInt64S fu⟩
def msk_laws_heldInt64S (b : Nat) : List Nat := match b with | 0 => [2, 3, 4, 6, 7, 8, 9, 10, 11, 12, 13, 14, 15, 16, 17, 18, 19, 20] | 100000 => [0, 2, 3, 5, 6, 7, 8, 9, 10, 11, 12, 13, 14, 15, 16, 17, 18, 19, 20] | _ => []
def ps_laws_heldInt64S_0 : List (Pat RT) := [.flat (.rs .i64), .flat (.int .i64), .flat .dead, .flat .dead, .flat .dead, .flat (.int .i64), .flat .dead, .flat .dead, .flat .dead, .flat .dead, .flat .dead, .flat .dead, .flat .dead, .flat .dead, .flat .dead, .flat .dead, .flat .dead, .flat .dead, .flat .dead, .flat .dead, .flat .dead]
def os_laws_heldInt64S_0 : List (OP RT) := []
def conv_laws_heldInt64S_0 (r : Raw den ps_laws_heldInt64S_0 os_laws_heldInt64S_0) : ((Sl Int)) × (Int × Int) := (r.1.1, (r.1.2.1, r.1.2.2.2.2.2.1))
def back_laws_heldInt64S_0 (c : (Sl Int)) (w : Int × Int) : St RT den := ⟨[(.rs c.z .i64 c.n c.f), (.int .i64 w.1), .dead, .dead, .dead, (.int .i64 w.2), .dead, .dead, .dead, .dead, .dead, .dead, .dead, .dead, .dead, .dead, .dead, .dead, .dead, .dead, .dead], []⟩
def Bk_laws_heldInt64S_0 {ρ : Type} (fu : Nat) (c : (Sl Int)) (k : Ex → St RT den → Option ρ) (w : Int × Int) (go : (Int × Int) → Option ρ) : Option ρ := F_laws_heldInt64S_B0 fu c (fun a0 => k .ret ⟨[.dead, (.int .i64 a0), .dead, .dead, (.int .i64 (-1)), .dead, .dead, .dead, .dead, .dead, .dead, .dead, .dead, .dead, .dead, .dead, .dead, .dead, .dead, .dead, .dead], []⟩) (fun a0 => k (.exit 0) ⟨[.dead, (.int .i64 a0), .dead, .dead, .dead, .dead, .dead, .dead, .dead, .dead, .dead, .dead, .dead, .dead, .dead, .dead, .dead, .dead, .dead, .dead, .dead], []⟩) w.1 w.2 (fun q0 q1 => go (q0, q1))
def lp_laws_heldInt64S (fu : Nat) : Lp RT den (Int) := fun b s k => match b with | 0 => handle ps_laws_heldInt64S_0 os_laws_heldInt64S_0 conv_laws_heldInt64S_0 (Bk_laws_heldInt64S_0 fu) fu s k | _ => none
theorem ev_laws_heldInt64S (fu : Nat) (a_0 : (Sl Int)) (k_1 : Int) : evFun E (pc_laws_heldInt64S fu) msk_laws_heldInt64S (lp_laws_heldInt64S fu) out_i64 99 [(.rs a_0.z .i64 a_0.n a_0.f), (.int .i64 k_1)] = F_laws_heldInt64S fu a_0 k_1 := by kernel_rfl
noncomputable def body_laws_heldInt64S : Code := Try.f99.body.getD .skip
noncomputable def lc_laws_heldInt64S_0 : Code := ((loops 0 body_laws_heldInt64S).getD 0 (0, .skip)).2
theorem round_laws_heldInt64S_0 (fu : Nat) (it : St RT den → Option (Int)) (k : Ex → St RT den → Option (Int)) c w : evCode E (pc_laws_heldInt64S fu) msk_laws_heldInt64S (lp_laws_heldInt64S fu) 0 lc_laws_heldInt64S_0 (back_laws_heldInt64S_0 c w) (after (msk_laws_heldInt64S 0) (msk_laws_heldInt64S 100000) 0 it k) = Bk_laws_heldInt64S_0 fu c k w (fun w => it (back_laws_heldInt64S_0 c w)) := by kernel_rfl
theorem lpok_laws_heldInt64S_0 (fu : Nat) : ∀ s k r, lp_laws_heldInt64S fu 0 s k = some r → ∃ fuel, iter (msk_laws_heldInt64S 0) (msk_laws_heldInt64S 100000) s.objs.length (evCode E (pc_laws_heldInt64S fu) msk_laws_heldInt64S (lp_laws_heldInt64S fu) 0 lc_laws_heldInt64S_0) fuel s k = some r :=
  handle_ok (ps := ps_laws_heldInt64S_0) (os := os_laws_heldInt64S_0) (conv := conv_laws_heldInt64S_0) (B := Bk_laws_heldInt64S_0 fu) (fu := fu) back_laws_heldInt64S_0 (fun raw => by kernel_rfl) 0 (fun c w => by kernel_rfl) (round_laws_heldInt64S_0 fu)
theorem lpok_laws_heldInt64S (fu : Nat) : LpOk E (pc_laws_heldInt64S fu) msk_laws_heldInt64S (lp_laws_heldInt64S fu) (loops 0 body_laws_heldInt64S) := loop_all 1 (by kernel_rfl) fun i hi => match i, hi with
  | 0, _ => by
    have h : (loops 0 body_laws_heldInt64S).getD 0 (0, .skip) = (0, lc_laws_heldInt64S_0) := by kernel_rfl
    rw [h]; exact lpok_laws_heldInt64S_0 fu
  | i + 1, hi => absurd hi (by omega)
def S_laws_heldInt64S (fu : Nat) (xs : List (D RT den)) : Option (Out RT den) := match xs with | [.rs za0_0 .i64 na0_0 fa0_0, .int .i64 a1_0] => some ⟨Int, F_laws_heldInt64S fu (⟨za0_0, na0_0, fa0_0⟩ : (Sl Int)) a1_0, enc_i64, fun _ => true⟩ | _ => none
theorem hpc_laws_heldInt64S (fu : Nat) : ∀ f xs o, pcf_laws_heldInt64S fu f xs = some o → ∀ y, o.x = some y → Good E Try.prog f xs (o.g y) := by
  intro f xs o h
  cases h
theorem hpx_laws_heldInt64S (fu : Nat) : ∀ f xs ins o, pcx_laws_heldInt64S fu f xs ins = some o → ∀ y, o.x = some y → GoodX E Try.prog f xs ins (o.g y).1 (o.g y).2 := by
  intro f xs ins o h
  cases h
theorem goodv_laws_heldInt64S (fu : Nat) (a_0 : (Sl Int)) (k_1 : Int) (y : Int) (hy : F_laws_heldInt64S fu a_0 k_1 = some y) : Good E Try.prog 99 [(.rs a_0.z .i64 a_0.n a_0.f), (.int .i64 k_1)] (enc_i64 y) :=
  fun_good E_ok (pc_good (pc := pc_laws_heldInt64S fu) (hpc_laws_heldInt64S fu) (hpx_laws_heldInt64S fu)) (fn := Try.f99) (c := body_laws_heldInt64S) (out := out_i64) (y := y) (by kernel_rfl) (by kernel_rfl) (by kernel_rfl) (lpok_laws_heldInt64S fu) (fun d hd => out_i64_enc d _ hd) ((ev_laws_heldInt64S fu a_0 k_1).trans hy)
theorem good_laws_heldInt64S (fu : Nat) : ∀ xs o, S_laws_heldInt64S fu xs = some o → ∀ y, o.x = some y → Good E Try.prog 99 xs (o.g y) := by
  intro xs o h y hy
  unfold S_laws_heldInt64S at h
  split at h
  · rename_i za0_0 na0_0 fa0_0 a1_0
    cases h
    exact goodv_laws_heldInt64S fu (⟨za0_0, na0_0, fa0_0⟩ : (Sl Int)) a1_0 y hy
  · cases h

/-! laws.heldNode -/
def F_laws_heldNode (fu : Nat) (a_0 : S_impl_Node) (k_1 : Int) : Option (Int) :=
  ((F_laws_heldEntryS fu a_0.Log k_1).bind fun y306 => (bif (decide (y306 < 0)) then (some (-1)) else ((F_laws_heldInt64S fu a_0.Votes y306).bind fun y307 => (bif (decide (y307 < 0)) then
    (some (-1)) else ((F_laws_heldInt64S fu a_0.Next y307).bind fun y308 => (bif (decide (y308 < 0)) then (some (-1)) else ((F_laws_heldInt64S fu a_0.Match y308).bind fun y309 =>
    (bif (decide (y309 < 0)) then (some (-1)) else (some y309)))))))))
def pcf_laws_heldNode (fu : Nat) (f : Nat) (xs : List (D RT den)) : Option (Out RT den) := match f with | 98 => S_laws_heldEntryS fu xs | 99 => S_laws_heldInt64S fu xs | _ => none
def pcx_laws_heldNode (fu : Nat) (f : Nat) (xs : List (D RT den)) (ins : List (Ob RT den)) : Option (OutX RT den) := none
def pc_laws_heldNode (fu : Nat) : Pc RT den := ⟨pcf_laws_heldNode fu, fun _ => false, fun _ => false, pcx_laws_heldNode fu⟩
def msk_laws_heldNode (b : Nat) : List Nat := []
def lp_laws_heldNode (fu : Nat) : Lp RT den (Int) := fun b s k => none
theorem ev_laws_heldNode (fu : Nat) (a_0 : S_impl_Node) (k_1 : Int) : evFun E (pc_laws_heldNode fu) msk_laws_heldNode (lp_laws_heldNode fu) out_i64 55 [(.agg [(.int .i64 a_0.Id), (.int .i64 a_0.Peers), (.int .i64 a_0.Term), (.int .i64 a_0.Voted), (.rs a_0.Log.z .impl_Entry a_0.Log.n a_0.Log.f), (.int .i64 a_0.Role), (.int .i64 a_0.Commit), (.rs a_0.Votes.z .i64 a_0.Votes.n a_0.Votes.f), (.rs a_0.Next.z .i64 a_0.Next.n a_0.Next.f), (.rs a_0.Match.z .i64 a_0.Match.n a_0.Match.f)]), (.int .i64 k_1)] = F_laws_heldNode fu a_0 k_1 := by kernel_rfl
noncomputable def body_laws_heldNode : Code := Try.f55.body.getD .skip
theorem lpok_laws_heldNode (fu : Nat) : LpOk E (pc_laws_heldNode fu) msk_laws_heldNode (lp_laws_heldNode fu) (loops 0 body_laws_heldNode) := by
  have h : loops 0 body_laws_heldNode = [] := by kernel_rfl
  rw [h]; intro p hp; cases hp
def S_laws_heldNode (fu : Nat) (xs : List (D RT den)) : Option (Out RT den) := match xs with | [.agg [.int .i64 a0_1, .int .i64 a0_2, .int .i64 a0_3, .int .i64 a0_4, .rs za0_5 .impl_Entry na0_5 fa0_5, .int .i64 a0_6, .int .i64 a0_7, .rs za0_8 .i64 na0_8 fa0_8, .rs za0_9 .i64 na0_9 fa0_9, .rs za0_10 .i64 na0_10 fa0_10], .int .i64 a1_0] => some ⟨Int, F_laws_heldNode fu (⟨a0_1, a0_2, a0_3, a0_4, (⟨za0_5, na0_5, fa0_5⟩ : (Sl S_impl_Entry)), a0_6, a0_7, (⟨za0_8, na0_8, fa0_8⟩ : (Sl Int)), (⟨za0_9, na0_9, fa0_9⟩ : (Sl Int)), (⟨za0_10, na0_10, fa0_10⟩ : (Sl Int))⟩ : S_impl_Node) a1_0, enc_i64, fun _ => true⟩ | _ => none
theorem hpc_laws_heldNode (fu : Nat) : ∀ f xs o, pcf_laws_heldNode fu f xs = some o → ∀ y, o.x = some y → Good E Try.prog f xs (o.g y) := by
  intro f xs o h
  unfold pcf_laws_heldNode at h
  split at h
  · exact good_laws_heldEntryS fu xs o h
  · exact good_laws_heldInt64S fu xs o h
  · cases h
theorem hpx_laws_heldNode (fu : Nat) : ∀ f xs ins o, pcx_laws_heldNode fu f xs ins = some o → ∀ y, o.x = some y → GoodX E Try.prog f xs ins (o.g y).1 (o.g y).2 := by
  intro f xs ins o h
  cases h
theorem goodv_laws_heldNode (fu : Nat) (a_0 : S_impl_Node) (k_1 : Int) (y : Int) (hy : F_laws_heldNode fu a_0 k_1 = some y) : Good E Try.prog 55 [(.agg [(.int .i64 a_0.Id), (.int .i64 a_0.Peers), (.int .i64 a_0.Term), (.int .i64 a_0.Voted), (.rs a_0.Log.z .impl_Entry a_0.Log.n a_0.Log.f), (.int .i64 a_0.Role), (.int .i64 a_0.Commit), (.rs a_0.Votes.z .i64 a_0.Votes.n a_0.Votes.f), (.rs a_0.Next.z .i64 a_0.Next.n a_0.Next.f), (.rs a_0.Match.z .i64 a_0.Match.n a_0.Match.f)]), (.int .i64 k_1)] (enc_i64 y) :=
  fun_good E_ok (pc_good (pc := pc_laws_heldNode fu) (hpc_laws_heldNode fu) (hpx_laws_heldNode fu)) (fn := Try.f55) (c := body_laws_heldNode) (out := out_i64) (y := y) (by kernel_rfl) (by kernel_rfl) (by kernel_rfl) (lpok_laws_heldNode fu) (fun d hd => out_i64_enc d _ hd) ((ev_laws_heldNode fu a_0 k_1).trans hy)
theorem good_laws_heldNode (fu : Nat) : ∀ xs o, S_laws_heldNode fu xs = some o → ∀ y, o.x = some y → Good E Try.prog 55 xs (o.g y) := by
  intro xs o h y hy
  unfold S_laws_heldNode at h
  split at h
  · rename_i a0_1 a0_2 a0_3 a0_4 za0_5 na0_5 fa0_5 a0_6 a0_7 za0_8 na0_8 fa0_8 za0_9 na0_9 fa0_9 za0_10 na0_10 fa0_10 a1_0
    cases h
    exact goodv_laws_heldNode fu (⟨a0_1, a0_2, a0_3, a0_4, (⟨za0_5, na0_5, fa0_5⟩ : (Sl S_impl_Entry)), a0_6, a0_7, (⟨za0_8, na0_8, fa0_8⟩ : (Sl Int)), (⟨za0_9, na0_9, fa0_9⟩ : (Sl Int)), (⟨za0_10, na0_10, fa0_10⟩ : (Sl Int))⟩ : S_impl_Node) a1_0 y hy
  · cases h

/-! laws.heldMailS -/
def F_laws_heldMailS_B0 {ρ : Type} (fu : Nat) (a0_0 : (Sl S_impl_Mail)) (k0 : Int → Option ρ) (k1 : Int → Option ρ) (k1_1 : Int) (i5_2 : Int) (go : Int → Int → Option ρ) : Option ρ :=
  (bif (decide (i5_2 < ((a0_0.n : Nat) : Int))) then ((bif (decide (0 ≤ i5_2) && decide ((Int.toNat i5_2) < a0_0.n)) then some () else none : Option Unit).bind fun _ => (bif ((a0_0.f (Int.toNat i5_2)).Kind != k1_1) then
    (k0 k1_1) else ((bif (decide (0 ≤ i5_2) && decide ((Int.toNat i5_2) < a0_0.n)) then some () else none : Option Unit).bind fun _ => (bif ((a0_0.f (Int.toNat i5_2)).From != (IntKind.wrap .i64 (k1_1 + 1))) then
    (k0 (IntKind.wrap .i64 (k1_1 + 1))) else ((bif (decide (0 ≤ i5_2) && decide ((Int.toNat i5_2) < a0_0.n)) then some () else none : Option Unit).bind fun _ => (bif ((a0_0.f (Int.toNat i5_2)).To != (IntKind.wrap .i64 ((IntKind.wrap .i64 (k1_1 + 1)) + 1))) then
    (k0 (IntKind.wrap .i64 ((IntKind.wrap .i64 (k1_1 + 1)) + 1))) else ((bif (decide (0 ≤ i5_2) && decide ((Int.toNat i5_2) < a0_0.n)) then some () else none : Option Unit).bind fun _ =>
    (bif ((a0_0.f (Int.toNat i5_2)).Term != (IntKind.wrap .i64 ((IntKind.wrap .i64 ((IntKind.wrap .i64 (k1_1 + 1)) + 1)) + 1))) then (k0 (IntKind.wrap .i64 ((IntKind.wrap .i64 ((IntKind.wrap .i64 (k1_1 + 1)) + 1)) + 1))) else
    ((bif (decide (0 ≤ i5_2) && decide ((Int.toNat i5_2) < a0_0.n)) then some () else none : Option Unit).bind fun _ => (bif ((a0_0.f (Int.toNat i5_2)).Index != (IntKind.wrap .i64 ((IntKind.wrap .i64 ((IntKind.wrap .i64 ((IntKind.wrap .i64 (k1_1 + 1)) + 1)) + 1)) + 1))) then
    (k0 (IntKind.wrap .i64 ((IntKind.wrap .i64 ((IntKind.wrap .i64 ((IntKind.wrap .i64 (k1_1 + 1)) + 1)) + 1)) + 1))) else ((bif (decide (0 ≤ i5_2) && decide ((Int.toNat i5_2) < a0_0.n)) then
    some () else none : Option Unit).bind fun _ => (bif ((a0_0.f (Int.toNat i5_2)).Last != (IntKind.wrap .i64 ((IntKind.wrap .i64 ((IntKind.wrap .i64 ((IntKind.wrap .i64 ((IntKind.wrap .i64 (k1_1 + 1)) + 1)) + 1)) + 1)) + 1))) then
    (k0 (IntKind.wrap .i64 ((IntKind.wrap .i64 ((IntKind.wrap .i64 ((IntKind.wrap .i64 ((IntKind.wrap .i64 (k1_1 + 1)) + 1)) + 1)) + 1)) + 1))) else ((bif (decide (0 ≤ i5_2) &&
    decide ((Int.toNat i5_2) < a0_0.n)) then some () else none : Option Unit).bind fun _ => (bif ((a0_0.f (Int.toNat i5_2)).Commit != (IntKind.wrap .i64 ((IntKind.wrap .i64 ((IntKind.wrap .i64 ((IntKind.wrap .i64 ((IntKind.wrap .i64 ((IntKind.wrap .i64 (k1_1 + 1)) + 1)) + 1)) + 1)) + 1)) + 1))) then
    (k0 (IntKind.wrap .i64 ((IntKind.wrap .i64 ((IntKind.wrap .i64 ((IntKind.wrap .i64 ((IntKind.wrap .i64 ((IntKind.wrap .i64 (k1_1 + 1)) + 1)) + 1)) + 1)) + 1)) + 1))) else ((bif (decide (0 ≤ i5_2) &&
    decide ((Int.toNat i5_2) < a0_0.n)) then some () else none : Option Unit).bind fun _ => (bif (!((a0_0.f (Int.toNat i5_2)).Ok == ((Int.tmod (IntKind.wrap .i64 ((IntKind.wrap .i64 ((IntKind.wrap .i64 ((IntKind.wrap .i64 ((IntKind.wrap .i64 ((IntKind.wrap .i64 ((IntKind.wrap .i64 (k1_1 + 1)) + 1)) + 1)) + 1)) + 1)) + 1)) + 1)) 3) == 0))) then
    (k0 (IntKind.wrap .i64 ((IntKind.wrap .i64 ((IntKind.wrap .i64 ((IntKind.wrap .i64 ((IntKind.wrap .i64 ((IntKind.wrap .i64 ((IntKind.wrap .i64 (k1_1 + 1)) + 1)) + 1)) + 1)) + 1)) + 1)) + 1))) else
    ((bif (decide (0 ≤ i5_2) && decide ((Int.toNat i5_2) < a0_0.n)) then some () else none : Option Unit).bind fun _ => ((F_laws_heldEntryS fu (a0_0.f (Int.toNat i5_2)).Entries (IntKind.wrap .i64 ((IntKind.wrap .i64 ((IntKind.wrap .i64 ((IntKind.wrap .i64 ((IntKind.wrap .i64 ((IntKind.wrap .i64 ((IntKind.wrap .i64 ((IntKind.wrap .i64 (k1_1 + 1)) + 1)) + 1)) + 1)) + 1)) + 1)) + 1)) + 1))).bind fun y314 =>
    (bif (decide (y314 < 0)) then (k0 y314) else (go y314 (IntKind.wrap .i64 (i5_2 + 1)))))))))))))))))))))) else (k1 k1_1))
def F_laws_heldMailS (fu : Nat) (a_0 : (Sl S_impl_Mail)) (k_1 : Int) : Option (Int) :=
  (L (fun w0 go0 => F_laws_heldMailS_B0 fu a_0 (fun z315 => (some (-1))) (fun z316 => (some z316)) w0.1 w0.2 (fun q0 q1 => go0 (q0, q1))) fu ((k_1, 0) : Int × Int))
def pcf_laws_heldMailS (fu : Nat) (f : Nat) (xs : List (D RT den)) : Option (Out RT den) := match f with | 98 => S_laws_heldEntryS fu xs | _ => none
def pcx_laws_heldMailS (fu : Nat) (f : Nat) (xs : List (D RT den)) (ins : List (Ob RT den)) : Option (OutX RT den) := none
def pc_laws_heldMailS (fu : Nat) : Pc RT den := ⟨pcf_laws_heldMailS fu, fun _ => false, fun _ => false, pcx_laws_heldMailS fu⟩
def msk_laws_heldMailS (b : Nat) : List Nat := match b with | 0 => [2, 3, 4, 6, 7, 8, 9, 10, 11, 12, 13, 14, 15, 16, 17, 18, 19, 20, 21, 22, 23, 24, 25, 26, 27, 28, 29, 30, 31, 32, 33, 34, 35, 36, 37, 38, 39, 40, 41, 42, 43, 44, 45, 46, 47, 48, 49, 50, 51, 52, 53, 54, 55, 56, 57, 58, 59, 60, 61, 62, 63, 64, 65, 66, 67, 68, 69, 70, 71, 72, 73, 74, 75, 76, 77, 78, 79, 80, 81, 82, 83, 84, 85, 86, 87, 88, 89, 90, 91, 92, 93, 94, 95] | 100000 => [0, 2, 3, 5, 6, 7, 8, 9, 10, 11, 12, 13, 14, 15, 16, 17, 18, 19, 20, 21, 22, 23, 24, 25, 26, 27, 28, 29, 30, 31, 32, 33, 34, 35, 36, 37, 38, 39, 40, 41, 42, 43, 44, 45, 46, 47, 48, 49, 50, 51, 52, 53, 54, 55, 56, 57, 58, 59, 60, 61, 62, 63, 64, 65, 66, 67, 68, 69, 70, 71, 72, 73, 74, 75, 76, 77, 78, 79, 80, 81, 82, 83, 84, 85, 86, 87, 88, 89, 90, 91, 92, 93, 94, 95] | _ => []
def ps_laws_heldMailS_0 : List (Pat RT) := [.flat (.rs .impl_Mail), .flat (.int .i64), .flat .dead, .flat .dead, .flat .dead, .flat (.int .i64), .flat .dead, .flat .dead, .flat .dead, .flat .dead, .flat .dead, .flat .dead, .flat .dead, .flat .dead, .flat .dead, .flat .dead, .flat .dead, .flat .dead, .flat .dead, .flat .dead, .flat .dead, .flat .dead, .flat .dead, .flat .dead, .flat .dead, .flat .dead, .flat .dead, .flat .dead, .flat .dead, .flat .dead, .flat .dead, .flat .dead, .flat .dead, .flat .dead, .flat .dead, .flat .dead, .flat .dead, .flat .dead, .flat .dead, .flat .dead, .flat .dead, .flat .dead, .flat .dead, .flat .dead, .flat .dead, .flat .dead, .flat .dead, .flat .dead, .flat .dead, .flat .dead, .flat .dead, .flat .dead, .flat .dead, .flat .dead, .flat .dead, .flat .dead, .flat .dead, .flat .dead, .flat .dead, .flat .dead, .flat .dead, .flat .dead, .flat .dead, .flat .dead, .flat .dead, .flat .dead, .flat .dead, .flat .dead, .flat .dead, .flat .dead, .flat .dead, .flat .dead, .flat .dead, .flat .dead, .flat .dead, .flat .dead, .flat .dead, .flat .dead, .flat .dead, .flat .dead, .flat .dead, .flat .dead, .flat .dead, .flat .dead, .flat .dead, .flat .dead, .flat .dead, .flat .dead, .flat .dead, .flat .dead, .flat .dead, .flat .dead, .flat .dead, .flat .dead, .flat .dead, .flat .dead]
def os_laws_heldMailS_0 : List (OP RT) := []
def conv_laws_heldMailS_0 (r : Raw den ps_laws_heldMailS_0 os_laws_heldMailS_0) : ((Sl S_impl_Mail)) × (Int × Int) := (r.1.1, (r.1.2.1, r.1.2.2.2.2.2.1))
def back_laws_heldMailS_0 (c : (Sl S_impl_Mail)) (w : Int × Int) : St RT den := ⟨[(.rs c.z .impl_Mail c.n c.f), (.int .i64 w.1), .dead, .dead, .dead, (.int .i64 w.2), .dead, .dead, .dead, .dead, .dead, .dead, .dead, .dead, .dead, .dead, .dead, .dead, .dead, .dead, .dead, .dead, .dead, .dead, .dead, .dead, .dead, .dead, .dead, .dead, .dead, .dead, .dead, .dead, .dead, .dead, .dead, .dead, .dead, .dead, .dead, .dead, .dead, .dead, .dead, .dead, .dead, .dead, .dead, .dead, .dead, .dead, .dead, .dead, .dead, .dead, .dead, .dead, .dead, .dead, .dead, .dead, .dead, .dead, .dead, .dead, .dead, .dead, .dead, .dead, .dead, .dead, .dead, .dead, .dead, .dead, .dead, .dead, .dead, .dead, .dead, .dead, .dead, .dead, .dead, .dead, .dead, .dead, .dead, .dead, .dead, .dead, .dead, .dead, .dead, .dead], []⟩
def Bk_laws_heldMailS_0 {ρ : Type} (fu : Nat) (c : (Sl S_impl_Mail)) (k : Ex → St RT den → Option ρ) (w : Int × Int) (go : (Int × Int) → Option ρ) : Option ρ := F_laws_heldMailS_B0 fu c (fun a0 => k .ret ⟨[.dead, (.int .i64 a0), .dead, .dead, (.int .i64 (-1)), .dead, .dead, .dead, .dead, .dead, .dead, .dead, .dead, .dead, .dead, .dead, .dead, .dead, .dead, .dead, .dead, .dead, .dead, .dead, .dead, .dead, .dead, .dead, .dead, .dead, .dead, .dead, .dead, .dead, .dead, .dead, .dead, .dead, .dead, .dead, .dead, .dead, .dead, .dead, .dead, .dead, .dead, .dead, .dead, .dead, .dead, .dead, .dead, .dead, .dead, .dead, .dead, .dead, .dead, .dead, .dead, .dead, .dead, .dead, .dead, .dead, .dead, .dead, .dead, .dead, .dead, .dead, .dead, .dead, .dead, .dead, .dead, .dead, .dead, .dead, .dead, .dead, .dead, .dead, .dead, .dead, .dead, .dead, .dead, .dead, .dead, .dead, .dead, .dead, .dead, .dead], []⟩) (fun a0 => k (.exit 0) ⟨[.dead, (.int .i64 a0), .dead, .dead, .dead, .dead, .dead, .dead, .dead, .dead, .dead, .dead, .dead, .dead, .dead, .dead, .dead, .dead, .dead, .dead, .dead, .dead, .dead, .dead, .dead, .dead, .dead, .dead, .dead, .dead, .dead, .dead, .dead, .dead, .dead, .dead, .dead, .dead, .dead, .dead, .dead, .dead, .dead, .dead, .dead, .dead, .dead, .dead, .dead, .dead, .dead, .dead, .dead, .dead, .dead, .dead, .dead, .dead, .dead, .dead, .dead, .dead, .dead, .dead, .dead, .dead, .dead, .dead, .dead, .dead, .dead, .dead, .dead, .dead, .dead, .dead, .dead, .dead, .dead, .dead, .dead, .dead, .dead, .dead, .dead, .dead, .dead, .dead, .dead, .dead, .dead, .dead, .dead, .dead, .dead, .dead], []⟩) w.1 w.2 (fun q0 q1 => go (q0, q1))
def lp_laws_heldMailS (fu : Nat) : Lp RT den (Int) := fun b s k => match b with | 0 => handle ps_laws_heldMailS_0 os_laws_heldMailS_0 conv_laws_heldMailS_0 (Bk_laws_heldMailS_0 fu) fu s k | _ => none
theorem ev_laws_heldMailS (fu : Nat) (a_0 : (Sl S_impl_Mail)) (k_1 : Int) : evFun E (pc_laws_heldMailS fu) msk_laws_heldMailS (lp_laws_heldMailS fu) out_i64 56 [(.rs a_0.z .impl_Mail a_0.n a_0.f), (.int .i64 k_1)] = F_laws_heldMailS fu a_0 k_1 := by kernel_rfl
noncomputable def body_laws_heldMailS : Code := Try.f56.body.getD .skip
noncomputable def lc_laws_heldMailS_0 : Code := ((loops 0 body_laws_heldMailS).getD 0 (0, .skip)).2
theorem round_laws_heldMailS_0 (fu : Nat) (it : St RT den → Option (Int)) (k : Ex → St RT den → Option (Int)) c w : evCode E (pc_laws_heldMailS fu) msk_laws_heldMailS (lp_laws_heldMailS fu) 0 lc_laws_heldMailS_0 (back_laws_heldMailS_0 c w) (after (msk_laws_heldMailS 0) (msk_laws_heldMailS 100000) 0 it k) = Bk_laws_heldMailS_0 fu c k w (fun w => it (back_laws_heldMailS_0 c w)) := by kernel_rfl
theorem lpok_laws_heldMailS_0 (fu : Nat) : ∀ s k r, lp_laws_heldMailS fu 0 s k = some r → ∃ fuel, iter (msk_laws_heldMailS 0) (msk_laws_heldMailS 100000) s.objs.length (evCode E (pc_laws_heldMailS fu) msk_laws_heldMailS (lp_laws_heldMailS fu) 0 lc_laws_heldMailS_0) fuel s k = some r :=
  handle_ok (ps := ps_laws_heldMailS_0) (os := os_laws_heldMailS_0) (conv := conv_laws_heldMailS_0) (B := Bk_laws_heldMailS_0 fu) (fu := fu) back_laws_heldMailS_0 (fun raw => by kernel_rfl) 0 (fun c w => by kernel_rfl) (round_laws_heldMailS_0 fu)
theorem lpok_laws_heldMailS (fu : Nat) : LpOk E (pc_laws_heldMailS fu) msk_laws_heldMailS (lp_laws_heldMailS fu) (loops 0 body_laws_heldMailS) := loop_all 1 (by kernel_rfl) fun i hi => match i, hi with
  | 0, _ => by
    have h : (loops 0 body_laws_heldMailS).getD 0 (0, .skip) = (0, lc_laws_heldMailS_0) := by kernel_rfl
    rw [h]; exact lpok_laws_heldMailS_0 fu
  | i + 1, hi => absurd hi (by omega)
def S_laws_heldMailS (fu : Nat) (xs : List (D RT den)) : Option (Out RT den) := match xs with | [.rs za0_0 .impl_Mail na0_0 fa0_0, .int .i64 a1_0] => some ⟨Int, F_laws_heldMailS fu (⟨za0_0, na0_0, fa0_0⟩ : (Sl S_impl_Mail)) a1_0, enc_i64, fun _ => true⟩ | _ => none
theorem hpc_laws_heldMailS (fu : Nat) : ∀ f xs o, pcf_laws_heldMailS fu f xs = some o → ∀ y, o.x = some y → Good E Try.prog f xs (o.g y) := by
  intro f xs o h
  unfold pcf_laws_heldMailS at h
  split at h
  · exact good_laws_heldEntryS fu xs o h
  · cases h
theorem hpx_laws_heldMailS (fu : Nat) : ∀ f xs ins o, pcx_laws_heldMailS fu f xs ins = some o → ∀ y, o.x = some y → GoodX E Try.prog f xs ins (o.g y).1 (o.g y).2 := by
  intro f xs ins o h
  cases h
theorem goodv_laws_heldMailS (fu : Nat) (a_0 : (Sl S_impl_Mail)) (k_1 : Int) (y : Int) (hy : F_laws_heldMailS fu a_0 k_1 = some y) : Good E Try.prog 56 [(.rs a_0.z .impl_Mail a_0.n a_0.f), (.int .i64 k_1)] (enc_i64 y) :=
  fun_good E_ok (pc_good (pc := pc_laws_heldMailS fu) (hpc_laws_heldMailS fu) (hpx_laws_heldMailS fu)) (fn := Try.f56) (c := body_laws_heldMailS) (out := out_i64) (y := y) (by kernel_rfl) (by kernel_rfl) (by kernel_rfl) (lpok_laws_heldMailS fu) (fun d hd => out_i64_enc d _ hd) ((ev_laws_heldMailS fu a_0 k_1).trans hy)
theorem good_laws_heldMailS (fu : Nat) : ∀ xs o, S_laws_heldMailS fu xs = some o → ∀ y, o.x = some y → Good E Try.prog 56 xs (o.g y) := by
  intro xs o h y hy
  unfold S_laws_heldMailS at h
  split at h
  · rename_i za0_0 na0_0 fa0_0 a1_0
    cases h
    exact goodv_laws_heldMailS fu (⟨za0_0, na0_0, fa0_0⟩ : (Sl S_impl_Mail)) a1_0 y hy
  · cases h

/-! laws.heldNodeResult -/
def F_laws_heldNodeResult (fu : Nat) (a_0 : S_impl_NodeResult) (k_1 : Int) : Option (Int) :=
  ((F_laws_heldNode fu a_0.Node k_1).bind fun y304 => (bif (decide (y304 < 0)) then (some (-1)) else ((F_laws_heldMailS fu a_0.Send y304).bind fun y305 => (bif (decide (y305 < 0)) then
    (some (-1)) else (some y305)))))
def pcf_laws_heldNodeResult (fu : Nat) (f : Nat) (xs : List (D RT den)) : Option (Out RT den) := match f with | 55 => S_laws_heldNode fu xs | 56 => S_laws_heldMailS fu xs | _ => none
def pcx_laws_heldNodeResult (fu : Nat) (f : Nat) (xs : List (D RT den)) (ins : List (Ob RT den)) : Option (OutX RT den) := none
def pc_laws_heldNodeResult (fu : Nat) : Pc RT den := ⟨pcf_laws_heldNodeResult fu, fun _ => false, fun _ => false, pcx_laws_heldNodeResult fu⟩
def msk_laws_heldNodeResult (b : Nat) : List Nat := []
def lp_laws_heldNodeResult (fu : Nat) : Lp RT den (Int) := fun b s k => none
theorem ev_laws_heldNodeResult (fu : Nat) (a_0 : S_impl_NodeResult) (k_1 : Int) : evFun E (pc_laws_heldNodeResult fu) msk_laws_heldNodeResult (lp_laws_heldNodeResult fu) out_i64 16 [(.agg [(.int .i64 a_0.Code), (.int .i64 a_0.Node.Id), (.int .i64 a_0.Node.Peers), (.int .i64 a_0.Node.Term), (.int .i64 a_0.Node.Voted), (.rs a_0.Node.Log.z .impl_Entry a_0.Node.Log.n a_0.Node.Log.f), (.int .i64 a_0.Node.Role), (.int .i64 a_0.Node.Commit), (.rs a_0.Node.Votes.z .i64 a_0.Node.Votes.n a_0.Node.Votes.f), (.rs a_0.Node.Next.z .i64 a_0.Node.Next.n a_0.Node.Next.f), (.rs a_0.Node.Match.z .i64 a_0.Node.Match.n a_0.Node.Match.f), (.rs a_0.Send.z .impl_Mail a_0.Send.n a_0.Send.f)]), (.int .i64 k_1)] = F_laws_heldNodeResult fu a_0 k_1 := by kernel_rfl
noncomputable def body_laws_heldNodeResult : Code := Try.f16.body.getD .skip
theorem lpok_laws_heldNodeResult (fu : Nat) : LpOk E (pc_laws_heldNodeResult fu) msk_laws_heldNodeResult (lp_laws_heldNodeResult fu) (loops 0 body_laws_heldNodeResult) := by
  have h : loops 0 body_laws_heldNodeResult = [] := by kernel_rfl
  rw [h]; intro p hp; cases hp
def S_laws_heldNodeResult (fu : Nat) (xs : List (D RT den)) : Option (Out RT den) := match xs with | [.agg [.int .i64 a0_1, .int .i64 a0_3, .int .i64 a0_4, .int .i64 a0_5, .int .i64 a0_6, .rs za0_7 .impl_Entry na0_7 fa0_7, .int .i64 a0_8, .int .i64 a0_9, .rs za0_10 .i64 na0_10 fa0_10, .rs za0_11 .i64 na0_11 fa0_11, .rs za0_12 .i64 na0_12 fa0_12, .rs za0_13 .impl_Mail na0_13 fa0_13], .int .i64 a1_0] => some ⟨Int, F_laws_heldNodeResult fu (⟨a0_1, (⟨a0_3, a0_4, a0_5, a0_6, (⟨za0_7, na0_7, fa0_7⟩ : (Sl S_impl_Entry)), a0_8, a0_9, (⟨za0_10, na0_10, fa0_10⟩ : (Sl Int)), (⟨za0_11, na0_11, fa0_11⟩ : (Sl Int)), (⟨za0_12, na0_12, fa0_12⟩ : (Sl Int))⟩ : S_impl_Node), (⟨za0_13, na0_13, fa0_13⟩ : (Sl S_impl_Mail))⟩ : S_impl_NodeResult) a1_0, enc_i64, fun _ => true⟩ | _ => none
theorem hpc_laws_heldNodeResult (fu : Nat) : ∀ f xs o, pcf_laws_heldNodeResult fu f xs = some o → ∀ y, o.x = some y → Good E Try.prog f xs (o.g y) := by
  intro f xs o h
  unfold pcf_laws_heldNodeResult at h
  split at h
  · exact good_laws_heldNode fu xs o h
  · exact good_laws_heldMailS fu xs o h
  · cases h
theorem hpx_laws_heldNodeResult (fu : Nat) : ∀ f xs ins o, pcx_laws_heldNodeResult fu f xs ins = some o → ∀ y, o.x = some y → GoodX E Try.prog f xs ins (o.g y).1 (o.g y).2 := by
  intro f xs ins o h
  cases h
theorem goodv_laws_heldNodeResult (fu : Nat) (a_0 : S_impl_NodeResult) (k_1 : Int) (y : Int) (hy : F_laws_heldNodeResult fu a_0 k_1 = some y) : Good E Try.prog 16 [(.agg [(.int .i64 a_0.Code), (.int .i64 a_0.Node.Id), (.int .i64 a_0.Node.Peers), (.int .i64 a_0.Node.Term), (.int .i64 a_0.Node.Voted), (.rs a_0.Node.Log.z .impl_Entry a_0.Node.Log.n a_0.Node.Log.f), (.int .i64 a_0.Node.Role), (.int .i64 a_0.Node.Commit), (.rs a_0.Node.Votes.z .i64 a_0.Node.Votes.n a_0.Node.Votes.f), (.rs a_0.Node.Next.z .i64 a_0.Node.Next.n a_0.Node.Next.f), (.rs a_0.Node.Match.z .i64 a_0.Node.Match.n a_0.Node.Match.f), (.rs a_0.Send.z .impl_Mail a_0.Send.n a_0.Send.f)]), (.int .i64 k_1)] (enc_i64 y) :=
  fun_good E_ok (pc_good (pc := pc_laws_heldNodeResult fu) (hpc_laws_heldNodeResult fu) (hpx_laws_heldNodeResult fu)) (fn := Try.f16) (c := body_laws_heldNodeResult) (out := out_i64) (y := y) (by kernel_rfl) (by kernel_rfl) (by kernel_rfl) (lpok_laws_heldNodeResult fu) (fun d hd => out_i64_enc d _ hd) ((ev_laws_heldNodeResult fu a_0 k_1).trans hy)
theorem good_laws_heldNodeResult (fu : Nat) : ∀ xs o, S_laws_heldNodeResult fu xs = some o → ∀ y, o.x = some y → Good E Try.prog 16 xs (o.g y) := by
  intro xs o h y hy
  unfold S_laws_heldNodeResult at h
  split at h
  · rename_i a0_1 a0_3 a0_4 a0_5 a0_6 za0_7 na0_7 fa0_7 a0_8 a0_9 za0_10 na0_10 fa0_10 za0_11 na0_11 fa0_11 za0_12 na0_12 fa0_12 za0_13 na0_13 fa0_13 a1_0
    cases h
    exact goodv_laws_heldNodeResult fu (⟨a0_1, (⟨a0_3, a0_4, a0_5, a0_6, (⟨za0_7, na0_7, fa0_7⟩ : (Sl S_impl_Entry)), a0_8, a0_9, (⟨za0_10, na0_10, fa0_10⟩ : (Sl Int)), (⟨za0_11, na0_11, fa0_11⟩ : (Sl Int)), (⟨za0_12, na0_12, fa0_12⟩ : (Sl Int))⟩ : S_impl_Node), (⟨za0_13, na0_13, fa0_13⟩ : (Sl S_impl_Mail))⟩ : S_impl_NodeResult) a1_0 y hy
  · cases h

/-! laws.FnExactAskNode -/
def F_laws_FnExactAskNode (fu : Nat) (aN_0 : S_laws_Node) (aX_1 : S_laws_Entry) : Option (Bool) :=
  ((F_laws_szNode fu aN_0 1048576).bind fun y1 => (bif (decide (y1 < 0)) then (some true) else ((F_laws_toNode_H fu aN_0).bind fun y17 => ((F_laws_toEntry fu aX_1).bind fun y18 =>
    ((F_spec_AskNode_H fu (⟨y17.Id, y17.Peers, y17.Term, y17.Voted, (⟨none, y17.Log.n, y17.Log.f⟩ : (Sl S_impl_Entry)), y17.Role, y17.Commit, (⟨none, y17.Votes.n, y17.Votes.f⟩ : (Sl Int)),
    (⟨none, y17.Next.n, y17.Next.f⟩ : (Sl Int)), (⟨none, y17.Match.n, y17.Match.f⟩ : (Sl Int))⟩ : S_impl_Node) y18).bind fun y121 => ((F_laws_toNode_H fu aN_0).bind fun y122 =>
    ((F_laws_toEntry fu aX_1).bind fun y123 => ((F_impl_AskNode_H fu (⟨y122.Id, y122.Peers, y122.Term, y122.Voted, (⟨none, y122.Log.n, y122.Log.f⟩ : (Sl S_impl_Entry)), y122.Role,
    y122.Commit, (⟨none, y122.Votes.n, y122.Votes.f⟩ : (Sl Int)), (⟨none, y122.Next.n, y122.Next.f⟩ : (Sl Int)), (⟨none, y122.Match.n, y122.Match.f⟩ : (Sl Int))⟩ : S_impl_Node) y123).bind fun y266 =>
    ((F_laws_eqNodeResult fu (⟨y266.Code, (⟨y266.Node.Id, y266.Node.Peers, y266.Node.Term, y266.Node.Voted, (⟨none, y266.Node.Log.n, y266.Node.Log.f⟩ : (Sl S_impl_Entry)),
    y266.Node.Role, y266.Node.Commit, (⟨none, y266.Node.Votes.n, y266.Node.Votes.f⟩ : (Sl Int)), (⟨none, y266.Node.Next.n, y266.Node.Next.f⟩ : (Sl Int)), (⟨none, y266.Node.Match.n,
    y266.Node.Match.f⟩ : (Sl Int))⟩ : S_impl_Node), (⟨(some true), 0, (fun _ => dflt .impl_Mail)⟩ : (Sl S_impl_Mail))⟩ : S_impl_NodeResult) (⟨y121.Code, (⟨y121.Node.Id,
    y121.Node.Peers, y121.Node.Term, y121.Node.Voted, (⟨none, y121.Node.Log.n, y121.Node.Log.f⟩ : (Sl S_impl_Entry)), y121.Node.Role, y121.Node.Commit, (⟨none, y121.Node.Votes.n,
    y121.Node.Votes.f⟩ : (Sl Int)), (⟨none, y121.Node.Next.n, y121.Node.Next.f⟩ : (Sl Int)), (⟨none, y121.Node.Match.n, y121.Node.Match.f⟩ : (Sl Int))⟩ : S_impl_Node), (⟨(some true),
    0, (fun _ => dflt .impl_Mail)⟩ : (Sl S_impl_Mail))⟩ : S_impl_NodeResult)).bind fun y267 => (bif (!y267) then (some false) else ((F_laws_toNode_H fu aN_0).bind fun y268 =>
    ((F_laws_eqNode fu (⟨y122.Id, y122.Peers, y122.Term, y122.Voted, (⟨none, y122.Log.n, y122.Log.f⟩ : (Sl S_impl_Entry)), y122.Role, y122.Commit, (⟨none, y122.Votes.n,
    y122.Votes.f⟩ : (Sl Int)), (⟨none, y122.Next.n, y122.Next.f⟩ : (Sl Int)), (⟨none, y122.Match.n, y122.Match.f⟩ : (Sl Int))⟩ : S_impl_Node) (⟨y268.Id, y268.Peers, y268.Term,
    y268.Voted, (⟨none, y268.Log.n, y268.Log.f⟩ : (Sl S_impl_Entry)), y268.Role, y268.Commit, (⟨none, y268.Votes.n, y268.Votes.f⟩ : (Sl Int)), (⟨none, y268.Next.n, y268.Next.f⟩ : (Sl Int)),
    (⟨none, y268.Match.n, y268.Match.f⟩ : (Sl Int))⟩ : S_impl_Node)).bind fun y269 => (bif (!y269) then (some false) else ((F_laws_markNode_L fu y122.Id y122.Peers y122.Term y122.Voted y122.Log.n y122.Role y122.Commit y122.Votes.n y122.Next.n y122.Match.n 1 y122.Log.n y122.Log.f y122.Votes.n y122.Votes.f y122.Next.n y122.Next.f y122.Match.n y122.Match.f).bind fun y278 =>
    (((bif (decide (y278.1 < 0)) then (some true) else ((F_laws_eqNodeResult fu (⟨y266.Code, (⟨y266.Node.Id, y266.Node.Peers, y266.Node.Term, y266.Node.Voted, (⟨none,
    y266.Node.Log.n, y266.Node.Log.f⟩ : (Sl S_impl_Entry)), y266.Node.Role, y266.Node.Commit, (⟨none, y266.Node.Votes.n, y266.Node.Votes.f⟩ : (Sl Int)), (⟨none, y266.Node.Next.n,
    y266.Node.Next.f⟩ : (Sl Int)), (⟨none, y266.Node.Match.n, y266.Node.Match.f⟩ : (Sl Int))⟩ : S_impl_Node), (⟨(some true), 0, (fun _ => dflt .impl_Mail)⟩ : (Sl S_impl_Mail))⟩ : S_impl_NodeResult) (⟨y121.Code,
    (⟨y121.Node.Id, y121.Node.Peers, y121.Node.Term, y121.Node.Voted, (⟨none, y121.Node.Log.n, y121.Node.Log.f⟩ : (Sl S_impl_Entry)), y121.Node.Role, y121.Node.Commit, (⟨none,
    y121.Node.Votes.n, y121.Node.Votes.f⟩ : (Sl Int)), (⟨none, y121.Node.Next.n, y121.Node.Next.f⟩ : (Sl Int)), (⟨none, y121.Node.Match.n, y121.Node.Match.f⟩ : (Sl Int))⟩ : S_impl_Node),
    (⟨(some true), 0, (fun _ => dflt .impl_Mail)⟩ : (Sl S_impl_Mail))⟩ : S_impl_NodeResult)).bind fun y279 => (some (!y279)))) : Option Bool).bind fun m280 => (bif m280 then (some false) else
    ((F_laws_markNodeResult_L fu y266.Code y266.Node.Id y266.Node.Peers y266.Node.Term y266.Node.Voted y266.Node.Log.n y266.Node.Role y266.Node.Commit y266.Node.Votes.n y266.Node.Next.n y266.Node.Match.n 1 y266.Node.Log.n y266.Node.Log.f y266.Node.Votes.n y266.Node.Votes.f y266.Node.Next.n y266.Node.Next.f y266.Node.Match.n y266.Node.Match.f).bind fun y283 =>
    ((F_laws_heldNodeResult fu (⟨y266.Code, (⟨y266.Node.Id, y266.Node.Peers, y266.Node.Term, y266.Node.Voted, (⟨none, y266.Node.Log.n, y283.2.1.2⟩ : (Sl S_impl_Entry)),
    y266.Node.Role, y266.Node.Commit, (⟨none, y266.Node.Votes.n, y283.2.2.1.2⟩ : (Sl Int)), (⟨none, y266.Node.Next.n, y283.2.2.2.1.2⟩ : (Sl Int)), (⟨none, y266.Node.Match.n,
    y283.2.2.2.2.2⟩ : (Sl Int))⟩ : S_impl_Node), (⟨(some true), 0, (fun _ => dflt .impl_Mail)⟩ : (Sl S_impl_Mail))⟩ : S_impl_NodeResult) 1).bind fun y284 => (bif (decide (y284 < 0)) then
    (some false) else (bif (y284 != y283.1) then (some false) else ((F_laws_toNode_H fu aN_0).bind fun y285 => ((F_laws_toEntry fu aX_1).bind fun y286 => ((F_impl_AskNode_H fu (⟨y285.Id,
    y285.Peers, y285.Term, y285.Voted, (⟨none, y285.Log.n, y285.Log.f⟩ : (Sl S_impl_Entry)), y285.Role, y285.Commit, (⟨none, y285.Votes.n, y285.Votes.f⟩ : (Sl Int)), (⟨none,
    y285.Next.n, y285.Next.f⟩ : (Sl Int)), (⟨none, y285.Match.n, y285.Match.f⟩ : (Sl Int))⟩ : S_impl_Node) y286).bind fun y287 => ((F_laws_eqNodeResult fu (⟨y287.Code,
    (⟨y287.Node.Id, y287.Node.Peers, y287.Node.Term, y287.Node.Voted, (⟨none, y287.Node.Log.n, y287.Node.Log.f⟩ : (Sl S_impl_Entry)), y287.Node.Role, y287.Node.Commit, (⟨none,
    y287.Node.Votes.n, y287.Node.Votes.f⟩ : (Sl Int)), (⟨none, y287.Node.Next.n, y287.Node.Next.f⟩ : (Sl Int)), (⟨none, y287.Node.Match.n, y287.Node.Match.f⟩ : (Sl Int))⟩ : S_impl_Node),
    (⟨(some true), 0, (fun _ => dflt .impl_Mail)⟩ : (Sl S_impl_Mail))⟩ : S_impl_NodeResult) (⟨y121.Code, (⟨y121.Node.Id, y121.Node.Peers, y121.Node.Term, y121.Node.Voted, (⟨none,
    y121.Node.Log.n, y121.Node.Log.f⟩ : (Sl S_impl_Entry)), y121.Node.Role, y121.Node.Commit, (⟨none, y121.Node.Votes.n, y121.Node.Votes.f⟩ : (Sl Int)), (⟨none, y121.Node.Next.n,
    y121.Node.Next.f⟩ : (Sl Int)), (⟨none, y121.Node.Match.n, y121.Node.Match.f⟩ : (Sl Int))⟩ : S_impl_Node), (⟨(some true), 0, (fun _ => dflt .impl_Mail)⟩ : (Sl S_impl_Mail))⟩ : S_impl_NodeResult)).bind fun y288 =>
    (bif (!y288) then (some false) else ((F_laws_heldNodeResult fu (⟨y266.Code, (⟨y266.Node.Id, y266.Node.Peers, y266.Node.Term, y266.Node.Voted, (⟨none, y266.Node.Log.n,
    y283.2.1.2⟩ : (Sl S_impl_Entry)), y266.Node.Role, y266.Node.Commit, (⟨none, y266.Node.Votes.n, y283.2.2.1.2⟩ : (Sl Int)), (⟨none, y266.Node.Next.n, y283.2.2.2.1.2⟩ : (Sl Int)),
    (⟨none, y266.Node.Match.n, y283.2.2.2.2.2⟩ : (Sl Int))⟩ : S_impl_Node), (⟨(some true), 0, (fun _ => dflt .impl_Mail)⟩ : (Sl S_impl_Mail))⟩ : S_impl_NodeResult) 1).bind fun y289 =>
    (bif (decide (y289 < 0)) then (some false) else (bif (y289 != y283.1) then (some false) else (some true)))))))))))))))))))))))))))))
def pcf_laws_FnExactAskNode (fu : Nat) (f : Nat) (xs : List (D RT den)) : Option (Out RT den) := match f with | 8 => S_laws_szNode fu xs | 12 => S_laws_eqNodeResult fu xs | 13 => S_laws_eqNode fu xs | 16 => S_laws_heldNodeResult fu xs | 18 => S_laws_toEntry fu xs | _ => none
def pcx_laws_FnExactAskNode (fu : Nat) (f : Nat) (xs : List (D RT den)) (ins : List (Ob RT den)) : Option (OutX RT den) := match f with | 10 => S_laws_toNode_H fu xs ins | 14 => S_laws_markNode_L fu xs ins | 15 => S_laws_markNodeResult_L fu xs ins | 17 => S_spec_AskNode_H fu xs ins | 19 => S_impl_AskNode_H fu xs ins | _ => none
def pc_laws_FnExactAskNode (fu : Nat) : Pc RT den := ⟨pcf_laws_FnExactAskNode fu, fun f => match f with | 10 => true | 14 => true | 15 => true | 17 => true | 19 => true | _ => false, fun f => match f with | 14 => true | 15 => true | _ => false, pcx_laws_FnExactAskNode fu⟩
def msk_laws_FnExactAskNode (b : Nat) : List Nat := match b with | 200014 => [48] | _ => []
def lp_laws_FnExactAskNode (fu : Nat) : Lp RT den (Bool) := fun b s k => none
theorem ev_laws_FnExactAskNode (fu : Nat) (aN_0 : S_laws_Node) (aX_1 : S_laws_Entry) : evFun E (pc_laws_FnExactAskNode fu) msk_laws_FnExactAskNode (lp_laws_FnExactAskNode fu) out_bo 4 [(.agg [(.int .i64 aN_0.Id), (.int .i64 aN_0.Peers), (.int .i64 aN_0.Term), (.int .i64 aN_0.Voted), (.rs aN_0.Log.z .laws_Entry aN_0.Log.n aN_0.Log.f), (.int .i64 aN_0.Role), (.int .i64 aN_0.Commit), (.rs aN_0.Votes.z .i64 aN_0.Votes.n aN_0.Votes.f), (.rs aN_0.Next.z .i64 aN_0.Next.n aN_0.Next.f), (.rs aN_0.Match.z .i64 aN_0.Match.n aN_0.Match.f)]), (.agg [(.int .i64 aX_1.Term), (.int .i64 aX_1.Client), (.int .i64 aX_1.Seq), (.int .i64 aX_1.Cmd.Kind), (.int .i64 aX_1.Cmd.Expect), (.int .i64 aX_1.Cmd.Name), (.int .i64 aX_1.Cmd.Addr), (.int .i64 aX_1.Cmd.Number), (.int .i64 aX_1.Cmd.Proto)])] = F_laws_FnExactAskNode fu aN_0 aX_1 := by kernel_rfl
noncomputable def body_laws_FnExactAskNode : Code := Try.f4.body.getD .skip
theorem lpok_laws_FnExactAskNode (fu : Nat) : LpOk E (pc_laws_FnExactAskNode fu) msk_laws_FnExactAskNode (lp_laws_FnExactAskNode fu) (loops 0 body_laws_FnExactAskNode) := by
  have h : loops 0 body_laws_FnExactAskNode = [] := by kernel_rfl
  rw [h]; intro p hp; cases hp
def S_laws_FnExactAskNode (fu : Nat) (xs : List (D RT den)) : Option (Out RT den) := match xs with | [.agg [.int .i64 a0_1, .int .i64 a0_2, .int .i64 a0_3, .int .i64 a0_4, .rs za0_5 .laws_Entry na0_5 fa0_5, .int .i64 a0_6, .int .i64 a0_7, .rs za0_8 .i64 na0_8 fa0_8, .rs za0_9 .i64 na0_9 fa0_9, .rs za0_10 .i64 na0_10 fa0_10], .agg [.int .i64 a1_1, .int .i64 a1_2, .int .i64 a1_3, .int .i64 a1_5, .int .i64 a1_6, .int .i64 a1_7, .int .i64 a1_8, .int .i64 a1_9, .int .i64 a1_10]] => some ⟨Bool, F_laws_FnExactAskNode fu (⟨a0_1, a0_2, a0_3, a0_4, (⟨za0_5, na0_5, fa0_5⟩ : (Sl S_laws_Entry)), a0_6, a0_7, (⟨za0_8, na0_8, fa0_8⟩ : (Sl Int)), (⟨za0_9, na0_9, fa0_9⟩ : (Sl Int)), (⟨za0_10, na0_10, fa0_10⟩ : (Sl Int))⟩ : S_laws_Node) (⟨a1_1, a1_2, a1_3, (⟨a1_5, a1_6, a1_7, a1_8, a1_9, a1_10⟩ : S_impl_Cmd)⟩ : S_laws_Entry), enc_bo, fun _ => true⟩ | _ => none
theorem hpc_laws_FnExactAskNode (fu : Nat) : ∀ f xs o, pcf_laws_FnExactAskNode fu f xs = some o → ∀ y, o.x = some y → Good E Try.prog f xs (o.g y) := by
  intro f xs o h
  unfold pcf_laws_FnExactAskNode at h
  split at h
  · exact good_laws_szNode fu xs o h
  · exact good_laws_eqNodeResult fu xs o h
  · exact good_laws_eqNode fu xs o h
  · exact good_laws_heldNodeResult fu xs o h
  · exact good_laws_toEntry fu xs o h
  · cases h
theorem hpx_laws_FnExactAskNode (fu : Nat) : ∀ f xs ins o, pcx_laws_FnExactAskNode fu f xs ins = some o → ∀ y, o.x = some y → GoodX E Try.prog f xs ins (o.g y).1 (o.g y).2 := by
  intro f xs ins o h
  unfold pcx_laws_FnExactAskNode at h
  split at h
  · exact good_laws_toNode_H fu xs ins o h
  · exact good_laws_markNode_L fu xs ins o h
  · exact good_laws_markNodeResult_L fu xs ins o h
  · exact good_spec_AskNode_H fu xs ins o h
  · exact good_impl_AskNode_H fu xs ins o h
  · cases h
theorem goodv_laws_FnExactAskNode (fu : Nat) (aN_0 : S_laws_Node) (aX_1 : S_laws_Entry) (y : Bool) (hy : F_laws_FnExactAskNode fu aN_0 aX_1 = some y) : Good E Try.prog 4 [(.agg [(.int .i64 aN_0.Id), (.int .i64 aN_0.Peers), (.int .i64 aN_0.Term), (.int .i64 aN_0.Voted), (.rs aN_0.Log.z .laws_Entry aN_0.Log.n aN_0.Log.f), (.int .i64 aN_0.Role), (.int .i64 aN_0.Commit), (.rs aN_0.Votes.z .i64 aN_0.Votes.n aN_0.Votes.f), (.rs aN_0.Next.z .i64 aN_0.Next.n aN_0.Next.f), (.rs aN_0.Match.z .i64 aN_0.Match.n aN_0.Match.f)]), (.agg [(.int .i64 aX_1.Term), (.int .i64 aX_1.Client), (.int .i64 aX_1.Seq), (.int .i64 aX_1.Cmd.Kind), (.int .i64 aX_1.Cmd.Expect), (.int .i64 aX_1.Cmd.Name), (.int .i64 aX_1.Cmd.Addr), (.int .i64 aX_1.Cmd.Number), (.int .i64 aX_1.Cmd.Proto)])] (enc_bo y) :=
  fun_good E_ok (pc_good (pc := pc_laws_FnExactAskNode fu) (hpc_laws_FnExactAskNode fu) (hpx_laws_FnExactAskNode fu)) (fn := Try.f4) (c := body_laws_FnExactAskNode) (out := out_bo) (y := y) (by kernel_rfl) (by kernel_rfl) (by kernel_rfl) (lpok_laws_FnExactAskNode fu) (fun d hd => out_bo_enc d _ hd) ((ev_laws_FnExactAskNode fu aN_0 aX_1).trans hy)
theorem good_laws_FnExactAskNode (fu : Nat) : ∀ xs o, S_laws_FnExactAskNode fu xs = some o → ∀ y, o.x = some y → Good E Try.prog 4 xs (o.g y) := by
  intro xs o h y hy
  unfold S_laws_FnExactAskNode at h
  split at h
  · rename_i a0_1 a0_2 a0_3 a0_4 za0_5 na0_5 fa0_5 a0_6 a0_7 za0_8 na0_8 fa0_8 za0_9 na0_9 fa0_9 za0_10 na0_10 fa0_10 a1_1 a1_2 a1_3 a1_5 a1_6 a1_7 a1_8 a1_9 a1_10
    cases h
    exact goodv_laws_FnExactAskNode fu (⟨a0_1, a0_2, a0_3, a0_4, (⟨za0_5, na0_5, fa0_5⟩ : (Sl S_laws_Entry)), a0_6, a0_7, (⟨za0_8, na0_8, fa0_8⟩ : (Sl Int)), (⟨za0_9, na0_9, fa0_9⟩ : (Sl Int)), (⟨za0_10, na0_10, fa0_10⟩ : (Sl Int))⟩ : S_laws_Node) (⟨a1_1, a1_2, a1_3, (⟨a1_5, a1_6, a1_7, a1_8, a1_9, a1_10⟩ : S_impl_Cmd)⟩ : S_laws_Entry) y hy
  · cases h
end Go.Proofs.Ytohlgllpplbehaa.Pc
