/- The functions' evaluated forms, each a proved summary. Conditions: none. -/
import Derived.Test.YtaghkcpgpjbdnaaPcF1
namespace Go.Proofs.Ytaghkcpgpjbdnaa.Pc
open Go Go.RowKit Go.Proofs Vm
set_option linter.unusedVariables false
set_option linter.unusedSimpArgs false
set_option maxRecDepth 100000
/-! laws.heldBackendS -/
def F_laws_heldBackendS_B0 {ρ : Type} (fu : Nat) (a0_0 : (Sl S_impl_Backend)) (k0 : Int → Option ρ) (k1 : Int → Option ρ) (k1_1 : Int) (i5_2 : Int) (go : Int → Int → Option ρ) : Option ρ :=
  (bif (decide (i5_2 < ((a0_0.n : Nat) : Int))) then ((bif (decide (0 ≤ i5_2) && decide ((Int.toNat i5_2) < a0_0.n)) then some () else none : Option Unit).bind fun _ => (bif ((a0_0.f (Int.toNat i5_2)).Name != k1_1) then
    (k0 k1_1) else ((bif (decide (0 ≤ i5_2) && decide ((Int.toNat i5_2) < a0_0.n)) then some () else none : Option Unit).bind fun _ => (bif ((a0_0.f (Int.toNat i5_2)).Address != (IntKind.wrap .i64 (k1_1 + 1))) then
    (k0 (IntKind.wrap .i64 (k1_1 + 1))) else ((bif (decide (0 ≤ i5_2) && decide ((Int.toNat i5_2) < a0_0.n)) then some () else none : Option Unit).bind fun _ => (bif ((a0_0.f (Int.toNat i5_2)).Weight != (IntKind.wrap .i64 ((IntKind.wrap .i64 (k1_1 + 1)) + 1))) then
    (k0 (IntKind.wrap .i64 ((IntKind.wrap .i64 (k1_1 + 1)) + 1))) else ((bif (decide (0 ≤ i5_2) && decide ((Int.toNat i5_2) < a0_0.n)) then some () else none : Option Unit).bind fun _ =>
    (bif ((a0_0.f (Int.toNat i5_2)).Stage != (IntKind.wrap .i64 ((IntKind.wrap .i64 ((IntKind.wrap .i64 (k1_1 + 1)) + 1)) + 1))) then (k0 (IntKind.wrap .i64 ((IntKind.wrap .i64 ((IntKind.wrap .i64 (k1_1 + 1)) + 1)) + 1))) else
    ((bif (decide (0 ≤ i5_2) && decide ((Int.toNat i5_2) < a0_0.n)) then some () else none : Option Unit).bind fun _ => (bif (!((a0_0.f (Int.toNat i5_2)).Up == ((Int.tmod (IntKind.wrap .i64 ((IntKind.wrap .i64 ((IntKind.wrap .i64 ((IntKind.wrap .i64 (k1_1 + 1)) + 1)) + 1)) + 1)) 3) == 0))) then
    (k0 (IntKind.wrap .i64 ((IntKind.wrap .i64 ((IntKind.wrap .i64 ((IntKind.wrap .i64 (k1_1 + 1)) + 1)) + 1)) + 1))) else (go (IntKind.wrap .i64 ((IntKind.wrap .i64 ((IntKind.wrap .i64 ((IntKind.wrap .i64 ((IntKind.wrap .i64 (k1_1 + 1)) + 1)) + 1)) + 1)) + 1)) (IntKind.wrap .i64 (i5_2 + 1))))))))))))) else
    (k1 k1_1))
def F_laws_heldBackendS (fu : Nat) (a_0 : (Sl S_impl_Backend)) (k_1 : Int) : Option (Int) :=
  (L (fun w0 go0 => F_laws_heldBackendS_B0 fu a_0 (fun z54 => (some (-1))) (fun z55 => (some z55)) w0.1 w0.2 (fun q0 q1 => go0 (q0, q1))) fu ((k_1, 0) : Int × Int))
def pcf_laws_heldBackendS (fu : Nat) (f : Nat) (xs : List (D RT den)) : Option (Out RT den) := none
def pcx_laws_heldBackendS (fu : Nat) (f : Nat) (xs : List (D RT den)) (ins : List (Ob RT den)) : Option (OutX RT den) := none
def pc_laws_heldBackendS (fu : Nat) : Pc RT den := ⟨pcf_laws_heldBackendS fu, fun _ => false, fun _ => false, pcx_laws_heldBackendS fu⟩
def msk_laws_heldBackendS (b : Nat) : List Nat := match b with | 0 => [2, 3, 4, 6, 7, 8, 9, 10, 11, 12, 13, 14, 15, 16, 17, 18, 19, 20, 21, 22, 23, 24, 25, 26, 27, 28, 29, 30, 31, 32, 33, 34, 35, 36, 37, 38, 39, 40, 41, 42, 43, 44, 45, 46, 47, 48, 49, 50, 51, 52, 53, 54, 55, 56, 57, 58, 59] | 100000 => [0, 2, 3, 5, 6, 7, 8, 9, 10, 11, 12, 13, 14, 15, 16, 17, 18, 19, 20, 21, 22, 23, 24, 25, 26, 27, 28, 29, 30, 31, 32, 33, 34, 35, 36, 37, 38, 39, 40, 41, 42, 43, 44, 45, 46, 47, 48, 49, 50, 51, 52, 53, 54, 55, 56, 57, 58, 59] | _ => []
def ps_laws_heldBackendS_0 : List (Pat RT) := [.flat (.rs .impl_Backend), .flat (.int .i64), .flat .dead, .flat .dead, .flat .dead, .flat (.int .i64), .flat .dead, .flat .dead, .flat .dead, .flat .dead, .flat .dead, .flat .dead, .flat .dead, .flat .dead, .flat .dead, .flat .dead, .flat .dead, .flat .dead, .flat .dead, .flat .dead, .flat .dead, .flat .dead, .flat .dead, .flat .dead, .flat .dead, .flat .dead, .flat .dead, .flat .dead, .flat .dead, .flat .dead, .flat .dead, .flat .dead, .flat .dead, .flat .dead, .flat .dead, .flat .dead, .flat .dead, .flat .dead, .flat .dead, .flat .dead, .flat .dead, .flat .dead, .flat .dead, .flat .dead, .flat .dead, .flat .dead, .flat .dead, .flat .dead, .flat .dead, .flat .dead, .flat .dead, .flat .dead, .flat .dead, .flat .dead, .flat .dead, .flat .dead, .flat .dead, .flat .dead, .flat .dead, .flat .dead]
def os_laws_heldBackendS_0 : List (OP RT) := []
def conv_laws_heldBackendS_0 (r : Raw den ps_laws_heldBackendS_0 os_laws_heldBackendS_0) : ((Sl S_impl_Backend)) × (Int × Int) := (r.1.1, (r.1.2.1, r.1.2.2.2.2.2.1))
def back_laws_heldBackendS_0 (c : (Sl S_impl_Backend)) (w : Int × Int) : St RT den := ⟨[(.rs c.z .impl_Backend c.n c.f), (.int .i64 w.1), .dead, .dead, .dead, (.int .i64 w.2), .dead, .dead, .dead, .dead, .dead, .dead, .dead, .dead, .dead, .dead, .dead, .dead, .dead, .dead, .dead, .dead, .dead, .dead, .dead, .dead, .dead, .dead, .dead, .dead, .dead, .dead, .dead, .dead, .dead, .dead, .dead, .dead, .dead, .dead, .dead, .dead, .dead, .dead, .dead, .dead, .dead, .dead, .dead, .dead, .dead, .dead, .dead, .dead, .dead, .dead, .dead, .dead, .dead, .dead], []⟩
def Bk_laws_heldBackendS_0 {ρ : Type} (fu : Nat) (c : (Sl S_impl_Backend)) (k : Ex → St RT den → Option ρ) (w : Int × Int) (go : (Int × Int) → Option ρ) : Option ρ := F_laws_heldBackendS_B0 fu c (fun a0 => k .ret ⟨[.dead, (.int .i64 a0), .dead, .dead, (.int .i64 (-1)), .dead, .dead, .dead, .dead, .dead, .dead, .dead, .dead, .dead, .dead, .dead, .dead, .dead, .dead, .dead, .dead, .dead, .dead, .dead, .dead, .dead, .dead, .dead, .dead, .dead, .dead, .dead, .dead, .dead, .dead, .dead, .dead, .dead, .dead, .dead, .dead, .dead, .dead, .dead, .dead, .dead, .dead, .dead, .dead, .dead, .dead, .dead, .dead, .dead, .dead, .dead, .dead, .dead, .dead, .dead], []⟩) (fun a0 => k (.exit 0) ⟨[.dead, (.int .i64 a0), .dead, .dead, .dead, .dead, .dead, .dead, .dead, .dead, .dead, .dead, .dead, .dead, .dead, .dead, .dead, .dead, .dead, .dead, .dead, .dead, .dead, .dead, .dead, .dead, .dead, .dead, .dead, .dead, .dead, .dead, .dead, .dead, .dead, .dead, .dead, .dead, .dead, .dead, .dead, .dead, .dead, .dead, .dead, .dead, .dead, .dead, .dead, .dead, .dead, .dead, .dead, .dead, .dead, .dead, .dead, .dead, .dead, .dead], []⟩) w.1 w.2 (fun q0 q1 => go (q0, q1))
def lp_laws_heldBackendS (fu : Nat) : Lp RT den (Int) := fun b s k => match b with | 0 => handle ps_laws_heldBackendS_0 os_laws_heldBackendS_0 conv_laws_heldBackendS_0 (Bk_laws_heldBackendS_0 fu) fu s k | _ => none
theorem ev_laws_heldBackendS (fu : Nat) (a_0 : (Sl S_impl_Backend)) (k_1 : Int) : evFun E (pc_laws_heldBackendS fu) msk_laws_heldBackendS (lp_laws_heldBackendS fu) out_i64 56 [(.rs a_0.z .impl_Backend a_0.n a_0.f), (.int .i64 k_1)] = F_laws_heldBackendS fu a_0 k_1 := by kernel_rfl
noncomputable def body_laws_heldBackendS : Code := Try.f56.body.getD .skip
noncomputable def lc_laws_heldBackendS_0 : Code := ((loops 0 body_laws_heldBackendS).getD 0 (0, .skip)).2
theorem round_laws_heldBackendS_0 (fu : Nat) (it : St RT den → Option (Int)) (k : Ex → St RT den → Option (Int)) c w : evCode E (pc_laws_heldBackendS fu) msk_laws_heldBackendS (lp_laws_heldBackendS fu) 0 lc_laws_heldBackendS_0 (back_laws_heldBackendS_0 c w) (after (msk_laws_heldBackendS 0) (msk_laws_heldBackendS 100000) 0 it k) = Bk_laws_heldBackendS_0 fu c k w (fun w => it (back_laws_heldBackendS_0 c w)) := by kernel_rfl
theorem lpok_laws_heldBackendS_0 (fu : Nat) : ∀ s k r, lp_laws_heldBackendS fu 0 s k = some r → ∃ fuel, iter (msk_laws_heldBackendS 0) (msk_laws_heldBackendS 100000) s.objs.length (evCode E (pc_laws_heldBackendS fu) msk_laws_heldBackendS (lp_laws_heldBackendS fu) 0 lc_laws_heldBackendS_0) fuel s k = some r :=
  handle_ok (ps := ps_laws_heldBackendS_0) (os := os_laws_heldBackendS_0) (conv := conv_laws_heldBackendS_0) (B := Bk_laws_heldBackendS_0 fu) (fu := fu) back_laws_heldBackendS_0 (fun raw => by kernel_rfl) 0 (fun c w => by kernel_rfl) (round_laws_heldBackendS_0 fu)
theorem lpok_laws_heldBackendS (fu : Nat) : LpOk E (pc_laws_heldBackendS fu) msk_laws_heldBackendS (lp_laws_heldBackendS fu) (loops 0 body_laws_heldBackendS) := loop_all 1 (by kernel_rfl) fun i hi => match i, hi with
  | 0, _ => by
    have h : (loops 0 body_laws_heldBackendS).getD 0 (0, .skip) = (0, lc_laws_heldBackendS_0) := by kernel_rfl
    rw [h]; exact lpok_laws_heldBackendS_0 fu
  | i + 1, hi => absurd hi (by omega)
def S_laws_heldBackendS (fu : Nat) (xs : List (D RT den)) : Option (Out RT den) := match xs with | [.rs za0_0 .impl_Backend na0_0 fa0_0, .int .i64 a1_0] => some ⟨Int, F_laws_heldBackendS fu (⟨za0_0, na0_0, fa0_0⟩ : (Sl S_impl_Backend)) a1_0, enc_i64, fun _ => true⟩ | _ => none
theorem hpc_laws_heldBackendS (fu : Nat) : ∀ f xs o, pcf_laws_heldBackendS fu f xs = some o → ∀ y, o.x = some y → Good E Try.prog f xs (o.g y) := by
  intro f xs o h
  cases h
theorem hpx_laws_heldBackendS (fu : Nat) : ∀ f xs ins o, pcx_laws_heldBackendS fu f xs ins = some o → ∀ y, o.x = some y → GoodX E Try.prog f xs ins (o.g y).1 (o.g y).2 := by
  intro f xs ins o h
  cases h
theorem goodv_laws_heldBackendS (fu : Nat) (a_0 : (Sl S_impl_Backend)) (k_1 : Int) (y : Int) (hy : F_laws_heldBackendS fu a_0 k_1 = some y) : Good E Try.prog 56 [(.rs a_0.z .impl_Backend a_0.n a_0.f), (.int .i64 k_1)] (enc_i64 y) :=
  fun_good E_ok (pc_good (pc := pc_laws_heldBackendS fu) (hpc_laws_heldBackendS fu) (hpx_laws_heldBackendS fu)) (fn := Try.f56) (c := body_laws_heldBackendS) (out := out_i64) (y := y) (by kernel_rfl) (by kernel_rfl) (by kernel_rfl) (lpok_laws_heldBackendS fu) (fun d hd => out_i64_enc d _ hd) ((ev_laws_heldBackendS fu a_0 k_1).trans hy)
theorem good_laws_heldBackendS (fu : Nat) : ∀ xs o, S_laws_heldBackendS fu xs = some o → ∀ y, o.x = some y → Good E Try.prog 56 xs (o.g y) := by
  intro xs o h y hy
  unfold S_laws_heldBackendS at h
  split at h
  · rename_i za0_0 na0_0 fa0_0 a1_0
    cases h
    exact goodv_laws_heldBackendS fu (⟨za0_0, na0_0, fa0_0⟩ : (Sl S_impl_Backend)) a1_0 y hy
  · cases h

/-! laws.heldInt64S -/
def F_laws_heldInt64S_B0 {ρ : Type} (fu : Nat) (a0_0 : (Sl Int)) (k0 : Int → Option ρ) (k1 : Int → Option ρ) (k1_1 : Int) (i5_2 : Int) (go : Int → Int → Option ρ) : Option ρ :=
  (bif (decide (i5_2 < ((a0_0.n : Nat) : Int))) then ((bif (decide (0 ≤ i5_2) && decide ((Int.toNat i5_2) < a0_0.n)) then some () else none : Option Unit).bind fun _ => (bif ((a0_0.f (Int.toNat i5_2)) != k1_1) then
    (k0 k1_1) else (go (IntKind.wrap .i64 (k1_1 + 1)) (IntKind.wrap .i64 (i5_2 + 1))))) else (k1 k1_1))
def F_laws_heldInt64S (fu : Nat) (a_0 : (Sl Int)) (k_1 : Int) : Option (Int) :=
  (L (fun w0 go0 => F_laws_heldInt64S_B0 fu a_0 (fun z59 => (some (-1))) (fun z60 => (some z60)) w0.1 w0.2 (fun q0 q1 => go0 (q0, q1))) fu ((k_1, 0) : Int × Int))
def pcf_laws_heldInt64S (fu : Nat) (f : Nat) (xs : List (D RT den)) : Option (Out RT den) := none
def pcx_laws_heldInt64S (fu : Nat) (f : Nat) (xs : List (D RT den)) (ins : List (Ob RT den)) : Option (OutX RT den) := none
def pc_laws_heldInt64S (fu : Nat) : Pc RT den := ⟨pcf_laws_heldInt64S fu, fun _ => false, fun _ => false, pcx_laws_heldInt64S fu⟩
def msk_laws_heldInt64S (b : Nat) : List Nat := match b with | 0 => [2, 3, 4, 6, 7, 8, 9, 10, 11, 12, 13, 14, 15, 16, 17, 18, 19, 20] | 100000 => [0, 2, 3, 5, 6, 7, 8, 9, 10, 11, 12, 13, 14, 15, 16, 17, 18, 19, 20] | _ => []
def ps_laws_heldInt64S_0 : List (Pat RT) := [.flat (.rs .i64), .flat (.int .i64), .flat .dead, .flat .dead, .flat .dead, .flat (.int .i64), .flat .dead, .flat .dead, .flat .dead, .flat .dead, .flat .dead, .flat .dead, .flat .dead, .flat .dead, .flat .dead, .flat .dead, .flat .dead, .flat .dead, .flat .dead, .flat .dead, .flat .dead]
def os_laws_heldInt64S_0 : List (OP RT) := []
def conv_laws_heldInt64S_0 (r : Raw den ps_laws_heldInt64S_0 os_laws_heldInt64S_0) : ((Sl Int)) × (Int × Int) := (r.1.1, (r.1.2.1, r.1.2.2.2.2.2.1))
def back_laws_heldInt64S_0 (c : (Sl Int)) (w : Int × Int) : St RT den := ⟨[(.rs c.z .i64 c.n c.f), (.int .i64 w.1), .dead, .dead, .dead, (.int .i64 w.2), .dead, .dead, .dead, .dead, .dead, .dead, .dead, .dead, .dead, .dead, .dead, .dead, .dead, .dead, .dead], []⟩
def Bk_laws_heldInt64S_0 {ρ : Type} (fu : Nat) (c : (Sl Int)) (k : Ex → St RT den → Option ρ) (w : Int × Int) (go : (Int × Int) → Option ρ) : Option ρ := F_laws_heldInt64S_B0 fu c (fun a0 => k .ret ⟨[.dead, (.int .i64 a0), .dead, .dead, (.int .i64 (-1)), .dead, .dead, .dead, .dead, .dead, .dead, .dead, .dead, .dead, .dead, .dead, .dead, .dead, .dead, .dead, .dead], []⟩) (fun a0 => k (.exit 0) ⟨[.dead, (.int .i64 a0), .dead, .dead, .dead, .dead, .dead, .dead, .dead, .dead, .dead, .dead, .dead, .dead, .dead, .dead, .dead, .dead, .dead, .dead, .dead], []⟩) w.1 w.2 (fun q0 q1 => go (q0, q1))
def lp_laws_heldInt64S (fu : Nat) : Lp RT den (Int) := fun b s k => match b with | 0 => handle ps_laws_heldInt64S_0 os_laws_heldInt64S_0 conv_laws_heldInt64S_0 (Bk_laws_heldInt64S_0 fu) fu s k | _ => none
theorem ev_laws_heldInt64S (fu : Nat) (a_0 : (Sl Int)) (k_1 : Int) : evFun E (pc_laws_heldInt64S fu) msk_laws_heldInt64S (lp_laws_heldInt64S fu) out_i64 52 [(.rs a_0.z .i64 a_0.n a_0.f), (.int .i64 k_1)] = F_laws_heldInt64S fu a_0 k_1 := by kernel_rfl
noncomputable def body_laws_heldInt64S : Code := Try.f52.body.getD .skip
noncomputable def lc_laws_heldInt64S_0 : Code := ((loops 0 body_laws_heldInt64S).getD 0 (0, .skip)).2
theorem round_laws_heldInt64S_0 (fu : Nat) (it : St RT den → Option (Int)) (k : Ex → St RT den → Option (Int)) c w : evCode E (pc_laws_heldInt64S fu) msk_laws_heldInt64S (lp_laws_heldInt64S fu) 0 lc_laws_heldInt64S_0 (back_laws_heldInt64S_0 c w) (after (msk_laws_heldInt64S 0) (msk_laws_heldInt64S 100000) 0 it k) = Bk_laws_heldInt64S_0 fu c k w (fun w => it (back_laws_heldInt64S_0 c w)) := by kernel_rfl
theorem lpok_laws_heldInt64S_0 (fu : Nat) : ∀ s k r, lp_laws_heldInt64S fu 0 s k = some r → ∃ fuel, iter (msk_laws_heldInt64S 0) (msk_laws_heldInt64S 100000) s.objs.length (evCode E (pc_laws_heldInt64S fu) msk_laws_heldInt64S (lp_laws_heldInt64S fu) 0 lc_laws_heldInt64S_0) fuel s k = some r :=
  handle_ok (ps := ps_laws_heldInt64S_0) (os := os_laws_heldInt64S_0) (conv := conv_laws_heldInt64S_0) (B := Bk_laws_heldInt64S_0 fu) (fu := fu) back_laws_heldInt64S_0 (fun raw => by kernel_rfl) 0 (fun c w => by kernel_rfl) (round_laws_heldInt64S_0 fu)
theorem lpok_laws_heldInt64S (fu : Nat) : LpOk E (pc_laws_heldInt64S fu) msk_laws_heldInt64S (lp_laws_heldInt64S fu) (loops 0 body_laws_heldInt64S) := loop_all 1 (by kernel_rfl) fun i hi => match i, hi with
  | 0, _ => by
    have h : (loops 0 body_laws_heldInt64S).getD 0 (0, .skip) = (0, lc_laws_heldInt64S_0) := by kernel_rfl
    rw [h]; exact lpok_laws_heldInt64S_0 fu
  | i + 1, hi => absurd hi (by omega)
def S_laws_heldInt64S (fu : Nat) (xs : List (D RT den)) : Option (Out RT den) := match xs with | [.rs za0_0 .i64 na0_0 fa0_0, .int .i64 a1_0] => some ⟨Int, F_laws_heldInt64S fu (⟨za0_0, na0_0, fa0_0⟩ : (Sl Int)) a1_0, enc_i64, fun _ => true⟩ | _ => none
theorem hpc_laws_heldInt64S (fu : Nat) : ∀ f xs o, pcf_laws_heldInt64S fu f xs = some o → ∀ y, o.x = some y → Good E Try.prog f xs (o.g y) := by
  intro f xs o h
  cases h
theorem hpx_laws_heldInt64S (fu : Nat) : ∀ f xs ins o, pcx_laws_heldInt64S fu f xs ins = some o → ∀ y, o.x = some y → GoodX E Try.prog f xs ins (o.g y).1 (o.g y).2 := by
  intro f xs ins o h
  cases h
theorem goodv_laws_heldInt64S (fu : Nat) (a_0 : (Sl Int)) (k_1 : Int) (y : Int) (hy : F_laws_heldInt64S fu a_0 k_1 = some y) : Good E Try.prog 52 [(.rs a_0.z .i64 a_0.n a_0.f), (.int .i64 k_1)] (enc_i64 y) :=
  fun_good E_ok (pc_good (pc := pc_laws_heldInt64S fu) (hpc_laws_heldInt64S fu) (hpx_laws_heldInt64S fu)) (fn := Try.f52) (c := body_laws_heldInt64S) (out := out_i64) (y := y) (by kernel_rfl) (by kernel_rfl) (by kernel_rfl) (lpok_laws_heldInt64S fu) (fun d hd => out_i64_enc d _ hd) ((ev_laws_heldInt64S fu a_0 k_1).trans hy)
theorem good_laws_heldInt64S (fu : Nat) : ∀ xs o, S_laws_heldInt64S fu xs = some o → ∀ y, o.x = some y → Good E Try.prog 52 xs (o.g y) := by
  intro xs o h y hy
  unfold S_laws_heldInt64S at h
  split at h
  · rename_i za0_0 na0_0 fa0_0 a1_0
    cases h
    exact goodv_laws_heldInt64S fu (⟨za0_0, na0_0, fa0_0⟩ : (Sl Int)) a1_0 y hy
  · cases h

/-! laws.heldVipS -/
def F_laws_heldVipS_B0 {ρ : Type} (fu : Nat) (a0_0 : (Sl S_impl_Vip)) (k0 : Int → Option ρ) (k1 : Int → Option ρ) (k1_1 : Int) (i5_2 : Int) (go : Int → Int → Option ρ) : Option ρ :=
  (bif (decide (i5_2 < ((a0_0.n : Nat) : Int))) then ((bif (decide (0 ≤ i5_2) && decide ((Int.toNat i5_2) < a0_0.n)) then some () else none : Option Unit).bind fun _ => (bif ((a0_0.f (Int.toNat i5_2)).Address != k1_1) then
    (k0 k1_1) else ((bif (decide (0 ≤ i5_2) && decide ((Int.toNat i5_2) < a0_0.n)) then some () else none : Option Unit).bind fun _ => (bif ((a0_0.f (Int.toNat i5_2)).Port != (IntKind.wrap .i64 (k1_1 + 1))) then
    (k0 (IntKind.wrap .i64 (k1_1 + 1))) else ((bif (decide (0 ≤ i5_2) && decide ((Int.toNat i5_2) < a0_0.n)) then some () else none : Option Unit).bind fun _ => (bif ((a0_0.f (Int.toNat i5_2)).Proto != (IntKind.wrap .i64 ((IntKind.wrap .i64 (k1_1 + 1)) + 1))) then
    (k0 (IntKind.wrap .i64 ((IntKind.wrap .i64 (k1_1 + 1)) + 1))) else ((bif (decide (0 ≤ i5_2) && decide ((Int.toNat i5_2) < a0_0.n)) then some () else none : Option Unit).bind fun _ =>
    ((F_laws_heldInt64S fu (a0_0.f (Int.toNat i5_2)).Names (IntKind.wrap .i64 ((IntKind.wrap .i64 ((IntKind.wrap .i64 (k1_1 + 1)) + 1)) + 1))).bind fun y56 => (bif (decide (y56 < 0)) then
    (k0 y56) else (go y56 (IntKind.wrap .i64 (i5_2 + 1)))))))))))) else (k1 k1_1))
def F_laws_heldVipS (fu : Nat) (a_0 : (Sl S_impl_Vip)) (k_1 : Int) : Option (Int) :=
  (L (fun w0 go0 => F_laws_heldVipS_B0 fu a_0 (fun z57 => (some (-1))) (fun z58 => (some z58)) w0.1 w0.2 (fun q0 q1 => go0 (q0, q1))) fu ((k_1, 0) : Int × Int))
def pcf_laws_heldVipS (fu : Nat) (f : Nat) (xs : List (D RT den)) : Option (Out RT den) := match f with | 52 => S_laws_heldInt64S fu xs | _ => none
def pcx_laws_heldVipS (fu : Nat) (f : Nat) (xs : List (D RT den)) (ins : List (Ob RT den)) : Option (OutX RT den) := none
def pc_laws_heldVipS (fu : Nat) : Pc RT den := ⟨pcf_laws_heldVipS fu, fun _ => false, fun _ => false, pcx_laws_heldVipS fu⟩
def msk_laws_heldVipS (b : Nat) : List Nat := match b with | 0 => [2, 3, 4, 6, 7, 8, 9, 10, 11, 12, 13, 14, 15, 16, 17, 18, 19, 20, 21, 22, 23, 24, 25, 26, 27, 28, 29, 30, 31, 32, 33, 34, 35, 36, 37, 38, 39, 40, 41, 42, 43, 44, 45, 46, 47, 48] | 100000 => [0, 2, 3, 5, 6, 7, 8, 9, 10, 11, 12, 13, 14, 15, 16, 17, 18, 19, 20, 21, 22, 23, 24, 25, 26, 27, 28, 29, 30, 31, 32, 33, 34, 35, 36, 37, 38, 39, 40, 41, 42, 43, 44, 45, 46, 47, 48] | _ => []
def ps_laws_heldVipS_0 : List (Pat RT) := [.flat (.rs .impl_Vip), .flat (.int .i64), .flat .dead, .flat .dead, .flat .dead, .flat (.int .i64), .flat .dead, .flat .dead, .flat .dead, .flat .dead, .flat .dead, .flat .dead, .flat .dead, .flat .dead, .flat .dead, .flat .dead, .flat .dead, .flat .dead, .flat .dead, .flat .dead, .flat .dead, .flat .dead, .flat .dead, .flat .dead, .flat .dead, .flat .dead, .flat .dead, .flat .dead, .flat .dead, .flat .dead, .flat .dead, .flat .dead, .flat .dead, .flat .dead, .flat .dead, .flat .dead, .flat .dead, .flat .dead, .flat .dead, .flat .dead, .flat .dead, .flat .dead, .flat .dead, .flat .dead, .flat .dead, .flat .dead, .flat .dead, .flat .dead, .flat .dead]
def os_laws_heldVipS_0 : List (OP RT) := []
def conv_laws_heldVipS_0 (r : Raw den ps_laws_heldVipS_0 os_laws_heldVipS_0) : ((Sl S_impl_Vip)) × (Int × Int) := (r.1.1, (r.1.2.1, r.1.2.2.2.2.2.1))
def back_laws_heldVipS_0 (c : (Sl S_impl_Vip)) (w : Int × Int) : St RT den := ⟨[(.rs c.z .impl_Vip c.n c.f), (.int .i64 w.1), .dead, .dead, .dead, (.int .i64 w.2), .dead, .dead, .dead, .dead, .dead, .dead, .dead, .dead, .dead, .dead, .dead, .dead, .dead, .dead, .dead, .dead, .dead, .dead, .dead, .dead, .dead, .dead, .dead, .dead, .dead, .dead, .dead, .dead, .dead, .dead, .dead, .dead, .dead, .dead, .dead, .dead, .dead, .dead, .dead, .dead, .dead, .dead, .dead], []⟩
def Bk_laws_heldVipS_0 {ρ : Type} (fu : Nat) (c : (Sl S_impl_Vip)) (k : Ex → St RT den → Option ρ) (w : Int × Int) (go : (Int × Int) → Option ρ) : Option ρ := F_laws_heldVipS_B0 fu c (fun a0 => k .ret ⟨[.dead, (.int .i64 a0), .dead, .dead, (.int .i64 (-1)), .dead, .dead, .dead, .dead, .dead, .dead, .dead, .dead, .dead, .dead, .dead, .dead, .dead, .dead, .dead, .dead, .dead, .dead, .dead, .dead, .dead, .dead, .dead, .dead, .dead, .dead, .dead, .dead, .dead, .dead, .dead, .dead, .dead, .dead, .dead, .dead, .dead, .dead, .dead, .dead, .dead, .dead, .dead, .dead], []⟩) (fun a0 => k (.exit 0) ⟨[.dead, (.int .i64 a0), .dead, .dead, .dead, .dead, .dead, .dead, .dead, .dead, .dead, .dead, .dead, .dead, .dead, .dead, .dead, .dead, .dead, .dead, .dead, .dead, .dead, .dead, .dead, .dead, .dead, .dead, .dead, .dead, .dead, .dead, .dead, .dead, .dead, .dead, .dead, .dead, .dead, .dead, .dead, .dead, .dead, .dead, .dead, .dead, .dead, .dead, .dead], []⟩) w.1 w.2 (fun q0 q1 => go (q0, q1))
def lp_laws_heldVipS (fu : Nat) : Lp RT den (Int) := fun b s k => match b with | 0 => handle ps_laws_heldVipS_0 os_laws_heldVipS_0 conv_laws_heldVipS_0 (Bk_laws_heldVipS_0 fu) fu s k | _ => none
theorem ev_laws_heldVipS (fu : Nat) (a_0 : (Sl S_impl_Vip)) (k_1 : Int) : evFun E (pc_laws_heldVipS fu) msk_laws_heldVipS (lp_laws_heldVipS fu) out_i64 57 [(.rs a_0.z .impl_Vip a_0.n a_0.f), (.int .i64 k_1)] = F_laws_heldVipS fu a_0 k_1 := by kernel_rfl
noncomputable def body_laws_heldVipS : Code := Try.f57.body.getD .skip
noncomputable def lc_laws_heldVipS_0 : Code := ((loops 0 body_laws_heldVipS).getD 0 (0, .skip)).2
theorem round_laws_heldVipS_0 (fu : Nat) (it : St RT den → Option (Int)) (k : Ex → St RT den → Option (Int)) c w : evCode E (pc_laws_heldVipS fu) msk_laws_heldVipS (lp_laws_heldVipS fu) 0 lc_laws_heldVipS_0 (back_laws_heldVipS_0 c w) (after (msk_laws_heldVipS 0) (msk_laws_heldVipS 100000) 0 it k) = Bk_laws_heldVipS_0 fu c k w (fun w => it (back_laws_heldVipS_0 c w)) := by kernel_rfl
theorem lpok_laws_heldVipS_0 (fu : Nat) : ∀ s k r, lp_laws_heldVipS fu 0 s k = some r → ∃ fuel, iter (msk_laws_heldVipS 0) (msk_laws_heldVipS 100000) s.objs.length (evCode E (pc_laws_heldVipS fu) msk_laws_heldVipS (lp_laws_heldVipS fu) 0 lc_laws_heldVipS_0) fuel s k = some r :=
  handle_ok (ps := ps_laws_heldVipS_0) (os := os_laws_heldVipS_0) (conv := conv_laws_heldVipS_0) (B := Bk_laws_heldVipS_0 fu) (fu := fu) back_laws_heldVipS_0 (fun raw => by kernel_rfl) 0 (fun c w => by kernel_rfl) (round_laws_heldVipS_0 fu)
theorem lpok_laws_heldVipS (fu : Nat) : LpOk E (pc_laws_heldVipS fu) msk_laws_heldVipS (lp_laws_heldVipS fu) (loops 0 body_laws_heldVipS) := loop_all 1 (by kernel_rfl) fun i hi => match i, hi with
  | 0, _ => by
    have h : (loops 0 body_laws_heldVipS).getD 0 (0, .skip) = (0, lc_laws_heldVipS_0) := by kernel_rfl
    rw [h]; exact lpok_laws_heldVipS_0 fu
  | i + 1, hi => absurd hi (by omega)
def S_laws_heldVipS (fu : Nat) (xs : List (D RT den)) : Option (Out RT den) := match xs with | [.rs za0_0 .impl_Vip na0_0 fa0_0, .int .i64 a1_0] => some ⟨Int, F_laws_heldVipS fu (⟨za0_0, na0_0, fa0_0⟩ : (Sl S_impl_Vip)) a1_0, enc_i64, fun _ => true⟩ | _ => none
theorem hpc_laws_heldVipS (fu : Nat) : ∀ f xs o, pcf_laws_heldVipS fu f xs = some o → ∀ y, o.x = some y → Good E Try.prog f xs (o.g y) := by
  intro f xs o h
  unfold pcf_laws_heldVipS at h
  split at h
  · exact good_laws_heldInt64S fu xs o h
  · cases h
theorem hpx_laws_heldVipS (fu : Nat) : ∀ f xs ins o, pcx_laws_heldVipS fu f xs ins = some o → ∀ y, o.x = some y → GoodX E Try.prog f xs ins (o.g y).1 (o.g y).2 := by
  intro f xs ins o h
  cases h
theorem goodv_laws_heldVipS (fu : Nat) (a_0 : (Sl S_impl_Vip)) (k_1 : Int) (y : Int) (hy : F_laws_heldVipS fu a_0 k_1 = some y) : Good E Try.prog 57 [(.rs a_0.z .impl_Vip a_0.n a_0.f), (.int .i64 k_1)] (enc_i64 y) :=
  fun_good E_ok (pc_good (pc := pc_laws_heldVipS fu) (hpc_laws_heldVipS fu) (hpx_laws_heldVipS fu)) (fn := Try.f57) (c := body_laws_heldVipS) (out := out_i64) (y := y) (by kernel_rfl) (by kernel_rfl) (by kernel_rfl) (lpok_laws_heldVipS fu) (fun d hd => out_i64_enc d _ hd) ((ev_laws_heldVipS fu a_0 k_1).trans hy)
theorem good_laws_heldVipS (fu : Nat) : ∀ xs o, S_laws_heldVipS fu xs = some o → ∀ y, o.x = some y → Good E Try.prog 57 xs (o.g y) := by
  intro xs o h y hy
  unfold S_laws_heldVipS at h
  split at h
  · rename_i za0_0 na0_0 fa0_0 a1_0
    cases h
    exact goodv_laws_heldVipS fu (⟨za0_0, na0_0, fa0_0⟩ : (Sl S_impl_Vip)) a1_0 y hy
  · cases h

/-! laws.heldConfig -/
def F_laws_heldConfig (fu : Nat) (a_0 : S_impl_Config) (k_1 : Int) : Option (Int) :=
  ((F_laws_heldBackendS fu a_0.Backends k_1).bind fun y52 => (bif (decide (y52 < 0)) then (some (-1)) else ((F_laws_heldVipS fu a_0.Vips y52).bind fun y53 => (bif (decide (y53 < 0)) then
    (some (-1)) else (some y53)))))
def pcf_laws_heldConfig (fu : Nat) (f : Nat) (xs : List (D RT den)) : Option (Out RT den) := match f with | 56 => S_laws_heldBackendS fu xs | 57 => S_laws_heldVipS fu xs | _ => none
def pcx_laws_heldConfig (fu : Nat) (f : Nat) (xs : List (D RT den)) (ins : List (Ob RT den)) : Option (OutX RT den) := none
def pc_laws_heldConfig (fu : Nat) : Pc RT den := ⟨pcf_laws_heldConfig fu, fun _ => false, fun _ => false, pcx_laws_heldConfig fu⟩
def msk_laws_heldConfig (b : Nat) : List Nat := []
def lp_laws_heldConfig (fu : Nat) : Lp RT den (Int) := fun b s k => none
theorem ev_laws_heldConfig (fu : Nat) (a_0 : S_impl_Config) (k_1 : Int) : evFun E (pc_laws_heldConfig fu) msk_laws_heldConfig (lp_laws_heldConfig fu) out_i64 51 [(.agg [(.int .i64 a_0.Version), (.rs a_0.Backends.z .impl_Backend a_0.Backends.n a_0.Backends.f), (.rs a_0.Vips.z .impl_Vip a_0.Vips.n a_0.Vips.f)]), (.int .i64 k_1)] = F_laws_heldConfig fu a_0 k_1 := by kernel_rfl
noncomputable def body_laws_heldConfig : Code := Try.f51.body.getD .skip
theorem lpok_laws_heldConfig (fu : Nat) : LpOk E (pc_laws_heldConfig fu) msk_laws_heldConfig (lp_laws_heldConfig fu) (loops 0 body_laws_heldConfig) := by
  have h : loops 0 body_laws_heldConfig = [] := by kernel_rfl
  rw [h]; intro p hp; cases hp
def S_laws_heldConfig (fu : Nat) (xs : List (D RT den)) : Option (Out RT den) := match xs with | [.agg [.int .i64 a0_1, .rs za0_2 .impl_Backend na0_2 fa0_2, .rs za0_3 .impl_Vip na0_3 fa0_3], .int .i64 a1_0] => some ⟨Int, F_laws_heldConfig fu (⟨a0_1, (⟨za0_2, na0_2, fa0_2⟩ : (Sl S_impl_Backend)), (⟨za0_3, na0_3, fa0_3⟩ : (Sl S_impl_Vip))⟩ : S_impl_Config) a1_0, enc_i64, fun _ => true⟩ | _ => none
theorem hpc_laws_heldConfig (fu : Nat) : ∀ f xs o, pcf_laws_heldConfig fu f xs = some o → ∀ y, o.x = some y → Good E Try.prog f xs (o.g y) := by
  intro f xs o h
  unfold pcf_laws_heldConfig at h
  split at h
  · exact good_laws_heldBackendS fu xs o h
  · exact good_laws_heldVipS fu xs o h
  · cases h
theorem hpx_laws_heldConfig (fu : Nat) : ∀ f xs ins o, pcx_laws_heldConfig fu f xs ins = some o → ∀ y, o.x = some y → GoodX E Try.prog f xs ins (o.g y).1 (o.g y).2 := by
  intro f xs ins o h
  cases h
theorem goodv_laws_heldConfig (fu : Nat) (a_0 : S_impl_Config) (k_1 : Int) (y : Int) (hy : F_laws_heldConfig fu a_0 k_1 = some y) : Good E Try.prog 51 [(.agg [(.int .i64 a_0.Version), (.rs a_0.Backends.z .impl_Backend a_0.Backends.n a_0.Backends.f), (.rs a_0.Vips.z .impl_Vip a_0.Vips.n a_0.Vips.f)]), (.int .i64 k_1)] (enc_i64 y) :=
  fun_good E_ok (pc_good (pc := pc_laws_heldConfig fu) (hpc_laws_heldConfig fu) (hpx_laws_heldConfig fu)) (fn := Try.f51) (c := body_laws_heldConfig) (out := out_i64) (y := y) (by kernel_rfl) (by kernel_rfl) (by kernel_rfl) (lpok_laws_heldConfig fu) (fun d hd => out_i64_enc d _ hd) ((ev_laws_heldConfig fu a_0 k_1).trans hy)
theorem good_laws_heldConfig (fu : Nat) : ∀ xs o, S_laws_heldConfig fu xs = some o → ∀ y, o.x = some y → Good E Try.prog 51 xs (o.g y) := by
  intro xs o h y hy
  unfold S_laws_heldConfig at h
  split at h
  · rename_i a0_1 za0_2 na0_2 fa0_2 za0_3 na0_3 fa0_3 a1_0
    cases h
    exact goodv_laws_heldConfig fu (⟨a0_1, (⟨za0_2, na0_2, fa0_2⟩ : (Sl S_impl_Backend)), (⟨za0_3, na0_3, fa0_3⟩ : (Sl S_impl_Vip))⟩ : S_impl_Config) a1_0 y hy
  · cases h

/-! laws.heldWatch -/
def F_laws_heldWatch (fu : Nat) (a_0 : S_impl_Watch) (k_1 : Int) : Option (Int) :=
  ((F_laws_heldConfig fu a_0.Config k_1).bind fun y51 => (bif (decide (y51 < 0)) then (some (-1)) else (some y51)))
def pcf_laws_heldWatch (fu : Nat) (f : Nat) (xs : List (D RT den)) : Option (Out RT den) := match f with | 51 => S_laws_heldConfig fu xs | _ => none
def pcx_laws_heldWatch (fu : Nat) (f : Nat) (xs : List (D RT den)) (ins : List (Ob RT den)) : Option (OutX RT den) := none
def pc_laws_heldWatch (fu : Nat) : Pc RT den := ⟨pcf_laws_heldWatch fu, fun _ => false, fun _ => false, pcx_laws_heldWatch fu⟩
def msk_laws_heldWatch (b : Nat) : List Nat := []
def lp_laws_heldWatch (fu : Nat) : Lp RT den (Int) := fun b s k => none
theorem ev_laws_heldWatch (fu : Nat) (a_0 : S_impl_Watch) (k_1 : Int) : evFun E (pc_laws_heldWatch fu) msk_laws_heldWatch (lp_laws_heldWatch fu) out_i64 37 [(.agg [(.bool a_0.Ready), (.int .i64 a_0.Config.Version), (.rs a_0.Config.Backends.z .impl_Backend a_0.Config.Backends.n a_0.Config.Backends.f), (.rs a_0.Config.Vips.z .impl_Vip a_0.Config.Vips.n a_0.Config.Vips.f)]), (.int .i64 k_1)] = F_laws_heldWatch fu a_0 k_1 := by kernel_rfl
noncomputable def body_laws_heldWatch : Code := Try.f37.body.getD .skip
theorem lpok_laws_heldWatch (fu : Nat) : LpOk E (pc_laws_heldWatch fu) msk_laws_heldWatch (lp_laws_heldWatch fu) (loops 0 body_laws_heldWatch) := by
  have h : loops 0 body_laws_heldWatch = [] := by kernel_rfl
  rw [h]; intro p hp; cases hp
def S_laws_heldWatch (fu : Nat) (xs : List (D RT den)) : Option (Out RT den) := match xs with | [.agg [.bool a0_1, .int .i64 a0_3, .rs za0_4 .impl_Backend na0_4 fa0_4, .rs za0_5 .impl_Vip na0_5 fa0_5], .int .i64 a1_0] => some ⟨Int, F_laws_heldWatch fu (⟨a0_1, (⟨a0_3, (⟨za0_4, na0_4, fa0_4⟩ : (Sl S_impl_Backend)), (⟨za0_5, na0_5, fa0_5⟩ : (Sl S_impl_Vip))⟩ : S_impl_Config)⟩ : S_impl_Watch) a1_0, enc_i64, fun _ => true⟩ | _ => none
theorem hpc_laws_heldWatch (fu : Nat) : ∀ f xs o, pcf_laws_heldWatch fu f xs = some o → ∀ y, o.x = some y → Good E Try.prog f xs (o.g y) := by
  intro f xs o h
  unfold pcf_laws_heldWatch at h
  split at h
  · exact good_laws_heldConfig fu xs o h
  · cases h
theorem hpx_laws_heldWatch (fu : Nat) : ∀ f xs ins o, pcx_laws_heldWatch fu f xs ins = some o → ∀ y, o.x = some y → GoodX E Try.prog f xs ins (o.g y).1 (o.g y).2 := by
  intro f xs ins o h
  cases h
theorem goodv_laws_heldWatch (fu : Nat) (a_0 : S_impl_Watch) (k_1 : Int) (y : Int) (hy : F_laws_heldWatch fu a_0 k_1 = some y) : Good E Try.prog 37 [(.agg [(.bool a_0.Ready), (.int .i64 a_0.Config.Version), (.rs a_0.Config.Backends.z .impl_Backend a_0.Config.Backends.n a_0.Config.Backends.f), (.rs a_0.Config.Vips.z .impl_Vip a_0.Config.Vips.n a_0.Config.Vips.f)]), (.int .i64 k_1)] (enc_i64 y) :=
  fun_good E_ok (pc_good (pc := pc_laws_heldWatch fu) (hpc_laws_heldWatch fu) (hpx_laws_heldWatch fu)) (fn := Try.f37) (c := body_laws_heldWatch) (out := out_i64) (y := y) (by kernel_rfl) (by kernel_rfl) (by kernel_rfl) (lpok_laws_heldWatch fu) (fun d hd => out_i64_enc d _ hd) ((ev_laws_heldWatch fu a_0 k_1).trans hy)
theorem good_laws_heldWatch (fu : Nat) : ∀ xs o, S_laws_heldWatch fu xs = some o → ∀ y, o.x = some y → Good E Try.prog 37 xs (o.g y) := by
  intro xs o h y hy
  unfold S_laws_heldWatch at h
  split at h
  · rename_i a0_1 a0_3 za0_4 na0_4 fa0_4 za0_5 na0_5 fa0_5 a1_0
    cases h
    exact goodv_laws_heldWatch fu (⟨a0_1, (⟨a0_3, (⟨za0_4, na0_4, fa0_4⟩ : (Sl S_impl_Backend)), (⟨za0_5, na0_5, fa0_5⟩ : (Sl S_impl_Vip))⟩ : S_impl_Config)⟩ : S_impl_Watch) a1_0 y hy
  · cases h

/-! laws.heldInt64SS -/
def F_laws_heldInt64SS_B0 {ρ : Type} (fu : Nat) (a0_0 : (Sl (Sl Int))) (k0 : Int → Option ρ) (k1 : Int → Option ρ) (k1_1 : Int) (i5_2 : Int) (go : Int → Int → Option ρ) : Option ρ :=
  (bif (decide (i5_2 < ((a0_0.n : Nat) : Int))) then ((bif (decide (0 ≤ i5_2) && decide ((Int.toNat i5_2) < a0_0.n)) then some () else none : Option Unit).bind fun _ =>
    ((F_laws_heldInt64S fu (a0_0.f (Int.toNat i5_2)) k1_1).bind fun y61 => (bif (decide (y61 < 0)) then (k0 y61) else (go y61 (IntKind.wrap .i64 (i5_2 + 1)))))) else (k1 k1_1))
def F_laws_heldInt64SS (fu : Nat) (a_0 : (Sl (Sl Int))) (k_1 : Int) : Option (Int) :=
  (L (fun w0 go0 => F_laws_heldInt64SS_B0 fu a_0 (fun z62 => (some (-1))) (fun z63 => (some z63)) w0.1 w0.2 (fun q0 q1 => go0 (q0, q1))) fu ((k_1, 0) : Int × Int))
def pcf_laws_heldInt64SS (fu : Nat) (f : Nat) (xs : List (D RT den)) : Option (Out RT den) := match f with | 52 => S_laws_heldInt64S fu xs | _ => none
def pcx_laws_heldInt64SS (fu : Nat) (f : Nat) (xs : List (D RT den)) (ins : List (Ob RT den)) : Option (OutX RT den) := none
def pc_laws_heldInt64SS (fu : Nat) : Pc RT den := ⟨pcf_laws_heldInt64SS fu, fun _ => false, fun _ => false, pcx_laws_heldInt64SS fu⟩
def msk_laws_heldInt64SS (b : Nat) : List Nat := match b with | 0 => [2, 3, 4, 6, 7, 8, 9, 10, 11, 12, 13, 14, 15, 16, 17, 18, 19, 20] | 100000 => [0, 2, 3, 5, 6, 7, 8, 9, 10, 11, 12, 13, 14, 15, 16, 17, 18, 19, 20] | _ => []
def ps_laws_heldInt64SS_0 : List (Pat RT) := [.flat (.rs .sl_i64), .flat (.int .i64), .flat .dead, .flat .dead, .flat .dead, .flat (.int .i64), .flat .dead, .flat .dead, .flat .dead, .flat .dead, .flat .dead, .flat .dead, .flat .dead, .flat .dead, .flat .dead, .flat .dead, .flat .dead, .flat .dead, .flat .dead, .flat .dead, .flat .dead]
def os_laws_heldInt64SS_0 : List (OP RT) := []
def conv_laws_heldInt64SS_0 (r : Raw den ps_laws_heldInt64SS_0 os_laws_heldInt64SS_0) : ((Sl (Sl Int))) × (Int × Int) := (r.1.1, (r.1.2.1, r.1.2.2.2.2.2.1))
def back_laws_heldInt64SS_0 (c : (Sl (Sl Int))) (w : Int × Int) : St RT den := ⟨[(.rs c.z .sl_i64 c.n c.f), (.int .i64 w.1), .dead, .dead, .dead, (.int .i64 w.2), .dead, .dead, .dead, .dead, .dead, .dead, .dead, .dead, .dead, .dead, .dead, .dead, .dead, .dead, .dead], []⟩
def Bk_laws_heldInt64SS_0 {ρ : Type} (fu : Nat) (c : (Sl (Sl Int))) (k : Ex → St RT den → Option ρ) (w : Int × Int) (go : (Int × Int) → Option ρ) : Option ρ := F_laws_heldInt64SS_B0 fu c (fun a0 => k .ret ⟨[.dead, (.int .i64 a0), .dead, .dead, (.int .i64 (-1)), .dead, .dead, .dead, .dead, .dead, .dead, .dead, .dead, .dead, .dead, .dead, .dead, .dead, .dead, .dead, .dead], []⟩) (fun a0 => k (.exit 0) ⟨[.dead, (.int .i64 a0), .dead, .dead, .dead, .dead, .dead, .dead, .dead, .dead, .dead, .dead, .dead, .dead, .dead, .dead, .dead, .dead, .dead, .dead, .dead], []⟩) w.1 w.2 (fun q0 q1 => go (q0, q1))
def lp_laws_heldInt64SS (fu : Nat) : Lp RT den (Int) := fun b s k => match b with | 0 => handle ps_laws_heldInt64SS_0 os_laws_heldInt64SS_0 conv_laws_heldInt64SS_0 (Bk_laws_heldInt64SS_0 fu) fu s k | _ => none
theorem ev_laws_heldInt64SS (fu : Nat) (a_0 : (Sl (Sl Int))) (k_1 : Int) : evFun E (pc_laws_heldInt64SS fu) msk_laws_heldInt64SS (lp_laws_heldInt64SS fu) out_i64 38 [(.rs a_0.z .sl_i64 a_0.n a_0.f), (.int .i64 k_1)] = F_laws_heldInt64SS fu a_0 k_1 := by kernel_rfl
noncomputable def body_laws_heldInt64SS : Code := Try.f38.body.getD .skip
noncomputable def lc_laws_heldInt64SS_0 : Code := ((loops 0 body_laws_heldInt64SS).getD 0 (0, .skip)).2
theorem round_laws_heldInt64SS_0 (fu : Nat) (it : St RT den → Option (Int)) (k : Ex → St RT den → Option (Int)) c w : evCode E (pc_laws_heldInt64SS fu) msk_laws_heldInt64SS (lp_laws_heldInt64SS fu) 0 lc_laws_heldInt64SS_0 (back_laws_heldInt64SS_0 c w) (after (msk_laws_heldInt64SS 0) (msk_laws_heldInt64SS 100000) 0 it k) = Bk_laws_heldInt64SS_0 fu c k w (fun w => it (back_laws_heldInt64SS_0 c w)) := by kernel_rfl
theorem lpok_laws_heldInt64SS_0 (fu : Nat) : ∀ s k r, lp_laws_heldInt64SS fu 0 s k = some r → ∃ fuel, iter (msk_laws_heldInt64SS 0) (msk_laws_heldInt64SS 100000) s.objs.length (evCode E (pc_laws_heldInt64SS fu) msk_laws_heldInt64SS (lp_laws_heldInt64SS fu) 0 lc_laws_heldInt64SS_0) fuel s k = some r :=
  handle_ok (ps := ps_laws_heldInt64SS_0) (os := os_laws_heldInt64SS_0) (conv := conv_laws_heldInt64SS_0) (B := Bk_laws_heldInt64SS_0 fu) (fu := fu) back_laws_heldInt64SS_0 (fun raw => by kernel_rfl) 0 (fun c w => by kernel_rfl) (round_laws_heldInt64SS_0 fu)
theorem lpok_laws_heldInt64SS (fu : Nat) : LpOk E (pc_laws_heldInt64SS fu) msk_laws_heldInt64SS (lp_laws_heldInt64SS fu) (loops 0 body_laws_heldInt64SS) := loop_all 1 (by kernel_rfl) fun i hi => match i, hi with
  | 0, _ => by
    have h : (loops 0 body_laws_heldInt64SS).getD 0 (0, .skip) = (0, lc_laws_heldInt64SS_0) := by kernel_rfl
    rw [h]; exact lpok_laws_heldInt64SS_0 fu
  | i + 1, hi => absurd hi (by omega)
def S_laws_heldInt64SS (fu : Nat) (xs : List (D RT den)) : Option (Out RT den) := match xs with | [.rs za0_0 .sl_i64 na0_0 fa0_0, .int .i64 a1_0] => some ⟨Int, F_laws_heldInt64SS fu (⟨za0_0, na0_0, fa0_0⟩ : (Sl (Sl Int))) a1_0, enc_i64, fun _ => true⟩ | _ => none
theorem hpc_laws_heldInt64SS (fu : Nat) : ∀ f xs o, pcf_laws_heldInt64SS fu f xs = some o → ∀ y, o.x = some y → Good E Try.prog f xs (o.g y) := by
  intro f xs o h
  unfold pcf_laws_heldInt64SS at h
  split at h
  · exact good_laws_heldInt64S fu xs o h
  · cases h
theorem hpx_laws_heldInt64SS (fu : Nat) : ∀ f xs ins o, pcx_laws_heldInt64SS fu f xs ins = some o → ∀ y, o.x = some y → GoodX E Try.prog f xs ins (o.g y).1 (o.g y).2 := by
  intro f xs ins o h
  cases h
theorem goodv_laws_heldInt64SS (fu : Nat) (a_0 : (Sl (Sl Int))) (k_1 : Int) (y : Int) (hy : F_laws_heldInt64SS fu a_0 k_1 = some y) : Good E Try.prog 38 [(.rs a_0.z .sl_i64 a_0.n a_0.f), (.int .i64 k_1)] (enc_i64 y) :=
  fun_good E_ok (pc_good (pc := pc_laws_heldInt64SS fu) (hpc_laws_heldInt64SS fu) (hpx_laws_heldInt64SS fu)) (fn := Try.f38) (c := body_laws_heldInt64SS) (out := out_i64) (y := y) (by kernel_rfl) (by kernel_rfl) (by kernel_rfl) (lpok_laws_heldInt64SS fu) (fun d hd => out_i64_enc d _ hd) ((ev_laws_heldInt64SS fu a_0 k_1).trans hy)
theorem good_laws_heldInt64SS (fu : Nat) : ∀ xs o, S_laws_heldInt64SS fu xs = some o → ∀ y, o.x = some y → Good E Try.prog 38 xs (o.g y) := by
  intro xs o h y hy
  unfold S_laws_heldInt64SS at h
  split at h
  · rename_i za0_0 na0_0 fa0_0 a1_0
    cases h
    exact goodv_laws_heldInt64SS fu (⟨za0_0, na0_0, fa0_0⟩ : (Sl (Sl Int))) a1_0 y hy
  · cases h

/-! laws.heldHeldS -/
def F_laws_heldHeldS_B0 {ρ : Type} (fu : Nat) (a0_0 : (Sl S_impl_Held)) (k0 : Int → Option ρ) (k1 : Int → Option ρ) (k1_1 : Int) (i5_2 : Int) (go : Int → Int → Option ρ) : Option ρ :=
  (bif (decide (i5_2 < ((a0_0.n : Nat) : Int))) then ((bif (decide (0 ≤ i5_2) && decide ((Int.toNat i5_2) < a0_0.n)) then some () else none : Option Unit).bind fun _ => (bif ((a0_0.f (Int.toNat i5_2)).Flow.From != k1_1) then
    (k0 k1_1) else ((bif (decide (0 ≤ i5_2) && decide ((Int.toNat i5_2) < a0_0.n)) then some () else none : Option Unit).bind fun _ => (bif ((a0_0.f (Int.toNat i5_2)).Flow.To != (IntKind.wrap .i64 (k1_1 + 1))) then
    (k0 (IntKind.wrap .i64 (k1_1 + 1))) else ((bif (decide (0 ≤ i5_2) && decide ((Int.toNat i5_2) < a0_0.n)) then some () else none : Option Unit).bind fun _ => (bif ((a0_0.f (Int.toNat i5_2)).Flow.Proto != (IntKind.wrap .i64 ((IntKind.wrap .i64 (k1_1 + 1)) + 1))) then
    (k0 (IntKind.wrap .i64 ((IntKind.wrap .i64 (k1_1 + 1)) + 1))) else ((bif (decide (0 ≤ i5_2) && decide ((Int.toNat i5_2) < a0_0.n)) then some () else none : Option Unit).bind fun _ =>
    (bif ((a0_0.f (Int.toNat i5_2)).Flow.FromP != (IntKind.wrap .i64 ((IntKind.wrap .i64 ((IntKind.wrap .i64 (k1_1 + 1)) + 1)) + 1))) then (k0 (IntKind.wrap .i64 ((IntKind.wrap .i64 ((IntKind.wrap .i64 (k1_1 + 1)) + 1)) + 1))) else
    ((bif (decide (0 ≤ i5_2) && decide ((Int.toNat i5_2) < a0_0.n)) then some () else none : Option Unit).bind fun _ => (bif ((a0_0.f (Int.toNat i5_2)).Flow.ToP != (IntKind.wrap .i64 ((IntKind.wrap .i64 ((IntKind.wrap .i64 ((IntKind.wrap .i64 (k1_1 + 1)) + 1)) + 1)) + 1))) then
    (k0 (IntKind.wrap .i64 ((IntKind.wrap .i64 ((IntKind.wrap .i64 ((IntKind.wrap .i64 (k1_1 + 1)) + 1)) + 1)) + 1))) else ((bif (decide (0 ≤ i5_2) && decide ((Int.toNat i5_2) < a0_0.n)) then
    some () else none : Option Unit).bind fun _ => (bif ((a0_0.f (Int.toNat i5_2)).Name != (IntKind.wrap .i64 ((IntKind.wrap .i64 ((IntKind.wrap .i64 ((IntKind.wrap .i64 ((IntKind.wrap .i64 (k1_1 + 1)) + 1)) + 1)) + 1)) + 1))) then
    (k0 (IntKind.wrap .i64 ((IntKind.wrap .i64 ((IntKind.wrap .i64 ((IntKind.wrap .i64 ((IntKind.wrap .i64 (k1_1 + 1)) + 1)) + 1)) + 1)) + 1))) else ((bif (decide (0 ≤ i5_2) &&
    decide ((Int.toNat i5_2) < a0_0.n)) then some () else none : Option Unit).bind fun _ => (bif ((a0_0.f (Int.toNat i5_2)).Seen != (IntKind.wrap .i64 ((IntKind.wrap .i64 ((IntKind.wrap .i64 ((IntKind.wrap .i64 ((IntKind.wrap .i64 ((IntKind.wrap .i64 (k1_1 + 1)) + 1)) + 1)) + 1)) + 1)) + 1))) then
    (k0 (IntKind.wrap .i64 ((IntKind.wrap .i64 ((IntKind.wrap .i64 ((IntKind.wrap .i64 ((IntKind.wrap .i64 ((IntKind.wrap .i64 (k1_1 + 1)) + 1)) + 1)) + 1)) + 1)) + 1))) else (go (IntKind.wrap .i64 ((IntKind.wrap .i64 ((IntKind.wrap .i64 ((IntKind.wrap .i64 ((IntKind.wrap .i64 ((IntKind.wrap .i64 ((IntKind.wrap .i64 (k1_1 + 1)) + 1)) + 1)) + 1)) + 1)) + 1)) + 1)) (IntKind.wrap .i64 (i5_2 + 1))))))))))))))))) else
    (k1 k1_1))
def F_laws_heldHeldS (fu : Nat) (a_0 : (Sl S_impl_Held)) (k_1 : Int) : Option (Int) :=
  (L (fun w0 go0 => F_laws_heldHeldS_B0 fu a_0 (fun z64 => (some (-1))) (fun z65 => (some z65)) w0.1 w0.2 (fun q0 q1 => go0 (q0, q1))) fu ((k_1, 0) : Int × Int))
def pcf_laws_heldHeldS (fu : Nat) (f : Nat) (xs : List (D RT den)) : Option (Out RT den) := none
def pcx_laws_heldHeldS (fu : Nat) (f : Nat) (xs : List (D RT den)) (ins : List (Ob RT den)) : Option (OutX RT den) := none
def pc_laws_heldHeldS (fu : Nat) : Pc RT den := ⟨pcf_laws_heldHeldS fu, fun _ => false, fun _ => false, pcx_laws_heldHeldS fu⟩
def msk_laws_heldHeldS (b : Nat) : List Nat := match b with | 0 => [2, 3, 4, 6, 7, 8, 9, 10, 11, 12, 13, 14, 15, 16, 17, 18, 19, 20, 21, 22, 23, 24, 25, 26, 27, 28, 29, 30, 31, 32, 33, 34, 35, 36, 37, 38, 39, 40, 41, 42, 43, 44, 45, 46, 47, 48, 49, 50, 51, 52, 53, 54, 55, 56, 57, 58, 59, 60, 61, 62, 63, 64, 65, 66, 67, 68, 69, 70, 71, 72, 73, 74, 75, 76, 77, 78, 79, 80] | 100000 => [0, 2, 3, 5, 6, 7, 8, 9, 10, 11, 12, 13, 14, 15, 16, 17, 18, 19, 20, 21, 22, 23, 24, 25, 26, 27, 28, 29, 30, 31, 32, 33, 34, 35, 36, 37, 38, 39, 40, 41, 42, 43, 44, 45, 46, 47, 48, 49, 50, 51, 52, 53, 54, 55, 56, 57, 58, 59, 60, 61, 62, 63, 64, 65, 66, 67, 68, 69, 70, 71, 72, 73, 74, 75, 76, 77, 78, 79, 80] | _ => []
def ps_laws_heldHeldS_0 : List (Pat RT) := [.flat (.rs .impl_Held), .flat (.int .i64), .flat .dead, .flat .dead, .flat .dead, .flat (.int .i64), .flat .dead, .flat .dead, .flat .dead, .flat .dead, .flat .dead, .flat .dead, .flat .dead, .flat .dead, .flat .dead, .flat .dead, .flat .dead, .flat .dead, .flat .dead, .flat .dead, .flat .dead, .flat .dead, .flat .dead, .flat .dead, .flat .dead, .flat .dead, .flat .dead, .flat .dead, .flat .dead, .flat .dead, .flat .dead, .flat .dead, .flat .dead, .flat .dead, .flat .dead, .flat .dead, .flat .dead, .flat .dead, .flat .dead, .flat .dead, .flat .dead, .flat .dead, .flat .dead, .flat .dead, .flat .dead, .flat .dead, .flat .dead, .flat .dead, .flat .dead, .flat .dead, .flat .dead, .flat .dead, .flat .dead, .flat .dead, .flat .dead, .flat .dead, .flat .dead, .flat .dead, .flat .dead, .flat .dead, .flat .dead, .flat .dead, .flat .dead, .flat .dead, .flat .dead, .flat .dead, .flat .dead, .flat .dead, .flat .dead, .flat .dead, .flat .dead, .flat .dead, .flat .dead, .flat .dead, .flat .dead, .flat .dead, .flat .dead, .flat .dead, .flat .dead, .flat .dead, .flat .dead]
def os_laws_heldHeldS_0 : List (OP RT) := []
def conv_laws_heldHeldS_0 (r : Raw den ps_laws_heldHeldS_0 os_laws_heldHeldS_0) : ((Sl S_impl_Held)) × (Int × Int) := (r.1.1, (r.1.2.1, r.1.2.2.2.2.2.1))
def back_laws_heldHeldS_0 (c : (Sl S_impl_Held)) (w : Int × Int) : St RT den := ⟨[(.rs c.z .impl_Held c.n c.f), (.int .i64 w.1), .dead, .dead, .dead, (.int .i64 w.2), .dead, .dead, .dead, .dead, .dead, .dead, .dead, .dead, .dead, .dead, .dead, .dead, .dead, .dead, .dead, .dead, .dead, .dead, .dead, .dead, .dead, .dead, .dead, .dead, .dead, .dead, .dead, .dead, .dead, .dead, .dead, .dead, .dead, .dead, .dead, .dead, .dead, .dead, .dead, .dead, .dead, .dead, .dead, .dead, .dead, .dead, .dead, .dead, .dead, .dead, .dead, .dead, .dead, .dead, .dead, .dead, .dead, .dead, .dead, .dead, .dead, .dead, .dead, .dead, .dead, .dead, .dead, .dead, .dead, .dead, .dead, .dead, .dead, .dead, .dead], []⟩
def Bk_laws_heldHeldS_0 {ρ : Type} (fu : Nat) (c : (Sl S_impl_Held)) (k : Ex → St RT den → Option ρ) (w : Int × Int) (go : (Int × Int) → Option ρ) : Option ρ := F_laws_heldHeldS_B0 fu c (fun a0 => k .ret ⟨[.dead, (.int .i64 a0), .dead, .dead, (.int .i64 (-1)), .dead, .dead, .dead, .dead, .dead, .dead, .dead, .dead, .dead, .dead, .dead, .dead, .dead, .dead, .dead, .dead, .dead, .dead, .dead, .dead, .dead, .dead, .dead, .dead, .dead, .dead, .dead, .dead, .dead, .dead, .dead, .dead, .dead, .dead, .dead, .dead, .dead, .dead, .dead, .dead, .dead, .dead, .dead, .dead, .dead, .dead, .dead, .dead, .dead, .dead, .dead, .dead, .dead, .dead, .dead, .dead, .dead, .dead, .dead, .dead, .dead, .dead, .dead, .dead, .dead, .dead, .dead, .dead, .dead, .dead, .dead, .dead, .dead, .dead, .dead, .dead], []⟩) (fun a0 => k (.exit 0) ⟨[.dead, (.int .i64 a0), .dead, .dead, .dead, .dead, .dead, .dead, .dead, .dead, .dead, .dead, .dead, .dead, .dead, .dead, .dead, .dead, .dead, .dead, .dead, .dead, .dead, .dead, .dead, .dead, .dead, .dead, .dead, .dead, .dead, .dead, .dead, .dead, .dead, .dead, .dead, .dead, .dead, .dead, .dead, .dead, .dead, .dead, .dead, .dead, .dead, .dead, .dead, .dead, .dead, .dead, .dead, .dead, .dead, .dead, .dead, .dead, .dead, .dead, .dead, .dead, .dead, .dead, .dead, .dead, .dead, .dead, .dead, .dead, .dead, .dead, .dead, .dead, .dead, .dead, .dead, .dead, .dead, .dead, .dead], []⟩) w.1 w.2 (fun q0 q1 => go (q0, q1))
def lp_laws_heldHeldS (fu : Nat) : Lp RT den (Int) := fun b s k => match b with | 0 => handle ps_laws_heldHeldS_0 os_laws_heldHeldS_0 conv_laws_heldHeldS_0 (Bk_laws_heldHeldS_0 fu) fu s k | _ => none
theorem ev_laws_heldHeldS (fu : Nat) (a_0 : (Sl S_impl_Held)) (k_1 : Int) : evFun E (pc_laws_heldHeldS fu) msk_laws_heldHeldS (lp_laws_heldHeldS fu) out_i64 39 [(.rs a_0.z .impl_Held a_0.n a_0.f), (.int .i64 k_1)] = F_laws_heldHeldS fu a_0 k_1 := by kernel_rfl
noncomputable def body_laws_heldHeldS : Code := Try.f39.body.getD .skip
noncomputable def lc_laws_heldHeldS_0 : Code := ((loops 0 body_laws_heldHeldS).getD 0 (0, .skip)).2
theorem round_laws_heldHeldS_0 (fu : Nat) (it : St RT den → Option (Int)) (k : Ex → St RT den → Option (Int)) c w : evCode E (pc_laws_heldHeldS fu) msk_laws_heldHeldS (lp_laws_heldHeldS fu) 0 lc_laws_heldHeldS_0 (back_laws_heldHeldS_0 c w) (after (msk_laws_heldHeldS 0) (msk_laws_heldHeldS 100000) 0 it k) = Bk_laws_heldHeldS_0 fu c k w (fun w => it (back_laws_heldHeldS_0 c w)) := by kernel_rfl
theorem lpok_laws_heldHeldS_0 (fu : Nat) : ∀ s k r, lp_laws_heldHeldS fu 0 s k = some r → ∃ fuel, iter (msk_laws_heldHeldS 0) (msk_laws_heldHeldS 100000) s.objs.length (evCode E (pc_laws_heldHeldS fu) msk_laws_heldHeldS (lp_laws_heldHeldS fu) 0 lc_laws_heldHeldS_0) fuel s k = some r :=
  handle_ok (ps := ps_laws_heldHeldS_0) (os := os_laws_heldHeldS_0) (conv := conv_laws_heldHeldS_0) (B := Bk_laws_heldHeldS_0 fu) (fu := fu) back_laws_heldHeldS_0 (fun raw => by kernel_rfl) 0 (fun c w => by kernel_rfl) (round_laws_heldHeldS_0 fu)
theorem lpok_laws_heldHeldS (fu : Nat) : LpOk E (pc_laws_heldHeldS fu) msk_laws_heldHeldS (lp_laws_heldHeldS fu) (loops 0 body_laws_heldHeldS) := loop_all 1 (by kernel_rfl) fun i hi => match i, hi with
  | 0, _ => by
    have h : (loops 0 body_laws_heldHeldS).getD 0 (0, .skip) = (0, lc_laws_heldHeldS_0) := by kernel_rfl
    rw [h]; exact lpok_laws_heldHeldS_0 fu
  | i + 1, hi => absurd hi (by omega)
def S_laws_heldHeldS (fu : Nat) (xs : List (D RT den)) : Option (Out RT den) := match xs with | [.rs za0_0 .impl_Held na0_0 fa0_0, .int .i64 a1_0] => some ⟨Int, F_laws_heldHeldS fu (⟨za0_0, na0_0, fa0_0⟩ : (Sl S_impl_Held)) a1_0, enc_i64, fun _ => true⟩ | _ => none
theorem hpc_laws_heldHeldS (fu : Nat) : ∀ f xs o, pcf_laws_heldHeldS fu f xs = some o → ∀ y, o.x = some y → Good E Try.prog f xs (o.g y) := by
  intro f xs o h
  cases h
theorem hpx_laws_heldHeldS (fu : Nat) : ∀ f xs ins o, pcx_laws_heldHeldS fu f xs ins = some o → ∀ y, o.x = some y → GoodX E Try.prog f xs ins (o.g y).1 (o.g y).2 := by
  intro f xs ins o h
  cases h
theorem goodv_laws_heldHeldS (fu : Nat) (a_0 : (Sl S_impl_Held)) (k_1 : Int) (y : Int) (hy : F_laws_heldHeldS fu a_0 k_1 = some y) : Good E Try.prog 39 [(.rs a_0.z .impl_Held a_0.n a_0.f), (.int .i64 k_1)] (enc_i64 y) :=
  fun_good E_ok (pc_good (pc := pc_laws_heldHeldS fu) (hpc_laws_heldHeldS fu) (hpx_laws_heldHeldS fu)) (fn := Try.f39) (c := body_laws_heldHeldS) (out := out_i64) (y := y) (by kernel_rfl) (by kernel_rfl) (by kernel_rfl) (lpok_laws_heldHeldS fu) (fun d hd => out_i64_enc d _ hd) ((ev_laws_heldHeldS fu a_0 k_1).trans hy)
theorem good_laws_heldHeldS (fu : Nat) : ∀ xs o, S_laws_heldHeldS fu xs = some o → ∀ y, o.x = some y → Good E Try.prog 39 xs (o.g y) := by
  intro xs o h y hy
  unfold S_laws_heldHeldS at h
  split at h
  · rename_i za0_0 na0_0 fa0_0 a1_0
    cases h
    exact goodv_laws_heldHeldS fu (⟨za0_0, na0_0, fa0_0⟩ : (Sl S_impl_Held)) a1_0 y hy
  · cases h

/-! laws.heldMux -/
def F_laws_heldMux (fu : Nat) (a_0 : S_impl_Mux) (k_1 : Int) : Option (Int) :=
  ((F_laws_heldWatch fu a_0.Watch k_1).bind fun y48 => (bif (decide (y48 < 0)) then (some (-1)) else ((F_laws_heldInt64SS fu a_0.Tables y48).bind fun y49 => (bif (decide (y49 < 0)) then
    (some (-1)) else ((F_laws_heldHeldS fu a_0.Cache y49).bind fun y50 => (bif (decide (y50 < 0)) then (some (-1)) else (some y50)))))))
def pcf_laws_heldMux (fu : Nat) (f : Nat) (xs : List (D RT den)) : Option (Out RT den) := match f with | 37 => S_laws_heldWatch fu xs | 38 => S_laws_heldInt64SS fu xs | 39 => S_laws_heldHeldS fu xs | _ => none
def pcx_laws_heldMux (fu : Nat) (f : Nat) (xs : List (D RT den)) (ins : List (Ob RT den)) : Option (OutX RT den) := none
def pc_laws_heldMux (fu : Nat) : Pc RT den := ⟨pcf_laws_heldMux fu, fun _ => false, fun _ => false, pcx_laws_heldMux fu⟩
def msk_laws_heldMux (b : Nat) : List Nat := []
def lp_laws_heldMux (fu : Nat) : Lp RT den (Int) := fun b s k => none
theorem ev_laws_heldMux (fu : Nat) (a_0 : S_impl_Mux) (k_1 : Int) : evFun E (pc_laws_heldMux fu) msk_laws_heldMux (lp_laws_heldMux fu) out_i64 23 [(.agg [(.int .i64 a_0.Address), (.int .i64 a_0.Now), (.bool a_0.Watch.Ready), (.int .i64 a_0.Watch.Config.Version), (.rs a_0.Watch.Config.Backends.z .impl_Backend a_0.Watch.Config.Backends.n a_0.Watch.Config.Backends.f), (.rs a_0.Watch.Config.Vips.z .impl_Vip a_0.Watch.Config.Vips.n a_0.Watch.Config.Vips.f), (.rs a_0.Tables.z .sl_i64 a_0.Tables.n a_0.Tables.f), (.rs a_0.Cache.z .impl_Held a_0.Cache.n a_0.Cache.f)]), (.int .i64 k_1)] = F_laws_heldMux fu a_0 k_1 := by kernel_rfl
noncomputable def body_laws_heldMux : Code := Try.f23.body.getD .skip
theorem lpok_laws_heldMux (fu : Nat) : LpOk E (pc_laws_heldMux fu) msk_laws_heldMux (lp_laws_heldMux fu) (loops 0 body_laws_heldMux) := by
  have h : loops 0 body_laws_heldMux = [] := by kernel_rfl
  rw [h]; intro p hp; cases hp
def S_laws_heldMux (fu : Nat) (xs : List (D RT den)) : Option (Out RT den) := match xs with | [.agg [.int .i64 a0_1, .int .i64 a0_2, .bool a0_4, .int .i64 a0_6, .rs za0_7 .impl_Backend na0_7 fa0_7, .rs za0_8 .impl_Vip na0_8 fa0_8, .rs za0_9 .sl_i64 na0_9 fa0_9, .rs za0_10 .impl_Held na0_10 fa0_10], .int .i64 a1_0] => some ⟨Int, F_laws_heldMux fu (⟨a0_1, a0_2, (⟨a0_4, (⟨a0_6, (⟨za0_7, na0_7, fa0_7⟩ : (Sl S_impl_Backend)), (⟨za0_8, na0_8, fa0_8⟩ : (Sl S_impl_Vip))⟩ : S_impl_Config)⟩ : S_impl_Watch), (⟨za0_9, na0_9, fa0_9⟩ : (Sl (Sl Int))), (⟨za0_10, na0_10, fa0_10⟩ : (Sl S_impl_Held))⟩ : S_impl_Mux) a1_0, enc_i64, fun _ => true⟩ | _ => none
theorem hpc_laws_heldMux (fu : Nat) : ∀ f xs o, pcf_laws_heldMux fu f xs = some o → ∀ y, o.x = some y → Good E Try.prog f xs (o.g y) := by
  intro f xs o h
  unfold pcf_laws_heldMux at h
  split at h
  · exact good_laws_heldWatch fu xs o h
  · exact good_laws_heldInt64SS fu xs o h
  · exact good_laws_heldHeldS fu xs o h
  · cases h
theorem hpx_laws_heldMux (fu : Nat) : ∀ f xs ins o, pcx_laws_heldMux fu f xs ins = some o → ∀ y, o.x = some y → GoodX E Try.prog f xs ins (o.g y).1 (o.g y).2 := by
  intro f xs ins o h
  cases h
theorem goodv_laws_heldMux (fu : Nat) (a_0 : S_impl_Mux) (k_1 : Int) (y : Int) (hy : F_laws_heldMux fu a_0 k_1 = some y) : Good E Try.prog 23 [(.agg [(.int .i64 a_0.Address), (.int .i64 a_0.Now), (.bool a_0.Watch.Ready), (.int .i64 a_0.Watch.Config.Version), (.rs a_0.Watch.Config.Backends.z .impl_Backend a_0.Watch.Config.Backends.n a_0.Watch.Config.Backends.f), (.rs a_0.Watch.Config.Vips.z .impl_Vip a_0.Watch.Config.Vips.n a_0.Watch.Config.Vips.f), (.rs a_0.Tables.z .sl_i64 a_0.Tables.n a_0.Tables.f), (.rs a_0.Cache.z .impl_Held a_0.Cache.n a_0.Cache.f)]), (.int .i64 k_1)] (enc_i64 y) :=
  fun_good E_ok (pc_good (pc := pc_laws_heldMux fu) (hpc_laws_heldMux fu) (hpx_laws_heldMux fu)) (fn := Try.f23) (c := body_laws_heldMux) (out := out_i64) (y := y) (by kernel_rfl) (by kernel_rfl) (by kernel_rfl) (lpok_laws_heldMux fu) (fun d hd => out_i64_enc d _ hd) ((ev_laws_heldMux fu a_0 k_1).trans hy)
theorem good_laws_heldMux (fu : Nat) : ∀ xs o, S_laws_heldMux fu xs = some o → ∀ y, o.x = some y → Good E Try.prog 23 xs (o.g y) := by
  intro xs o h y hy
  unfold S_laws_heldMux at h
  split at h
  · rename_i a0_1 a0_2 a0_4 a0_6 za0_7 na0_7 fa0_7 za0_8 na0_8 fa0_8 za0_9 na0_9 fa0_9 za0_10 na0_10 fa0_10 a1_0
    cases h
    exact goodv_laws_heldMux fu (⟨a0_1, a0_2, (⟨a0_4, (⟨a0_6, (⟨za0_7, na0_7, fa0_7⟩ : (Sl S_impl_Backend)), (⟨za0_8, na0_8, fa0_8⟩ : (Sl S_impl_Vip))⟩ : S_impl_Config)⟩ : S_impl_Watch), (⟨za0_9, na0_9, fa0_9⟩ : (Sl (Sl Int))), (⟨za0_10, na0_10, fa0_10⟩ : (Sl S_impl_Held))⟩ : S_impl_Mux) a1_0 y hy
  · cases h

/-! laws.heldMuxResult -/
def F_laws_heldMuxResult (fu : Nat) (a_0 : S_impl_MuxResult) (k_1 : Int) : Option (Int) :=
  ((F_laws_heldByteS fu a_0.Out k_1).bind fun y44 => (bif (decide (y44 < 0)) then (some (-1)) else ((F_laws_heldMux fu a_0.Mux y44).bind fun y45 => (bif (decide (y45 < 0)) then
    (some (-1)) else (some y45)))))
def pcf_laws_heldMuxResult (fu : Nat) (f : Nat) (xs : List (D RT den)) : Option (Out RT den) := match f with | 22 => S_laws_heldByteS fu xs | 23 => S_laws_heldMux fu xs | _ => none
def pcx_laws_heldMuxResult (fu : Nat) (f : Nat) (xs : List (D RT den)) (ins : List (Ob RT den)) : Option (OutX RT den) := none
def pc_laws_heldMuxResult (fu : Nat) : Pc RT den := ⟨pcf_laws_heldMuxResult fu, fun _ => false, fun _ => false, pcx_laws_heldMuxResult fu⟩
def msk_laws_heldMuxResult (b : Nat) : List Nat := []
def lp_laws_heldMuxResult (fu : Nat) : Lp RT den (Int) := fun b s k => none
theorem ev_laws_heldMuxResult (fu : Nat) (a_0 : S_impl_MuxResult) (k_1 : Int) : evFun E (pc_laws_heldMuxResult fu) msk_laws_heldMuxResult (lp_laws_heldMuxResult fu) out_i64 9 [(.agg [(.int .i64 a_0.Code), (.int .i64 a_0.Why), (.int .i64 a_0.Name), (.rs a_0.Out.z .u8 a_0.Out.n a_0.Out.f), (.int .i64 a_0.Mux.Address), (.int .i64 a_0.Mux.Now), (.bool a_0.Mux.Watch.Ready), (.int .i64 a_0.Mux.Watch.Config.Version), (.rs a_0.Mux.Watch.Config.Backends.z .impl_Backend a_0.Mux.Watch.Config.Backends.n a_0.Mux.Watch.Config.Backends.f), (.rs a_0.Mux.Watch.Config.Vips.z .impl_Vip a_0.Mux.Watch.Config.Vips.n a_0.Mux.Watch.Config.Vips.f), (.rs a_0.Mux.Tables.z .sl_i64 a_0.Mux.Tables.n a_0.Mux.Tables.f), (.rs a_0.Mux.Cache.z .impl_Held a_0.Mux.Cache.n a_0.Mux.Cache.f)]), (.int .i64 k_1)] = F_laws_heldMuxResult fu a_0 k_1 := by kernel_rfl
noncomputable def body_laws_heldMuxResult : Code := Try.f9.body.getD .skip
theorem lpok_laws_heldMuxResult (fu : Nat) : LpOk E (pc_laws_heldMuxResult fu) msk_laws_heldMuxResult (lp_laws_heldMuxResult fu) (loops 0 body_laws_heldMuxResult) := by
  have h : loops 0 body_laws_heldMuxResult = [] := by kernel_rfl
  rw [h]; intro p hp; cases hp
def S_laws_heldMuxResult (fu : Nat) (xs : List (D RT den)) : Option (Out RT den) := match xs with | [.agg [.int .i64 a0_1, .int .i64 a0_2, .int .i64 a0_3, .rs za0_4 .u8 na0_4 fa0_4, .int .i64 a0_6, .int .i64 a0_7, .bool a0_9, .int .i64 a0_11, .rs za0_12 .impl_Backend na0_12 fa0_12, .rs za0_13 .impl_Vip na0_13 fa0_13, .rs za0_14 .sl_i64 na0_14 fa0_14, .rs za0_15 .impl_Held na0_15 fa0_15], .int .i64 a1_0] => some ⟨Int, F_laws_heldMuxResult fu (⟨a0_1, a0_2, a0_3, (⟨za0_4, na0_4, fa0_4⟩ : (Sl Int)), (⟨a0_6, a0_7, (⟨a0_9, (⟨a0_11, (⟨za0_12, na0_12, fa0_12⟩ : (Sl S_impl_Backend)), (⟨za0_13, na0_13, fa0_13⟩ : (Sl S_impl_Vip))⟩ : S_impl_Config)⟩ : S_impl_Watch), (⟨za0_14, na0_14, fa0_14⟩ : (Sl (Sl Int))), (⟨za0_15, na0_15, fa0_15⟩ : (Sl S_impl_Held))⟩ : S_impl_Mux)⟩ : S_impl_MuxResult) a1_0, enc_i64, fun _ => true⟩ | _ => none
theorem hpc_laws_heldMuxResult (fu : Nat) : ∀ f xs o, pcf_laws_heldMuxResult fu f xs = some o → ∀ y, o.x = some y → Good E Try.prog f xs (o.g y) := by
  intro f xs o h
  unfold pcf_laws_heldMuxResult at h
  split at h
  · exact good_laws_heldByteS fu xs o h
  · exact good_laws_heldMux fu xs o h
  · cases h
theorem hpx_laws_heldMuxResult (fu : Nat) : ∀ f xs ins o, pcx_laws_heldMuxResult fu f xs ins = some o → ∀ y, o.x = some y → GoodX E Try.prog f xs ins (o.g y).1 (o.g y).2 := by
  intro f xs ins o h
  cases h
theorem goodv_laws_heldMuxResult (fu : Nat) (a_0 : S_impl_MuxResult) (k_1 : Int) (y : Int) (hy : F_laws_heldMuxResult fu a_0 k_1 = some y) : Good E Try.prog 9 [(.agg [(.int .i64 a_0.Code), (.int .i64 a_0.Why), (.int .i64 a_0.Name), (.rs a_0.Out.z .u8 a_0.Out.n a_0.Out.f), (.int .i64 a_0.Mux.Address), (.int .i64 a_0.Mux.Now), (.bool a_0.Mux.Watch.Ready), (.int .i64 a_0.Mux.Watch.Config.Version), (.rs a_0.Mux.Watch.Config.Backends.z .impl_Backend a_0.Mux.Watch.Config.Backends.n a_0.Mux.Watch.Config.Backends.f), (.rs a_0.Mux.Watch.Config.Vips.z .impl_Vip a_0.Mux.Watch.Config.Vips.n a_0.Mux.Watch.Config.Vips.f), (.rs a_0.Mux.Tables.z .sl_i64 a_0.Mux.Tables.n a_0.Mux.Tables.f), (.rs a_0.Mux.Cache.z .impl_Held a_0.Mux.Cache.n a_0.Mux.Cache.f)]), (.int .i64 k_1)] (enc_i64 y) :=
  fun_good E_ok (pc_good (pc := pc_laws_heldMuxResult fu) (hpc_laws_heldMuxResult fu) (hpx_laws_heldMuxResult fu)) (fn := Try.f9) (c := body_laws_heldMuxResult) (out := out_i64) (y := y) (by kernel_rfl) (by kernel_rfl) (by kernel_rfl) (lpok_laws_heldMuxResult fu) (fun d hd => out_i64_enc d _ hd) ((ev_laws_heldMuxResult fu a_0 k_1).trans hy)
theorem good_laws_heldMuxResult (fu : Nat) : ∀ xs o, S_laws_heldMuxResult fu xs = some o → ∀ y, o.x = some y → Good E Try.prog 9 xs (o.g y) := by
  intro xs o h y hy
  unfold S_laws_heldMuxResult at h
  split at h
  · rename_i a0_1 a0_2 a0_3 za0_4 na0_4 fa0_4 a0_6 a0_7 a0_9 a0_11 za0_12 na0_12 fa0_12 za0_13 na0_13 fa0_13 za0_14 na0_14 fa0_14 za0_15 na0_15 fa0_15 a1_0
    cases h
    exact goodv_laws_heldMuxResult fu (⟨a0_1, a0_2, a0_3, (⟨za0_4, na0_4, fa0_4⟩ : (Sl Int)), (⟨a0_6, a0_7, (⟨a0_9, (⟨a0_11, (⟨za0_12, na0_12, fa0_12⟩ : (Sl S_impl_Backend)), (⟨za0_13, na0_13, fa0_13⟩ : (Sl S_impl_Vip))⟩ : S_impl_Config)⟩ : S_impl_Watch), (⟨za0_14, na0_14, fa0_14⟩ : (Sl (Sl Int))), (⟨za0_15, na0_15, fa0_15⟩ : (Sl S_impl_Held))⟩ : S_impl_Mux)⟩ : S_impl_MuxResult) a1_0 y hy
  · cases h

/-! laws.FnExactNewMux -/
def F_laws_FnExactNewMux (fu : Nat) (aAddress_0 : Int) : Option (Bool) :=
  ((F_spec_NewMux_H fu aAddress_0).bind fun y5 => ((F_impl_NewMux_H fu aAddress_0).bind fun y9 => ((F_laws_eqMuxResult fu (⟨y9.Code, y9.Why, y9.Name, (⟨none, y9.Out.n, y9.Out.f⟩ : (Sl Int)),
    (⟨y9.Mux.Address, y9.Mux.Now, (⟨y9.Mux.Watch.Ready, (⟨y9.Mux.Watch.Config.Version, (⟨none, y9.Mux.Watch.Config.Backends.n, y9.Mux.Watch.Config.Backends.f⟩ : (Sl S_impl_Backend)),
    (⟨(some true), 0, (fun _ => dflt .impl_Vip)⟩ : (Sl S_impl_Vip))⟩ : S_impl_Config)⟩ : S_impl_Watch), (⟨(some true), 0, (fun _ => dflt .sl_i64)⟩ : (Sl (Sl Int))), (⟨none,
    y9.Mux.Cache.n, y9.Mux.Cache.f⟩ : (Sl S_impl_Held))⟩ : S_impl_Mux)⟩ : S_impl_MuxResult) (⟨y5.Code, y5.Why, y5.Name, (⟨none, y5.Out.n, y5.Out.f⟩ : (Sl Int)), (⟨y5.Mux.Address,
    y5.Mux.Now, (⟨y5.Mux.Watch.Ready, (⟨y5.Mux.Watch.Config.Version, (⟨none, y5.Mux.Watch.Config.Backends.n, y5.Mux.Watch.Config.Backends.f⟩ : (Sl S_impl_Backend)), (⟨(some true),
    0, (fun _ => dflt .impl_Vip)⟩ : (Sl S_impl_Vip))⟩ : S_impl_Config)⟩ : S_impl_Watch), (⟨(some true), 0, (fun _ => dflt .sl_i64)⟩ : (Sl (Sl Int))), (⟨none, y5.Mux.Cache.n,
    y5.Mux.Cache.f⟩ : (Sl S_impl_Held))⟩ : S_impl_Mux)⟩ : S_impl_MuxResult)).bind fun y10 => (bif (!y10) then (some false) else ((F_laws_markMuxResult_L fu y9.Code y9.Why y9.Name y9.Out.n y9.Mux.Address y9.Mux.Now y9.Mux.Watch.Ready y9.Mux.Watch.Config.Version y9.Mux.Watch.Config.Backends.n y9.Mux.Cache.n 1 y9.Out.n y9.Out.f y9.Mux.Watch.Config.Backends.n y9.Mux.Watch.Config.Backends.f y9.Mux.Cache.n y9.Mux.Cache.f).bind fun y25 =>
    ((F_laws_heldMuxResult fu (⟨y9.Code, y9.Why, y9.Name, (⟨none, y9.Out.n, y25.2.1.2⟩ : (Sl Int)), (⟨y9.Mux.Address, y9.Mux.Now, (⟨y9.Mux.Watch.Ready,
    (⟨y9.Mux.Watch.Config.Version, (⟨none, y9.Mux.Watch.Config.Backends.n, y25.2.2.1.2⟩ : (Sl S_impl_Backend)), (⟨(some true), 0, (fun _ => dflt .impl_Vip)⟩ : (Sl S_impl_Vip))⟩ : S_impl_Config)⟩ : S_impl_Watch),
    (⟨(some true), 0, (fun _ => dflt .sl_i64)⟩ : (Sl (Sl Int))), (⟨none, y9.Mux.Cache.n, y25.2.2.2.2⟩ : (Sl S_impl_Held))⟩ : S_impl_Mux)⟩ : S_impl_MuxResult) 1).bind fun y26 => (bif (decide (y26 < 0)) then
    (some false) else (bif (y26 != y25.1) then (some false) else ((F_impl_NewMux_H fu aAddress_0).bind fun y27 => ((F_laws_eqMuxResult fu (⟨y27.Code, y27.Why, y27.Name, (⟨none,
    y27.Out.n, y27.Out.f⟩ : (Sl Int)), (⟨y27.Mux.Address, y27.Mux.Now, (⟨y27.Mux.Watch.Ready, (⟨y27.Mux.Watch.Config.Version, (⟨none, y27.Mux.Watch.Config.Backends.n,
    y27.Mux.Watch.Config.Backends.f⟩ : (Sl S_impl_Backend)), (⟨(some true), 0, (fun _ => dflt .impl_Vip)⟩ : (Sl S_impl_Vip))⟩ : S_impl_Config)⟩ : S_impl_Watch), (⟨(some true), 0,
    (fun _ => dflt .sl_i64)⟩ : (Sl (Sl Int))), (⟨none, y27.Mux.Cache.n, y27.Mux.Cache.f⟩ : (Sl S_impl_Held))⟩ : S_impl_Mux)⟩ : S_impl_MuxResult) (⟨y5.Code, y5.Why, y5.Name, (⟨none,
    y5.Out.n, y5.Out.f⟩ : (Sl Int)), (⟨y5.Mux.Address, y5.Mux.Now, (⟨y5.Mux.Watch.Ready, (⟨y5.Mux.Watch.Config.Version, (⟨none, y5.Mux.Watch.Config.Backends.n,
    y5.Mux.Watch.Config.Backends.f⟩ : (Sl S_impl_Backend)), (⟨(some true), 0, (fun _ => dflt .impl_Vip)⟩ : (Sl S_impl_Vip))⟩ : S_impl_Config)⟩ : S_impl_Watch), (⟨(some true), 0,
    (fun _ => dflt .sl_i64)⟩ : (Sl (Sl Int))), (⟨none, y5.Mux.Cache.n, y5.Mux.Cache.f⟩ : (Sl S_impl_Held))⟩ : S_impl_Mux)⟩ : S_impl_MuxResult)).bind fun y28 => (bif (!y28) then
    (some false) else ((F_laws_heldMuxResult fu (⟨y9.Code, y9.Why, y9.Name, (⟨none, y9.Out.n, y25.2.1.2⟩ : (Sl Int)), (⟨y9.Mux.Address, y9.Mux.Now, (⟨y9.Mux.Watch.Ready,
    (⟨y9.Mux.Watch.Config.Version, (⟨none, y9.Mux.Watch.Config.Backends.n, y25.2.2.1.2⟩ : (Sl S_impl_Backend)), (⟨(some true), 0, (fun _ => dflt .impl_Vip)⟩ : (Sl S_impl_Vip))⟩ : S_impl_Config)⟩ : S_impl_Watch),
    (⟨(some true), 0, (fun _ => dflt .sl_i64)⟩ : (Sl (Sl Int))), (⟨none, y9.Mux.Cache.n, y25.2.2.2.2⟩ : (Sl S_impl_Held))⟩ : S_impl_Mux)⟩ : S_impl_MuxResult) 1).bind fun y29 => (bif (decide (y29 < 0)) then
    (some false) else (bif (y29 != y25.1) then (some false) else (some true)))))))))))))))
def pcf_laws_FnExactNewMux (fu : Nat) (f : Nat) (xs : List (D RT den)) : Option (Out RT den) := match f with | 7 => S_laws_eqMuxResult fu xs | 9 => S_laws_heldMuxResult fu xs | _ => none
def pcx_laws_FnExactNewMux (fu : Nat) (f : Nat) (xs : List (D RT den)) (ins : List (Ob RT den)) : Option (OutX RT den) := match f with | 5 => S_spec_NewMux_H fu xs ins | 6 => S_impl_NewMux_H fu xs ins | 8 => S_laws_markMuxResult_L fu xs ins | _ => none
def pc_laws_FnExactNewMux (fu : Nat) : Pc RT den := ⟨pcf_laws_FnExactNewMux fu, fun f => match f with | 5 => true | 6 => true | 8 => true | _ => false, fun f => match f with | 8 => true | _ => false, pcx_laws_FnExactNewMux fu⟩
def msk_laws_FnExactNewMux (b : Nat) : List Nat := []
def lp_laws_FnExactNewMux (fu : Nat) : Lp RT den (Bool) := fun b s k => none
theorem ev_laws_FnExactNewMux (fu : Nat) (aAddress_0 : Int) : evFun E (pc_laws_FnExactNewMux fu) msk_laws_FnExactNewMux (lp_laws_FnExactNewMux fu) out_bo 3 [(.int .i64 aAddress_0)] = F_laws_FnExactNewMux fu aAddress_0 := by kernel_rfl
noncomputable def body_laws_FnExactNewMux : Code := Try.f3.body.getD .skip
theorem lpok_laws_FnExactNewMux (fu : Nat) : LpOk E (pc_laws_FnExactNewMux fu) msk_laws_FnExactNewMux (lp_laws_FnExactNewMux fu) (loops 0 body_laws_FnExactNewMux) := by
  have h : loops 0 body_laws_FnExactNewMux = [] := by kernel_rfl
  rw [h]; intro p hp; cases hp
def S_laws_FnExactNewMux (fu : Nat) (xs : List (D RT den)) : Option (Out RT den) := match xs with | [.int .i64 a0_0] => some ⟨Bool, F_laws_FnExactNewMux fu a0_0, enc_bo, fun _ => true⟩ | _ => none
theorem hpc_laws_FnExactNewMux (fu : Nat) : ∀ f xs o, pcf_laws_FnExactNewMux fu f xs = some o → ∀ y, o.x = some y → Good E Try.prog f xs (o.g y) := by
  intro f xs o h
  unfold pcf_laws_FnExactNewMux at h
  split at h
  · exact good_laws_eqMuxResult fu xs o h
  · exact good_laws_heldMuxResult fu xs o h
  · cases h
theorem hpx_laws_FnExactNewMux (fu : Nat) : ∀ f xs ins o, pcx_laws_FnExactNewMux fu f xs ins = some o → ∀ y, o.x = some y → GoodX E Try.prog f xs ins (o.g y).1 (o.g y).2 := by
  intro f xs ins o h
  unfold pcx_laws_FnExactNewMux at h
  split at h
  · exact good_spec_NewMux_H fu xs ins o h
  · exact good_impl_NewMux_H fu xs ins o h
  · exact good_laws_markMuxResult_L fu xs ins o h
  · cases h
theorem goodv_laws_FnExactNewMux (fu : Nat) (aAddress_0 : Int) (y : Bool) (hy : F_laws_FnExactNewMux fu aAddress_0 = some y) : Good E Try.prog 3 [(.int .i64 aAddress_0)] (enc_bo y) :=
  fun_good E_ok (pc_good (pc := pc_laws_FnExactNewMux fu) (hpc_laws_FnExactNewMux fu) (hpx_laws_FnExactNewMux fu)) (fn := Try.f3) (c := body_laws_FnExactNewMux) (out := out_bo) (y := y) (by kernel_rfl) (by kernel_rfl) (by kernel_rfl) (lpok_laws_FnExactNewMux fu) (fun d hd => out_bo_enc d _ hd) ((ev_laws_FnExactNewMux fu aAddress_0).trans hy)
theorem good_laws_FnExactNewMux (fu : Nat) : ∀ xs o, S_laws_FnExactNewMux fu xs = some o → ∀ y, o.x = some y → Good E Try.prog 3 xs (o.g y) := by
  intro xs o h y hy
  unfold S_laws_FnExactNewMux at h
  split at h
  · rename_i a0_0
    cases h
    exact goodv_laws_FnExactNewMux fu a0_0 y hy
  · cases h
end Go.Proofs.Ytaghkcpgpjbdnaa.Pc
