/- The functions' evaluated forms, each a proved summary. Conditions: none. -/
import Derived.Test.YtnfippmeficfjaaPcF5
namespace Go.Proofs.Ytnfippmeficfjaa.Pc
open Go Go.RowKit Go.Proofs Vm
set_option linter.unusedVariables false
set_option linter.unusedSimpArgs false
set_option maxRecDepth 100000
/-! laws.eqMailS -/
def F_laws_eqMailS_B0 {ρ : Type} (fu : Nat) (a0_0 : (Sl S_impl_Mail)) (b1_1 : (Sl S_impl_Mail)) (k0 : Option ρ) (k1 : Option ρ) (i5_2 : Int) (go : Int → Option ρ) : Option ρ :=
  (bif (decide (i5_2 < ((a0_0.n : Nat) : Int))) then ((bif (decide (0 ≤ i5_2) && decide ((Int.toNat i5_2) < a0_0.n)) then some () else none : Option Unit).bind fun _ => ((bif (decide (0 ≤ i5_2) &&
    decide ((Int.toNat i5_2) < b1_1.n)) then some () else none : Option Unit).bind fun _ => ((F_laws_eqMail fu (a0_0.f (Int.toNat i5_2)) (b1_1.f (Int.toNat i5_2))).bind fun y400 =>
    (bif (!y400) then k0 else (go (IntKind.wrap .i64 (i5_2 + 1))))))) else k1)
def F_laws_eqMailS (fu : Nat) (a_0 : (Sl S_impl_Mail)) (b_1 : (Sl S_impl_Mail)) : Option (Bool) :=
  (bif (((a_0.n : Nat) : Int) != ((b_1.n : Nat) : Int)) then (some false) else (L (fun w0 go0 => F_laws_eqMailS_B0 fu a_0 b_1 (some false) (some true) w0 go0) fu (0 : Int)))
def pc_laws_eqMailS (fu : Nat) : Pc RT den := fun f xs => match f with | 74 => S_laws_eqMail fu xs | _ => none
def msk_laws_eqMailS (b : Nat) : List Nat := match b with | 0 => [2, 3, 4, 6, 7, 8, 9, 10, 11, 12, 13, 14, 15, 16, 17, 18, 19, 20, 21, 22, 23, 24, 25, 26] | 100000 => [0, 1, 2, 3, 5, 6, 7, 8, 9, 10, 11, 12, 13, 14, 15, 16, 17, 18, 19, 20, 21, 22, 23, 24, 25, 26] | _ => []
def ps_laws_eqMailS_0 : List (Pat RT) := [.flat (.rs .impl_Mail), .flat (.rs .impl_Mail), .flat .dead, .flat .dead, .flat .dead, .flat (.int .i64), .flat .dead, .flat .dead, .flat .dead, .flat .dead, .flat .dead, .flat .dead, .flat .dead, .flat .dead, .flat .dead, .flat .dead, .flat .dead, .flat .dead, .flat .dead, .flat .dead, .flat .dead, .flat .dead, .flat .dead, .flat .dead, .flat .dead, .flat .dead, .flat .dead]
def os_laws_eqMailS_0 : List (OP RT) := []
def conv_laws_eqMailS_0 (r : Raw den ps_laws_eqMailS_0 os_laws_eqMailS_0) : ((Sl S_impl_Mail) × (Sl S_impl_Mail)) × (Int) := ((r.1.1, r.1.2.1), r.1.2.2.2.2.2.1)
def back_laws_eqMailS_0 (c : (Sl S_impl_Mail) × (Sl S_impl_Mail)) (w : Int) : St RT den := ⟨[(.rs c.1.z .impl_Mail c.1.n c.1.f), (.rs c.2.z .impl_Mail c.2.n c.2.f), .dead, .dead, .dead, (.int .i64 w), .dead, .dead, .dead, .dead, .dead, .dead, .dead, .dead, .dead, .dead, .dead, .dead, .dead, .dead, .dead, .dead, .dead, .dead, .dead, .dead, .dead], []⟩
def Bk_laws_eqMailS_0 {ρ : Type} (fu : Nat) (c : (Sl S_impl_Mail) × (Sl S_impl_Mail)) (k : Ex → St RT den → Option ρ) (w : Int) (go : (Int) → Option ρ) : Option ρ := F_laws_eqMailS_B0 fu c.1 c.2 (k .ret ⟨[.dead, .dead, .dead, .dead, (.bool false), .dead, .dead, .dead, .dead, .dead, .dead, .dead, .dead, .dead, .dead, .dead, .dead, .dead, .dead, .dead, .dead, .dead, .dead, .dead, .dead, .dead, .dead], []⟩) (k (.exit 0) ⟨[.dead, .dead, .dead, .dead, .dead, .dead, .dead, .dead, .dead, .dead, .dead, .dead, .dead, .dead, .dead, .dead, .dead, .dead, .dead, .dead, .dead, .dead, .dead, .dead, .dead, .dead, .dead], []⟩) w go
def lp_laws_eqMailS (fu : Nat) : Lp RT den (Bool) := fun b s k => match b with | 0 => handle ps_laws_eqMailS_0 os_laws_eqMailS_0 conv_laws_eqMailS_0 (Bk_laws_eqMailS_0 fu) fu s k | _ => none
theorem ev_laws_eqMailS (fu : Nat) (a_0 : (Sl S_impl_Mail)) (b_1 : (Sl S_impl_Mail)) : evFun E (pc_laws_eqMailS fu) msk_laws_eqMailS (lp_laws_eqMailS fu) out_bo 35 [(.rs a_0.z .impl_Mail a_0.n a_0.f), (.rs b_1.z .impl_Mail b_1.n b_1.f)] = F_laws_eqMailS fu a_0 b_1 := by kernel_rfl
noncomputable def body_laws_eqMailS : Code := Try.f35.body.getD .skip
noncomputable def lc_laws_eqMailS_0 : Code := ((loops 0 body_laws_eqMailS).getD 0 (0, .skip)).2
theorem round_laws_eqMailS_0 (fu : Nat) (it : St RT den → Option (Bool)) (k : Ex → St RT den → Option (Bool)) c w : evCode E (pc_laws_eqMailS fu) msk_laws_eqMailS (lp_laws_eqMailS fu) 0 lc_laws_eqMailS_0 (back_laws_eqMailS_0 c w) (after (msk_laws_eqMailS 0) (msk_laws_eqMailS 100000) 0 it k) = Bk_laws_eqMailS_0 fu c k w (fun w => it (back_laws_eqMailS_0 c w)) := by kernel_rfl
theorem lpok_laws_eqMailS_0 (fu : Nat) : ∀ s k r, lp_laws_eqMailS fu 0 s k = some r → ∃ fuel, iter (msk_laws_eqMailS 0) (msk_laws_eqMailS 100000) s.objs.length (evCode E (pc_laws_eqMailS fu) msk_laws_eqMailS (lp_laws_eqMailS fu) 0 lc_laws_eqMailS_0) fuel s k = some r :=
  handle_ok (ps := ps_laws_eqMailS_0) (os := os_laws_eqMailS_0) (conv := conv_laws_eqMailS_0) (B := Bk_laws_eqMailS_0 fu) (fu := fu) back_laws_eqMailS_0 (fun raw => by kernel_rfl) 0 (fun c w => by kernel_rfl) (round_laws_eqMailS_0 fu)
theorem lpok_laws_eqMailS (fu : Nat) : LpOk E (pc_laws_eqMailS fu) msk_laws_eqMailS (lp_laws_eqMailS fu) (loops 0 body_laws_eqMailS) := loop_all 1 (by kernel_rfl) fun i hi => match i, hi with
  | 0, _ => by
    have h : (loops 0 body_laws_eqMailS).getD 0 (0, .skip) = (0, lc_laws_eqMailS_0) := by kernel_rfl
    rw [h]; exact lpok_laws_eqMailS_0 fu
  | i + 1, hi => absurd hi (by omega)
def S_laws_eqMailS (fu : Nat) (xs : List (D RT den)) : Option (Out RT den) := match xs with | [.rs za0_0 .impl_Mail na0_0 fa0_0, .rs za1_0 .impl_Mail na1_0 fa1_0] => some ⟨Bool, F_laws_eqMailS fu (⟨za0_0, na0_0, fa0_0⟩ : (Sl S_impl_Mail)) (⟨za1_0, na1_0, fa1_0⟩ : (Sl S_impl_Mail)), enc_bo, fun _ => true⟩ | _ => none
theorem hpc_laws_eqMailS (fu : Nat) : ∀ f xs o, pc_laws_eqMailS fu f xs = some o → ∀ y, o.x = some y → Good E Try.prog f xs (o.g y) := by
  intro f xs o h
  unfold pc_laws_eqMailS at h
  split at h
  · exact good_laws_eqMail fu xs o h
  · cases h
theorem goodv_laws_eqMailS (fu : Nat) (a_0 : (Sl S_impl_Mail)) (b_1 : (Sl S_impl_Mail)) (y : Bool) (hy : F_laws_eqMailS fu a_0 b_1 = some y) : Good E Try.prog 35 [(.rs a_0.z .impl_Mail a_0.n a_0.f), (.rs b_1.z .impl_Mail b_1.n b_1.f)] (enc_bo y) :=
  fun_good E_ok (pc_good (hpc_laws_eqMailS fu)) (fn := Try.f35) (c := body_laws_eqMailS) (out := out_bo) (y := y) (by kernel_rfl) (by kernel_rfl) (by kernel_rfl) (lpok_laws_eqMailS fu) (fun d hd => out_bo_enc d _ hd) ((ev_laws_eqMailS fu a_0 b_1).trans hy)
theorem good_laws_eqMailS (fu : Nat) : ∀ xs o, S_laws_eqMailS fu xs = some o → ∀ y, o.x = some y → Good E Try.prog 35 xs (o.g y) := by
  intro xs o h y hy
  unfold S_laws_eqMailS at h
  split at h
  · rename_i za0_0 na0_0 fa0_0 za1_0 na1_0 fa1_0
    cases h
    exact goodv_laws_eqMailS fu (⟨za0_0, na0_0, fa0_0⟩ : (Sl S_impl_Mail)) (⟨za1_0, na1_0, fa1_0⟩ : (Sl S_impl_Mail)) y hy
  · cases h

/-! laws.eqWon -/
def F_laws_eqWon (fu : Nat) (a_0 : S_impl_Won) (b_1 : S_impl_Won) : Option (Bool) :=
  (bif (a_0.Term != b_1.Term) then (some false) else (bif (a_0.Node != b_1.Node) then (some false) else (some true)))
def pc_laws_eqWon (fu : Nat) : Pc RT den := fun f xs => none
def msk_laws_eqWon (b : Nat) : List Nat := []
def lp_laws_eqWon (fu : Nat) : Lp RT den (Bool) := fun b s k => none
theorem ev_laws_eqWon (fu : Nat) (a_0 : S_impl_Won) (b_1 : S_impl_Won) : evFun E (pc_laws_eqWon fu) msk_laws_eqWon (lp_laws_eqWon fu) out_bo 75 [(.agg [(.int .i64 a_0.Term), (.int .i64 a_0.Node)]), (.agg [(.int .i64 b_1.Term), (.int .i64 b_1.Node)])] = F_laws_eqWon fu a_0 b_1 := by kernel_rfl
noncomputable def body_laws_eqWon : Code := Try.f75.body.getD .skip
theorem lpok_laws_eqWon (fu : Nat) : LpOk E (pc_laws_eqWon fu) msk_laws_eqWon (lp_laws_eqWon fu) (loops 0 body_laws_eqWon) := by
  have h : loops 0 body_laws_eqWon = [] := by kernel_rfl
  rw [h]; intro p hp; cases hp
def S_laws_eqWon (fu : Nat) (xs : List (D RT den)) : Option (Out RT den) := match xs with | [.agg [.int .i64 a0_1, .int .i64 a0_2], .agg [.int .i64 a1_1, .int .i64 a1_2]] => some ⟨Bool, F_laws_eqWon fu (⟨a0_1, a0_2⟩ : S_impl_Won) (⟨a1_1, a1_2⟩ : S_impl_Won), enc_bo, fun _ => true⟩ | _ => none
theorem hpc_laws_eqWon (fu : Nat) : ∀ f xs o, pc_laws_eqWon fu f xs = some o → ∀ y, o.x = some y → Good E Try.prog f xs (o.g y) := by
  intro f xs o h
  cases h
theorem goodv_laws_eqWon (fu : Nat) (a_0 : S_impl_Won) (b_1 : S_impl_Won) (y : Bool) (hy : F_laws_eqWon fu a_0 b_1 = some y) : Good E Try.prog 75 [(.agg [(.int .i64 a_0.Term), (.int .i64 a_0.Node)]), (.agg [(.int .i64 b_1.Term), (.int .i64 b_1.Node)])] (enc_bo y) :=
  fun_good E_ok (pc_good (hpc_laws_eqWon fu)) (fn := Try.f75) (c := body_laws_eqWon) (out := out_bo) (y := y) (by kernel_rfl) (by kernel_rfl) (by kernel_rfl) (lpok_laws_eqWon fu) (fun d hd => out_bo_enc d _ hd) ((ev_laws_eqWon fu a_0 b_1).trans hy)
theorem good_laws_eqWon (fu : Nat) : ∀ xs o, S_laws_eqWon fu xs = some o → ∀ y, o.x = some y → Good E Try.prog 75 xs (o.g y) := by
  intro xs o h y hy
  unfold S_laws_eqWon at h
  split at h
  · rename_i a0_1 a0_2 a1_1 a1_2
    cases h
    exact goodv_laws_eqWon fu (⟨a0_1, a0_2⟩ : S_impl_Won) (⟨a1_1, a1_2⟩ : S_impl_Won) y hy
  · cases h

/-! laws.eqWonS -/
def F_laws_eqWonS_B0 {ρ : Type} (fu : Nat) (a0_0 : (Sl S_impl_Won)) (b1_1 : (Sl S_impl_Won)) (k0 : Option ρ) (k1 : Option ρ) (i5_2 : Int) (go : Int → Option ρ) : Option ρ :=
  (bif (decide (i5_2 < ((a0_0.n : Nat) : Int))) then ((bif (decide (0 ≤ i5_2) && decide ((Int.toNat i5_2) < a0_0.n)) then some () else none : Option Unit).bind fun _ => ((bif (decide (0 ≤ i5_2) &&
    decide ((Int.toNat i5_2) < b1_1.n)) then some () else none : Option Unit).bind fun _ => ((F_laws_eqWon fu (a0_0.f (Int.toNat i5_2)) (b1_1.f (Int.toNat i5_2))).bind fun y402 =>
    (bif (!y402) then k0 else (go (IntKind.wrap .i64 (i5_2 + 1))))))) else k1)
def F_laws_eqWonS (fu : Nat) (a_0 : (Sl S_impl_Won)) (b_1 : (Sl S_impl_Won)) : Option (Bool) :=
  (bif (((a_0.n : Nat) : Int) != ((b_1.n : Nat) : Int)) then (some false) else (L (fun w0 go0 => F_laws_eqWonS_B0 fu a_0 b_1 (some false) (some true) w0 go0) fu (0 : Int)))
def pc_laws_eqWonS (fu : Nat) : Pc RT den := fun f xs => match f with | 75 => S_laws_eqWon fu xs | _ => none
def msk_laws_eqWonS (b : Nat) : List Nat := match b with | 0 => [2, 3, 4, 6, 7, 8, 9, 10, 11, 12, 13, 14, 15, 16, 17, 18, 19, 20, 21, 22, 23, 24, 25, 26] | 100000 => [0, 1, 2, 3, 5, 6, 7, 8, 9, 10, 11, 12, 13, 14, 15, 16, 17, 18, 19, 20, 21, 22, 23, 24, 25, 26] | _ => []
def ps_laws_eqWonS_0 : List (Pat RT) := [.flat (.rs .impl_Won), .flat (.rs .impl_Won), .flat .dead, .flat .dead, .flat .dead, .flat (.int .i64), .flat .dead, .flat .dead, .flat .dead, .flat .dead, .flat .dead, .flat .dead, .flat .dead, .flat .dead, .flat .dead, .flat .dead, .flat .dead, .flat .dead, .flat .dead, .flat .dead, .flat .dead, .flat .dead, .flat .dead, .flat .dead, .flat .dead, .flat .dead, .flat .dead]
def os_laws_eqWonS_0 : List (OP RT) := []
def conv_laws_eqWonS_0 (r : Raw den ps_laws_eqWonS_0 os_laws_eqWonS_0) : ((Sl S_impl_Won) × (Sl S_impl_Won)) × (Int) := ((r.1.1, r.1.2.1), r.1.2.2.2.2.2.1)
def back_laws_eqWonS_0 (c : (Sl S_impl_Won) × (Sl S_impl_Won)) (w : Int) : St RT den := ⟨[(.rs c.1.z .impl_Won c.1.n c.1.f), (.rs c.2.z .impl_Won c.2.n c.2.f), .dead, .dead, .dead, (.int .i64 w), .dead, .dead, .dead, .dead, .dead, .dead, .dead, .dead, .dead, .dead, .dead, .dead, .dead, .dead, .dead, .dead, .dead, .dead, .dead, .dead, .dead], []⟩
def Bk_laws_eqWonS_0 {ρ : Type} (fu : Nat) (c : (Sl S_impl_Won) × (Sl S_impl_Won)) (k : Ex → St RT den → Option ρ) (w : Int) (go : (Int) → Option ρ) : Option ρ := F_laws_eqWonS_B0 fu c.1 c.2 (k .ret ⟨[.dead, .dead, .dead, .dead, (.bool false), .dead, .dead, .dead, .dead, .dead, .dead, .dead, .dead, .dead, .dead, .dead, .dead, .dead, .dead, .dead, .dead, .dead, .dead, .dead, .dead, .dead, .dead], []⟩) (k (.exit 0) ⟨[.dead, .dead, .dead, .dead, .dead, .dead, .dead, .dead, .dead, .dead, .dead, .dead, .dead, .dead, .dead, .dead, .dead, .dead, .dead, .dead, .dead, .dead, .dead, .dead, .dead, .dead, .dead], []⟩) w go
def lp_laws_eqWonS (fu : Nat) : Lp RT den (Bool) := fun b s k => match b with | 0 => handle ps_laws_eqWonS_0 os_laws_eqWonS_0 conv_laws_eqWonS_0 (Bk_laws_eqWonS_0 fu) fu s k | _ => none
theorem ev_laws_eqWonS (fu : Nat) (a_0 : (Sl S_impl_Won)) (b_1 : (Sl S_impl_Won)) : evFun E (pc_laws_eqWonS fu) msk_laws_eqWonS (lp_laws_eqWonS fu) out_bo 36 [(.rs a_0.z .impl_Won a_0.n a_0.f), (.rs b_1.z .impl_Won b_1.n b_1.f)] = F_laws_eqWonS fu a_0 b_1 := by kernel_rfl
noncomputable def body_laws_eqWonS : Code := Try.f36.body.getD .skip
noncomputable def lc_laws_eqWonS_0 : Code := ((loops 0 body_laws_eqWonS).getD 0 (0, .skip)).2
theorem round_laws_eqWonS_0 (fu : Nat) (it : St RT den → Option (Bool)) (k : Ex → St RT den → Option (Bool)) c w : evCode E (pc_laws_eqWonS fu) msk_laws_eqWonS (lp_laws_eqWonS fu) 0 lc_laws_eqWonS_0 (back_laws_eqWonS_0 c w) (after (msk_laws_eqWonS 0) (msk_laws_eqWonS 100000) 0 it k) = Bk_laws_eqWonS_0 fu c k w (fun w => it (back_laws_eqWonS_0 c w)) := by kernel_rfl
theorem lpok_laws_eqWonS_0 (fu : Nat) : ∀ s k r, lp_laws_eqWonS fu 0 s k = some r → ∃ fuel, iter (msk_laws_eqWonS 0) (msk_laws_eqWonS 100000) s.objs.length (evCode E (pc_laws_eqWonS fu) msk_laws_eqWonS (lp_laws_eqWonS fu) 0 lc_laws_eqWonS_0) fuel s k = some r :=
  handle_ok (ps := ps_laws_eqWonS_0) (os := os_laws_eqWonS_0) (conv := conv_laws_eqWonS_0) (B := Bk_laws_eqWonS_0 fu) (fu := fu) back_laws_eqWonS_0 (fun raw => by kernel_rfl) 0 (fun c w => by kernel_rfl) (round_laws_eqWonS_0 fu)
theorem lpok_laws_eqWonS (fu : Nat) : LpOk E (pc_laws_eqWonS fu) msk_laws_eqWonS (lp_laws_eqWonS fu) (loops 0 body_laws_eqWonS) := loop_all 1 (by kernel_rfl) fun i hi => match i, hi with
  | 0, _ => by
    have h : (loops 0 body_laws_eqWonS).getD 0 (0, .skip) = (0, lc_laws_eqWonS_0) := by kernel_rfl
    rw [h]; exact lpok_laws_eqWonS_0 fu
  | i + 1, hi => absurd hi (by omega)
def S_laws_eqWonS (fu : Nat) (xs : List (D RT den)) : Option (Out RT den) := match xs with | [.rs za0_0 .impl_Won na0_0 fa0_0, .rs za1_0 .impl_Won na1_0 fa1_0] => some ⟨Bool, F_laws_eqWonS fu (⟨za0_0, na0_0, fa0_0⟩ : (Sl S_impl_Won)) (⟨za1_0, na1_0, fa1_0⟩ : (Sl S_impl_Won)), enc_bo, fun _ => true⟩ | _ => none
theorem hpc_laws_eqWonS (fu : Nat) : ∀ f xs o, pc_laws_eqWonS fu f xs = some o → ∀ y, o.x = some y → Good E Try.prog f xs (o.g y) := by
  intro f xs o h
  unfold pc_laws_eqWonS at h
  split at h
  · exact good_laws_eqWon fu xs o h
  · cases h
theorem goodv_laws_eqWonS (fu : Nat) (a_0 : (Sl S_impl_Won)) (b_1 : (Sl S_impl_Won)) (y : Bool) (hy : F_laws_eqWonS fu a_0 b_1 = some y) : Good E Try.prog 36 [(.rs a_0.z .impl_Won a_0.n a_0.f), (.rs b_1.z .impl_Won b_1.n b_1.f)] (enc_bo y) :=
  fun_good E_ok (pc_good (hpc_laws_eqWonS fu)) (fn := Try.f36) (c := body_laws_eqWonS) (out := out_bo) (y := y) (by kernel_rfl) (by kernel_rfl) (by kernel_rfl) (lpok_laws_eqWonS fu) (fun d hd => out_bo_enc d _ hd) ((ev_laws_eqWonS fu a_0 b_1).trans hy)
theorem good_laws_eqWonS (fu : Nat) : ∀ xs o, S_laws_eqWonS fu xs = some o → ∀ y, o.x = some y → Good E Try.prog 36 xs (o.g y) := by
  intro xs o h y hy
  unfold S_laws_eqWonS at h
  split at h
  · rename_i za0_0 na0_0 fa0_0 za1_0 na1_0 fa1_0
    cases h
    exact goodv_laws_eqWonS fu (⟨za0_0, na0_0, fa0_0⟩ : (Sl S_impl_Won)) (⟨za1_0, na1_0, fa1_0⟩ : (Sl S_impl_Won)) y hy
  · cases h

/-! laws.eqSeal -/
def F_laws_eqSeal (fu : Nat) (a_0 : S_impl_Seal) (b_1 : S_impl_Seal) : Option (Bool) :=
  (bif (a_0.Term != b_1.Term) then (some false) else ((F_laws_eqEntry fu a_0.Entry b_1.Entry).bind fun y404 => (bif (!y404) then (some false) else (some true))))
def pc_laws_eqSeal (fu : Nat) : Pc RT den := fun f xs => match f with | 79 => S_laws_eqEntry fu xs | _ => none
def msk_laws_eqSeal (b : Nat) : List Nat := []
def lp_laws_eqSeal (fu : Nat) : Lp RT den (Bool) := fun b s k => none
theorem ev_laws_eqSeal (fu : Nat) (a_0 : S_impl_Seal) (b_1 : S_impl_Seal) : evFun E (pc_laws_eqSeal fu) msk_laws_eqSeal (lp_laws_eqSeal fu) out_bo 76 [(.agg [(.int .i64 a_0.Term), (.int .i64 a_0.Entry.Term), (.int .i64 a_0.Entry.Client), (.int .i64 a_0.Entry.Seq), (.int .i64 a_0.Entry.Cmd.Kind), (.int .i64 a_0.Entry.Cmd.Expect), (.int .i64 a_0.Entry.Cmd.Name), (.int .i64 a_0.Entry.Cmd.Addr), (.int .i64 a_0.Entry.Cmd.Number), (.int .i64 a_0.Entry.Cmd.Proto)]), (.agg [(.int .i64 b_1.Term), (.int .i64 b_1.Entry.Term), (.int .i64 b_1.Entry.Client), (.int .i64 b_1.Entry.Seq), (.int .i64 b_1.Entry.Cmd.Kind), (.int .i64 b_1.Entry.Cmd.Expect), (.int .i64 b_1.Entry.Cmd.Name), (.int .i64 b_1.Entry.Cmd.Addr), (.int .i64 b_1.Entry.Cmd.Number), (.int .i64 b_1.Entry.Cmd.Proto)])] = F_laws_eqSeal fu a_0 b_1 := by kernel_rfl
noncomputable def body_laws_eqSeal : Code := Try.f76.body.getD .skip
theorem lpok_laws_eqSeal (fu : Nat) : LpOk E (pc_laws_eqSeal fu) msk_laws_eqSeal (lp_laws_eqSeal fu) (loops 0 body_laws_eqSeal) := by
  have h : loops 0 body_laws_eqSeal = [] := by kernel_rfl
  rw [h]; intro p hp; cases hp
def S_laws_eqSeal (fu : Nat) (xs : List (D RT den)) : Option (Out RT den) := match xs with | [.agg [.int .i64 a0_1, .int .i64 a0_3, .int .i64 a0_4, .int .i64 a0_5, .int .i64 a0_7, .int .i64 a0_8, .int .i64 a0_9, .int .i64 a0_10, .int .i64 a0_11, .int .i64 a0_12], .agg [.int .i64 a1_1, .int .i64 a1_3, .int .i64 a1_4, .int .i64 a1_5, .int .i64 a1_7, .int .i64 a1_8, .int .i64 a1_9, .int .i64 a1_10, .int .i64 a1_11, .int .i64 a1_12]] => some ⟨Bool, F_laws_eqSeal fu (⟨a0_1, (⟨a0_3, a0_4, a0_5, (⟨a0_7, a0_8, a0_9, a0_10, a0_11, a0_12⟩ : S_impl_Cmd)⟩ : S_impl_Entry)⟩ : S_impl_Seal) (⟨a1_1, (⟨a1_3, a1_4, a1_5, (⟨a1_7, a1_8, a1_9, a1_10, a1_11, a1_12⟩ : S_impl_Cmd)⟩ : S_impl_Entry)⟩ : S_impl_Seal), enc_bo, fun _ => true⟩ | _ => none
theorem hpc_laws_eqSeal (fu : Nat) : ∀ f xs o, pc_laws_eqSeal fu f xs = some o → ∀ y, o.x = some y → Good E Try.prog f xs (o.g y) := by
  intro f xs o h
  unfold pc_laws_eqSeal at h
  split at h
  · exact good_laws_eqEntry fu xs o h
  · cases h
theorem goodv_laws_eqSeal (fu : Nat) (a_0 : S_impl_Seal) (b_1 : S_impl_Seal) (y : Bool) (hy : F_laws_eqSeal fu a_0 b_1 = some y) : Good E Try.prog 76 [(.agg [(.int .i64 a_0.Term), (.int .i64 a_0.Entry.Term), (.int .i64 a_0.Entry.Client), (.int .i64 a_0.Entry.Seq), (.int .i64 a_0.Entry.Cmd.Kind), (.int .i64 a_0.Entry.Cmd.Expect), (.int .i64 a_0.Entry.Cmd.Name), (.int .i64 a_0.Entry.Cmd.Addr), (.int .i64 a_0.Entry.Cmd.Number), (.int .i64 a_0.Entry.Cmd.Proto)]), (.agg [(.int .i64 b_1.Term), (.int .i64 b_1.Entry.Term), (.int .i64 b_1.Entry.Client), (.int .i64 b_1.Entry.Seq), (.int .i64 b_1.Entry.Cmd.Kind), (.int .i64 b_1.Entry.Cmd.Expect), (.int .i64 b_1.Entry.Cmd.Name), (.int .i64 b_1.Entry.Cmd.Addr), (.int .i64 b_1.Entry.Cmd.Number), (.int .i64 b_1.Entry.Cmd.Proto)])] (enc_bo y) :=
  fun_good E_ok (pc_good (hpc_laws_eqSeal fu)) (fn := Try.f76) (c := body_laws_eqSeal) (out := out_bo) (y := y) (by kernel_rfl) (by kernel_rfl) (by kernel_rfl) (lpok_laws_eqSeal fu) (fun d hd => out_bo_enc d _ hd) ((ev_laws_eqSeal fu a_0 b_1).trans hy)
theorem good_laws_eqSeal (fu : Nat) : ∀ xs o, S_laws_eqSeal fu xs = some o → ∀ y, o.x = some y → Good E Try.prog 76 xs (o.g y) := by
  intro xs o h y hy
  unfold S_laws_eqSeal at h
  split at h
  · rename_i a0_1 a0_3 a0_4 a0_5 a0_7 a0_8 a0_9 a0_10 a0_11 a0_12 a1_1 a1_3 a1_4 a1_5 a1_7 a1_8 a1_9 a1_10 a1_11 a1_12
    cases h
    exact goodv_laws_eqSeal fu (⟨a0_1, (⟨a0_3, a0_4, a0_5, (⟨a0_7, a0_8, a0_9, a0_10, a0_11, a0_12⟩ : S_impl_Cmd)⟩ : S_impl_Entry)⟩ : S_impl_Seal) (⟨a1_1, (⟨a1_3, a1_4, a1_5, (⟨a1_7, a1_8, a1_9, a1_10, a1_11, a1_12⟩ : S_impl_Cmd)⟩ : S_impl_Entry)⟩ : S_impl_Seal) y hy
  · cases h

/-! laws.eqSealS -/
def F_laws_eqSealS_B0 {ρ : Type} (fu : Nat) (a0_0 : (Sl S_impl_Seal)) (b1_1 : (Sl S_impl_Seal)) (k0 : Option ρ) (k1 : Option ρ) (i5_2 : Int) (go : Int → Option ρ) : Option ρ :=
  (bif (decide (i5_2 < ((a0_0.n : Nat) : Int))) then ((bif (decide (0 ≤ i5_2) && decide ((Int.toNat i5_2) < a0_0.n)) then some () else none : Option Unit).bind fun _ => ((bif (decide (0 ≤ i5_2) &&
    decide ((Int.toNat i5_2) < b1_1.n)) then some () else none : Option Unit).bind fun _ => ((F_laws_eqSeal fu (a0_0.f (Int.toNat i5_2)) (b1_1.f (Int.toNat i5_2))).bind fun y403 =>
    (bif (!y403) then k0 else (go (IntKind.wrap .i64 (i5_2 + 1))))))) else k1)
def F_laws_eqSealS (fu : Nat) (a_0 : (Sl S_impl_Seal)) (b_1 : (Sl S_impl_Seal)) : Option (Bool) :=
  (bif (((a_0.n : Nat) : Int) != ((b_1.n : Nat) : Int)) then (some false) else (L (fun w0 go0 => F_laws_eqSealS_B0 fu a_0 b_1 (some false) (some true) w0 go0) fu (0 : Int)))
def pc_laws_eqSealS (fu : Nat) : Pc RT den := fun f xs => match f with | 76 => S_laws_eqSeal fu xs | _ => none
def msk_laws_eqSealS (b : Nat) : List Nat := match b with | 0 => [2, 3, 4, 6, 7, 8, 9, 10, 11, 12, 13, 14, 15, 16, 17, 18, 19, 20, 21, 22, 23, 24, 25, 26] | 100000 => [0, 1, 2, 3, 5, 6, 7, 8, 9, 10, 11, 12, 13, 14, 15, 16, 17, 18, 19, 20, 21, 22, 23, 24, 25, 26] | _ => []
def ps_laws_eqSealS_0 : List (Pat RT) := [.flat (.rs .impl_Seal), .flat (.rs .impl_Seal), .flat .dead, .flat .dead, .flat .dead, .flat (.int .i64), .flat .dead, .flat .dead, .flat .dead, .flat .dead, .flat .dead, .flat .dead, .flat .dead, .flat .dead, .flat .dead, .flat .dead, .flat .dead, .flat .dead, .flat .dead, .flat .dead, .flat .dead, .flat .dead, .flat .dead, .flat .dead, .flat .dead, .flat .dead, .flat .dead]
def os_laws_eqSealS_0 : List (OP RT) := []
def conv_laws_eqSealS_0 (r : Raw den ps_laws_eqSealS_0 os_laws_eqSealS_0) : ((Sl S_impl_Seal) × (Sl S_impl_Seal)) × (Int) := ((r.1.1, r.1.2.1), r.1.2.2.2.2.2.1)
def back_laws_eqSealS_0 (c : (Sl S_impl_Seal) × (Sl S_impl_Seal)) (w : Int) : St RT den := ⟨[(.rs c.1.z .impl_Seal c.1.n c.1.f), (.rs c.2.z .impl_Seal c.2.n c.2.f), .dead, .dead, .dead, (.int .i64 w), .dead, .dead, .dead, .dead, .dead, .dead, .dead, .dead, .dead, .dead, .dead, .dead, .dead, .dead, .dead, .dead, .dead, .dead, .dead, .dead, .dead], []⟩
def Bk_laws_eqSealS_0 {ρ : Type} (fu : Nat) (c : (Sl S_impl_Seal) × (Sl S_impl_Seal)) (k : Ex → St RT den → Option ρ) (w : Int) (go : (Int) → Option ρ) : Option ρ := F_laws_eqSealS_B0 fu c.1 c.2 (k .ret ⟨[.dead, .dead, .dead, .dead, (.bool false), .dead, .dead, .dead, .dead, .dead, .dead, .dead, .dead, .dead, .dead, .dead, .dead, .dead, .dead, .dead, .dead, .dead, .dead, .dead, .dead, .dead, .dead], []⟩) (k (.exit 0) ⟨[.dead, .dead, .dead, .dead, .dead, .dead, .dead, .dead, .dead, .dead, .dead, .dead, .dead, .dead, .dead, .dead, .dead, .dead, .dead, .dead, .dead, .dead, .dead, .dead, .dead, .dead, .dead], []⟩) w go
def lp_laws_eqSealS (fu : Nat) : Lp RT den (Bool) := fun b s k => match b with | 0 => handle ps_laws_eqSealS_0 os_laws_eqSealS_0 conv_laws_eqSealS_0 (Bk_laws_eqSealS_0 fu) fu s k | _ => none
theorem ev_laws_eqSealS (fu : Nat) (a_0 : (Sl S_impl_Seal)) (b_1 : (Sl S_impl_Seal)) : evFun E (pc_laws_eqSealS fu) msk_laws_eqSealS (lp_laws_eqSealS fu) out_bo 37 [(.rs a_0.z .impl_Seal a_0.n a_0.f), (.rs b_1.z .impl_Seal b_1.n b_1.f)] = F_laws_eqSealS fu a_0 b_1 := by kernel_rfl
noncomputable def body_laws_eqSealS : Code := Try.f37.body.getD .skip
noncomputable def lc_laws_eqSealS_0 : Code := ((loops 0 body_laws_eqSealS).getD 0 (0, .skip)).2
theorem round_laws_eqSealS_0 (fu : Nat) (it : St RT den → Option (Bool)) (k : Ex → St RT den → Option (Bool)) c w : evCode E (pc_laws_eqSealS fu) msk_laws_eqSealS (lp_laws_eqSealS fu) 0 lc_laws_eqSealS_0 (back_laws_eqSealS_0 c w) (after (msk_laws_eqSealS 0) (msk_laws_eqSealS 100000) 0 it k) = Bk_laws_eqSealS_0 fu c k w (fun w => it (back_laws_eqSealS_0 c w)) := by kernel_rfl
theorem lpok_laws_eqSealS_0 (fu : Nat) : ∀ s k r, lp_laws_eqSealS fu 0 s k = some r → ∃ fuel, iter (msk_laws_eqSealS 0) (msk_laws_eqSealS 100000) s.objs.length (evCode E (pc_laws_eqSealS fu) msk_laws_eqSealS (lp_laws_eqSealS fu) 0 lc_laws_eqSealS_0) fuel s k = some r :=
  handle_ok (ps := ps_laws_eqSealS_0) (os := os_laws_eqSealS_0) (conv := conv_laws_eqSealS_0) (B := Bk_laws_eqSealS_0 fu) (fu := fu) back_laws_eqSealS_0 (fun raw => by kernel_rfl) 0 (fun c w => by kernel_rfl) (round_laws_eqSealS_0 fu)
theorem lpok_laws_eqSealS (fu : Nat) : LpOk E (pc_laws_eqSealS fu) msk_laws_eqSealS (lp_laws_eqSealS fu) (loops 0 body_laws_eqSealS) := loop_all 1 (by kernel_rfl) fun i hi => match i, hi with
  | 0, _ => by
    have h : (loops 0 body_laws_eqSealS).getD 0 (0, .skip) = (0, lc_laws_eqSealS_0) := by kernel_rfl
    rw [h]; exact lpok_laws_eqSealS_0 fu
  | i + 1, hi => absurd hi (by omega)
def S_laws_eqSealS (fu : Nat) (xs : List (D RT den)) : Option (Out RT den) := match xs with | [.rs za0_0 .impl_Seal na0_0 fa0_0, .rs za1_0 .impl_Seal na1_0 fa1_0] => some ⟨Bool, F_laws_eqSealS fu (⟨za0_0, na0_0, fa0_0⟩ : (Sl S_impl_Seal)) (⟨za1_0, na1_0, fa1_0⟩ : (Sl S_impl_Seal)), enc_bo, fun _ => true⟩ | _ => none
theorem hpc_laws_eqSealS (fu : Nat) : ∀ f xs o, pc_laws_eqSealS fu f xs = some o → ∀ y, o.x = some y → Good E Try.prog f xs (o.g y) := by
  intro f xs o h
  unfold pc_laws_eqSealS at h
  split at h
  · exact good_laws_eqSeal fu xs o h
  · cases h
theorem goodv_laws_eqSealS (fu : Nat) (a_0 : (Sl S_impl_Seal)) (b_1 : (Sl S_impl_Seal)) (y : Bool) (hy : F_laws_eqSealS fu a_0 b_1 = some y) : Good E Try.prog 37 [(.rs a_0.z .impl_Seal a_0.n a_0.f), (.rs b_1.z .impl_Seal b_1.n b_1.f)] (enc_bo y) :=
  fun_good E_ok (pc_good (hpc_laws_eqSealS fu)) (fn := Try.f37) (c := body_laws_eqSealS) (out := out_bo) (y := y) (by kernel_rfl) (by kernel_rfl) (by kernel_rfl) (lpok_laws_eqSealS fu) (fun d hd => out_bo_enc d _ hd) ((ev_laws_eqSealS fu a_0 b_1).trans hy)
theorem good_laws_eqSealS (fu : Nat) : ∀ xs o, S_laws_eqSealS fu xs = some o → ∀ y, o.x = some y → Good E Try.prog 37 xs (o.g y) := by
  intro xs o h y hy
  unfold S_laws_eqSealS at h
  split at h
  · rename_i za0_0 na0_0 fa0_0 za1_0 na1_0 fa1_0
    cases h
    exact goodv_laws_eqSealS fu (⟨za0_0, na0_0, fa0_0⟩ : (Sl S_impl_Seal)) (⟨za1_0, na1_0, fa1_0⟩ : (Sl S_impl_Seal)) y hy
  · cases h

/-! laws.eqCluster -/
def F_laws_eqCluster (fu : Nat) (a_0 : S_impl_Cluster) (b_1 : S_impl_Cluster) : Option (Bool) :=
  ((F_laws_eqNodeS fu a_0.Nodes b_1.Nodes).bind fun y389 => (bif (!y389) then (some false) else ((F_laws_eqMailS fu a_0.Mails b_1.Mails).bind fun y390 => (bif (!y390) then (some false) else
    ((F_laws_eqWonS fu a_0.Wins b_1.Wins).bind fun y391 => (bif (!y391) then (some false) else ((F_laws_eqSealS fu a_0.Seals b_1.Seals).bind fun y392 => (bif (!y392) then (some false) else
    (some true)))))))))
def pc_laws_eqCluster (fu : Nat) : Pc RT den := fun f xs => match f with | 34 => S_laws_eqNodeS fu xs | 35 => S_laws_eqMailS fu xs | 36 => S_laws_eqWonS fu xs | 37 => S_laws_eqSealS fu xs | _ => none
def msk_laws_eqCluster (b : Nat) : List Nat := []
def lp_laws_eqCluster (fu : Nat) : Lp RT den (Bool) := fun b s k => none
theorem ev_laws_eqCluster (fu : Nat) (a_0 : S_impl_Cluster) (b_1 : S_impl_Cluster) : evFun E (pc_laws_eqCluster fu) msk_laws_eqCluster (lp_laws_eqCluster fu) out_bo 11 [(.agg [(.rs a_0.Nodes.z .impl_Node a_0.Nodes.n a_0.Nodes.f), (.rs a_0.Mails.z .impl_Mail a_0.Mails.n a_0.Mails.f), (.rs a_0.Wins.z .impl_Won a_0.Wins.n a_0.Wins.f), (.rs a_0.Seals.z .impl_Seal a_0.Seals.n a_0.Seals.f)]), (.agg [(.rs b_1.Nodes.z .impl_Node b_1.Nodes.n b_1.Nodes.f), (.rs b_1.Mails.z .impl_Mail b_1.Mails.n b_1.Mails.f), (.rs b_1.Wins.z .impl_Won b_1.Wins.n b_1.Wins.f), (.rs b_1.Seals.z .impl_Seal b_1.Seals.n b_1.Seals.f)])] = F_laws_eqCluster fu a_0 b_1 := by kernel_rfl
noncomputable def body_laws_eqCluster : Code := Try.f11.body.getD .skip
theorem lpok_laws_eqCluster (fu : Nat) : LpOk E (pc_laws_eqCluster fu) msk_laws_eqCluster (lp_laws_eqCluster fu) (loops 0 body_laws_eqCluster) := by
  have h : loops 0 body_laws_eqCluster = [] := by kernel_rfl
  rw [h]; intro p hp; cases hp
def S_laws_eqCluster (fu : Nat) (xs : List (D RT den)) : Option (Out RT den) := match xs with | [.agg [.rs za0_1 .impl_Node na0_1 fa0_1, .rs za0_2 .impl_Mail na0_2 fa0_2, .rs za0_3 .impl_Won na0_3 fa0_3, .rs za0_4 .impl_Seal na0_4 fa0_4], .agg [.rs za1_1 .impl_Node na1_1 fa1_1, .rs za1_2 .impl_Mail na1_2 fa1_2, .rs za1_3 .impl_Won na1_3 fa1_3, .rs za1_4 .impl_Seal na1_4 fa1_4]] => some ⟨Bool, F_laws_eqCluster fu (⟨(⟨za0_1, na0_1, fa0_1⟩ : (Sl S_impl_Node)), (⟨za0_2, na0_2, fa0_2⟩ : (Sl S_impl_Mail)), (⟨za0_3, na0_3, fa0_3⟩ : (Sl S_impl_Won)), (⟨za0_4, na0_4, fa0_4⟩ : (Sl S_impl_Seal))⟩ : S_impl_Cluster) (⟨(⟨za1_1, na1_1, fa1_1⟩ : (Sl S_impl_Node)), (⟨za1_2, na1_2, fa1_2⟩ : (Sl S_impl_Mail)), (⟨za1_3, na1_3, fa1_3⟩ : (Sl S_impl_Won)), (⟨za1_4, na1_4, fa1_4⟩ : (Sl S_impl_Seal))⟩ : S_impl_Cluster), enc_bo, fun _ => true⟩ | _ => none
theorem hpc_laws_eqCluster (fu : Nat) : ∀ f xs o, pc_laws_eqCluster fu f xs = some o → ∀ y, o.x = some y → Good E Try.prog f xs (o.g y) := by
  intro f xs o h
  unfold pc_laws_eqCluster at h
  split at h
  · exact good_laws_eqNodeS fu xs o h
  · exact good_laws_eqMailS fu xs o h
  · exact good_laws_eqWonS fu xs o h
  · exact good_laws_eqSealS fu xs o h
  · cases h
theorem goodv_laws_eqCluster (fu : Nat) (a_0 : S_impl_Cluster) (b_1 : S_impl_Cluster) (y : Bool) (hy : F_laws_eqCluster fu a_0 b_1 = some y) : Good E Try.prog 11 [(.agg [(.rs a_0.Nodes.z .impl_Node a_0.Nodes.n a_0.Nodes.f), (.rs a_0.Mails.z .impl_Mail a_0.Mails.n a_0.Mails.f), (.rs a_0.Wins.z .impl_Won a_0.Wins.n a_0.Wins.f), (.rs a_0.Seals.z .impl_Seal a_0.Seals.n a_0.Seals.f)]), (.agg [(.rs b_1.Nodes.z .impl_Node b_1.Nodes.n b_1.Nodes.f), (.rs b_1.Mails.z .impl_Mail b_1.Mails.n b_1.Mails.f), (.rs b_1.Wins.z .impl_Won b_1.Wins.n b_1.Wins.f), (.rs b_1.Seals.z .impl_Seal b_1.Seals.n b_1.Seals.f)])] (enc_bo y) :=
  fun_good E_ok (pc_good (hpc_laws_eqCluster fu)) (fn := Try.f11) (c := body_laws_eqCluster) (out := out_bo) (y := y) (by kernel_rfl) (by kernel_rfl) (by kernel_rfl) (lpok_laws_eqCluster fu) (fun d hd => out_bo_enc d _ hd) ((ev_laws_eqCluster fu a_0 b_1).trans hy)
theorem good_laws_eqCluster (fu : Nat) : ∀ xs o, S_laws_eqCluster fu xs = some o → ∀ y, o.x = some y → Good E Try.prog 11 xs (o.g y) := by
  intro xs o h y hy
  unfold S_laws_eqCluster at h
  split at h
  · rename_i za0_1 na0_1 fa0_1 za0_2 na0_2 fa0_2 za0_3 na0_3 fa0_3 za0_4 na0_4 fa0_4 za1_1 na1_1 fa1_1 za1_2 na1_2 fa1_2 za1_3 na1_3 fa1_3 za1_4 na1_4 fa1_4
    cases h
    exact goodv_laws_eqCluster fu (⟨(⟨za0_1, na0_1, fa0_1⟩ : (Sl S_impl_Node)), (⟨za0_2, na0_2, fa0_2⟩ : (Sl S_impl_Mail)), (⟨za0_3, na0_3, fa0_3⟩ : (Sl S_impl_Won)), (⟨za0_4, na0_4, fa0_4⟩ : (Sl S_impl_Seal))⟩ : S_impl_Cluster) (⟨(⟨za1_1, na1_1, fa1_1⟩ : (Sl S_impl_Node)), (⟨za1_2, na1_2, fa1_2⟩ : (Sl S_impl_Mail)), (⟨za1_3, na1_3, fa1_3⟩ : (Sl S_impl_Won)), (⟨za1_4, na1_4, fa1_4⟩ : (Sl S_impl_Seal))⟩ : S_impl_Cluster) y hy
  · cases h

/-! laws.FnExactLogsMatch -/
def F_laws_FnExactLogsMatch (fu : Nat) (aC_0 : S_laws_Cluster) : Option (Bool) :=
  ((F_laws_szCluster fu aC_0 1048576).bind fun y1 => (bif (decide (y1 < 0)) then (some true) else ((F_laws_toCluster fu aC_0).bind fun y2 => ((F_spec_LogsMatch fu y2).bind fun y3 =>
    ((F_laws_toCluster fu aC_0).bind fun y4 => ((F_impl_LogsMatch fu y4).bind fun y5 => (bif (!(y5 == y3)) then (some false) else ((F_laws_toCluster fu aC_0).bind fun y6 =>
    ((F_laws_eqCluster fu y4 y6).bind fun y7 => (bif (!y7) then (some false) else (some true)))))))))))
def pc_laws_FnExactLogsMatch (fu : Nat) : Pc RT den := fun f xs => match f with | 7 => S_laws_szCluster fu xs | 8 => S_spec_LogsMatch fu xs | 9 => S_laws_toCluster fu xs | 10 => S_impl_LogsMatch fu xs | 11 => S_laws_eqCluster fu xs | _ => none
def msk_laws_FnExactLogsMatch (b : Nat) : List Nat := []
def lp_laws_FnExactLogsMatch (fu : Nat) : Lp RT den (Bool) := fun b s k => none
theorem ev_laws_FnExactLogsMatch (fu : Nat) (aC_0 : S_laws_Cluster) : evFun E (pc_laws_FnExactLogsMatch fu) msk_laws_FnExactLogsMatch (lp_laws_FnExactLogsMatch fu) out_bo 3 [(.agg [(.rs aC_0.Nodes.z .laws_Node aC_0.Nodes.n aC_0.Nodes.f), (.rs aC_0.Mails.z .laws_Mail aC_0.Mails.n aC_0.Mails.f), (.rs aC_0.Wins.z .impl_Won aC_0.Wins.n aC_0.Wins.f), (.rs aC_0.Seals.z .laws_Seal aC_0.Seals.n aC_0.Seals.f)])] = F_laws_FnExactLogsMatch fu aC_0 := by kernel_rfl
noncomputable def body_laws_FnExactLogsMatch : Code := Try.f3.body.getD .skip
theorem lpok_laws_FnExactLogsMatch (fu : Nat) : LpOk E (pc_laws_FnExactLogsMatch fu) msk_laws_FnExactLogsMatch (lp_laws_FnExactLogsMatch fu) (loops 0 body_laws_FnExactLogsMatch) := by
  have h : loops 0 body_laws_FnExactLogsMatch = [] := by kernel_rfl
  rw [h]; intro p hp; cases hp
def S_laws_FnExactLogsMatch (fu : Nat) (xs : List (D RT den)) : Option (Out RT den) := match xs with | [.agg [.rs za0_1 .laws_Node na0_1 fa0_1, .rs za0_2 .laws_Mail na0_2 fa0_2, .rs za0_3 .impl_Won na0_3 fa0_3, .rs za0_4 .laws_Seal na0_4 fa0_4]] => some ⟨Bool, F_laws_FnExactLogsMatch fu (⟨(⟨za0_1, na0_1, fa0_1⟩ : (Sl S_laws_Node)), (⟨za0_2, na0_2, fa0_2⟩ : (Sl S_laws_Mail)), (⟨za0_3, na0_3, fa0_3⟩ : (Sl S_impl_Won)), (⟨za0_4, na0_4, fa0_4⟩ : (Sl S_laws_Seal))⟩ : S_laws_Cluster), enc_bo, fun _ => true⟩ | _ => none
theorem hpc_laws_FnExactLogsMatch (fu : Nat) : ∀ f xs o, pc_laws_FnExactLogsMatch fu f xs = some o → ∀ y, o.x = some y → Good E Try.prog f xs (o.g y) := by
  intro f xs o h
  unfold pc_laws_FnExactLogsMatch at h
  split at h
  · exact good_laws_szCluster fu xs o h
  · exact good_spec_LogsMatch fu xs o h
  · exact good_laws_toCluster fu xs o h
  · exact good_impl_LogsMatch fu xs o h
  · exact good_laws_eqCluster fu xs o h
  · cases h
theorem goodv_laws_FnExactLogsMatch (fu : Nat) (aC_0 : S_laws_Cluster) (y : Bool) (hy : F_laws_FnExactLogsMatch fu aC_0 = some y) : Good E Try.prog 3 [(.agg [(.rs aC_0.Nodes.z .laws_Node aC_0.Nodes.n aC_0.Nodes.f), (.rs aC_0.Mails.z .laws_Mail aC_0.Mails.n aC_0.Mails.f), (.rs aC_0.Wins.z .impl_Won aC_0.Wins.n aC_0.Wins.f), (.rs aC_0.Seals.z .laws_Seal aC_0.Seals.n aC_0.Seals.f)])] (enc_bo y) :=
  fun_good E_ok (pc_good (hpc_laws_FnExactLogsMatch fu)) (fn := Try.f3) (c := body_laws_FnExactLogsMatch) (out := out_bo) (y := y) (by kernel_rfl) (by kernel_rfl) (by kernel_rfl) (lpok_laws_FnExactLogsMatch fu) (fun d hd => out_bo_enc d _ hd) ((ev_laws_FnExactLogsMatch fu aC_0).trans hy)
theorem good_laws_FnExactLogsMatch (fu : Nat) : ∀ xs o, S_laws_FnExactLogsMatch fu xs = some o → ∀ y, o.x = some y → Good E Try.prog 3 xs (o.g y) := by
  intro xs o h y hy
  unfold S_laws_FnExactLogsMatch at h
  split at h
  · rename_i za0_1 na0_1 fa0_1 za0_2 na0_2 fa0_2 za0_3 na0_3 fa0_3 za0_4 na0_4 fa0_4
    cases h
    exact goodv_laws_FnExactLogsMatch fu (⟨(⟨za0_1, na0_1, fa0_1⟩ : (Sl S_laws_Node)), (⟨za0_2, na0_2, fa0_2⟩ : (Sl S_laws_Mail)), (⟨za0_3, na0_3, fa0_3⟩ : (Sl S_impl_Won)), (⟨za0_4, na0_4, fa0_4⟩ : (Sl S_laws_Seal))⟩ : S_laws_Cluster) y hy
  · cases h
end Go.Proofs.Ytnfippmeficfjaa.Pc
