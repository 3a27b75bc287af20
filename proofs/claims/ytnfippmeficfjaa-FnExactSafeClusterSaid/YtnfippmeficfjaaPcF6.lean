/- The functions' evaluated forms, each a proved summary. Conditions: none. -/
import Derived.Test.YtnfippmeficfjaaPcF5
namespace Go.Proofs.Ytnfippmeficfjaa.Pc
open Go Go.RowKit Go.Proofs Vm
set_option linter.unusedVariables false
set_option linter.unusedSimpArgs false
set_option maxRecDepth 100000
/-! laws.eqMailS -/
def F_laws_eqMailS_B0 {ρ : Type} (fu : Nat) (a0_0 : (Sl S_impl_Mail)) (b1_1 : (Sl S_impl_Mail)) (k0 : Option ρ) (k1 : Option ρ) (i5_2 : Int) (go : Int → Option ρ) : Option ρ :=
  (bif (decide (i5_2 < ((a0_0.n : Nat) : Int))) then ((bif (decide (0 ≤ i5_2) && decide ((Int.toNat i5_2) < a0_0.n)) then some () else none : Option Unit).bind fun _ => ((bif (decide (0 ≤ i5_2) &&
    decide ((Int.toNat i5_2) < b1_1.n)) then some () else none : Option Unit).bind fun _ => ((F_laws_eqMail fu (a0_0.f (Int.toNat i5_2)) (b1_1.f (Int.toNat i5_2))).bind fun y400 =>
    (bif (!y400) then k0 else (go (IntKind.wrap .i64 (i5_2 + 1))))))) else k1)
def F_laws_eqMailS (fu : Nat) (a_0 : (Sl S_impl_Mail)) (b_1 : (Sl S_impl_Mail)) : Option (Bool) :=
  (bif (((a_0.n : Nat) : Int) != ((b_1.n : Nat) : Int)) then (some false) else (L (fun w0 go0 => F_laws_eqMailS_B0 fu a_0 b_1 (some false) (some true) w0 go0) fu (0 : Int)))
def pc_laws_eqMailS (fu : Nat) : Pc RT den := fun f xs => match f with | 74 => S_laws_eqMail fu xs | _ => none
def msk_laws_eqMailS (b : Nat) : List Nat := match b with | 0 => [2, 3, 4, 6, 7, 8, 9, 10, 11, 12, 13, 14, 15, 16, 17, 18, 19, 20, 21, 22, 23, 24, 25, 26] | 100000 => [0, 1, 2, 3, 5, 6, 7, 8, 9, 10, 11, 12, 13, 14, 15, 16, 17, 18, 19, 20, 21, 22, 23, 24, 25, 26] | _ => []
def ps_laws_eqMailS_0 : List (Pat RT) := [.flat (.rs .impl_Mail), .flat (.rs .impl_Mail), .flat .dead, .flat .dead, .flat .dead, .flat (.int .i64), .flat .dead, .flat .dead, .flat .dead, .flat .dead, .flat .dead, .flat .dead, .flat .dead, .flat .dead, .flat .dead, .flat .dead, .flat .dead, .flat .dead, .flat .dead, .flat .dead, .flat .dead, .flat .dead, .flat .dead, .flat .dead, .flat .dead, .flat .dead, .flat .dead]
def os_laws_eqMailS_0 : List (OP RT) := []
def conv_laws_eqMailS_0 (r : Raw den ps_laws_eqMailS_0 os_laws_eqMailS_0) : ((Sl S_impl_Mail) × (Sl S_impl_Mail)) × (Int) := ((r.1.1, r.1.2.1), r.1.2.2.2.2.2.1)
def back_laws_eqMailS_0 (c : (Sl S_impl_Mail) × (Sl S_impl_Mail)) (w : Int) : St RT den := ⟨[(.rs c.1.z .impl_Mail c.1.n c.1.f), (.rs c.2.z .impl_Mail c.2.n c.2.f), .dead, .dead, .dead, (.int .i64 w), .dead, .dead, .dead, .dead, .dead, .dead, .dead, .dead, .dead, .dead, .dead, .dead, .dead, .dead, .dead, .dead, .dead, .dead, .dead, .dead, .dead], []⟩
def Bk_laws_eqMailS_0 {ρ : Type} (fu : Nat) (c : (Sl S_impl_Mail) × (Sl S_impl_Mail)) (k : Ex → St RT den → Option ρ) (w : Int) (go : (Int) → Option ρ) : Option ρ := F_laws_eqMailS_B0 fu c.1 c.2 (k .ret ⟨[.dead, .dead, .dead, .dead, (.bool false), .dead, .dead, .dead, .dead, .dead, .dead, .dead, .dead, .dead, .dead, .dead, .dead, .dead, .dead, .dead, .dead, .dead, .dead, .dead, .dead, .dead, .dead], []⟩) (k (.exit 0) ⟨[.dead, .dead, .dead, .dead, .dead, .dead, .dead, .dead, .dead, .dead, .dead, .dead, .dead, .dead, .dead, .dead, .dead, .dead, .dead, .dead, .dead, .dead, .dead, .dead, .dead, .dead, .dead], []⟩) w go
def lp_laws_eqMailS (fu : Nat) : Lp RT den (Bool) := fun b s k => match b with | 0 => handle ps_laws_eqMailS_0 os_laws_eqMailS_0 conv_laws_eqMailS_0 (Bk_laws_eqMailS_0 fu) fu s k | _ => none
theorem ev_laws_eqMailS (fu : Nat) (a_0 : (Sl S_impl_Mail)) (b_1 : (Sl S_impl_Mail)) : evFun E (pc_laws_eqMailS fu) msk_laws_eqMailS (lp_laws_eqMailS fu) out_bo 35 [(.rs a_0.z .impl_Mail a_0.n a_0.f), (.rs b_1.z .impl_Mail b_1.n b_1.f)] = F_laws_eqMailS fu a_0 b_1 := by kernel_rfl
noncomputable def body_laws_eqMailS : Code := Try.f35.body.getD .skip
noncomputable def lc_laws_eqMailS_0 : Code := ((loops 0 body_laws_eqMailS).getD 0 (0, .skip)).2
theorem round_laws_eqMailS_0 (fu : Nat) (it : St RT den → Option (Bool)) (k : Ex → St RT den → Option (Bool)) c w : evCode E (pc_laws_eqMailS fu) msk_laws_eqMailS (lp_laws_eqMailS fu) 0 lc_laws_eqMailS_0 (back_laws_eqMailS_0 c w) (after (msk_laws_eqMailS 0) (msk_laws_eqMailS 100000) 0 it k) = Bk_laws_eqMailS_0 fu c k w (fun w => it (back_laws_eqMailS_0 c w)) := by kernel_rfl
theorem lpok_laws_eqMailS_0 (fu : Nat) : ∀ s k r, lp_laws_eqMailS fu 0 s k = some r → ∃ fuel, iter (msk_laws_eqMailS 0) (msk_laws_eqMailS 100000) s.objs.length (evCode E (pc_laws_eqMailS fu) msk_laws_eqMailS (lp_laws_eqMailS fu) 0 lc_laws_eqMailS_0) fuel s k = some r :=
  handle_ok (ps := ps_laws_eqMailS_0) (os := os_laws_eqMailS_0) (conv := conv_laws_eqMailS_0) (B := Bk_laws_eqMailS_0 fu) (fu := fu) back_laws_eqMailS_0 (fun raw => by kernel_rfl) 0 (fun c w => by kernel_rfl) (round_laws_eqMailS_0 fu)
theorem lpok_laws_eqMailS (fu : Nat) : LpOk E (pc_laws_eqMailS fu) msk_laws_eqMailS (lp_laws_eqMailS fu) (loops 0 body_laws_eqMailS) := loop_all 1 (by kernel_rfl) fun i hi => match i, hi with
  | 0, _ => by
    have h : (loops 0 body_laws_eqMailS).getD 0 (0, .skip) = (0, lc_laws_eqMailS_0) := by kernel_rfl
    rw [h]; exact lpok_laws_eqMailS_0 fu
  | i + 1, hi => absurd hi (by omega)
def S_laws_eqMailS (fu : Nat) (xs : List (D RT den)) : Option (Out RT den) := match xs with | [.rs za0_0 .impl_Mail na0_0 fa0_0, .rs za1_0 .impl_Mail na1_0 fa1_0] => some ⟨Bool, F_laws_eqMailS fu (⟨za0_0, na0_0, fa0_0⟩ : (Sl S_impl_Mail)) (⟨za1_0, na1_0, fa1_0⟩ : (Sl S_impl_Mail)), enc_bo, fun _ => true⟩ | _ => none
theorem hpc_laws_eqMailS (fu : Nat) : ∀ f xs o, pc_laws_eqMailS fu f xs = some o → ∀ y, o.x = some y → Good E Try.prog f xs (o.g y) := by
  intro f xs o h
  unfold pc_laws_eqMailS at h
  split at h
  · exact good_laws_eqMail fu xs o h
  · cases h
theorem goodv_laws_eqMailS (fu : Nat) (a_0 : (Sl S_impl_Mail)) (b_1 : (Sl S_impl_Mail)) (y : Bool) (hy : F_laws_eqMailS fu a_0 b_1 = some y) : Good E Try.prog 35 [(.rs a_0.z .impl_Mail a_0.n a_0.f), (.rs b_1.z .impl_Mail b_1.n b_1.f)] (enc_bo y) :=
  fun_good E_ok (pc_good (hpc_laws_eqMailS fu)) (fn := Try.f35) (c := body_laws_eqMailS) (out := out_bo) (y := y) (by kernel_rfl) (by kernel_rfl) (by kernel_rfl) (lpok_laws_eqMailS fu) (fun d hd => out_bo_enc d _ hd) ((ev_laws_eqMailS fu a_0 b_1).trans hy)
theorem good_laws_eqMailS (fu : Nat) : ∀ xs o, S_laws_eqMailS fu xs = some o → ∀ y, o.x = some y → Good E Try.prog 35 xs (o.g y) := by
  intro xs o h y hy
  unfold S_laws_eqMailS at h
  split at h
  · rename_i za0_0 na0_0 fa0_0 za1_0 na1_0 fa1_0
    cases h
    exact goodv_laws_eqMailS fu (⟨za0_0, na0_0, fa0_0⟩ : (Sl S_impl_Mail)) (⟨za1_0, na1_0, fa1_0⟩ : (Sl S_impl_Mail)) y hy
  · cases h

/-! laws.eqWon -/
def F_laws_eqWon (fu : Nat) (a_0 : S_impl_Won) (b_1 : S_impl_Won) : Option (Bool) :=
  (bif (a_0.Term != b_1.Term) then (some false) else (bif (a_0.Node != b_1.Node) then (some false) else (some true)))
def pc_laws_eqWon (fu : Nat) : Pc RT den := fun f xs => none
def msk_laws_eqWon (b : Nat) : List Nat := []
def lp_laws_eqWon (fu : Nat) : Lp RT den (Bool) := fun b s k => none
theorem ev_laws_eqWon (fu : Nat) (a_0 : S_impl_Won) (b_1 : S_impl_Won) : evFun E (pc_laws_eqWon fu) msk_laws_eqWon (lp_laws_eqWon fu) out_bo 75 [(.agg [(.int .i64 a_0.Term), (.int .i64 a_0.Node)]), (.agg [(.int .i64 b_1.Term), (.int .i64 b_1.Node)])] = F_laws_eqWon fu a_0 b_1 := by kernel_rfl
noncomputable def body_laws_eqWon : Code := Try.f75.body.getD .skip
theorem lpok_laws_eqWon (fu : Nat) : LpOk E (pc_laws_eqWon fu) msk_laws_eqWon (lp_laws_eqWon fu) (loops 0 body_laws_eqWon) := by
  have h : loops 0 body_laws_eqWon = [] := by kernel_rfl
  rw [h]; intro p hp; cases hp
def S_laws_eqWon (fu : Nat) (xs : List (D RT den)) : Option (Out RT den) := match xs with | [.agg [.int .i64 a0_1, .int .i64 a0_2], .agg [.int .i64 a1_1, .int .i64 a1_2]] => some ⟨Bool, F_laws_eqWon fu (⟨a0_1, a0_2⟩ : S_impl_Won) (⟨a1_1, a1_2⟩ : S_impl_Won), enc_bo, fun _ => true⟩ | _ => none
theorem hpc_laws_eqWon (fu : Nat) : ∀ f xs o, pc_laws_eqWon fu f xs = some o → ∀ y, o.x = some y → Good E Try.prog f xs (o.g y) := by
  intro f xs o h
  cases h
theorem goodv_laws_eqWon (fu : Nat) (a_0 : S_impl_Won) (b_1 : S_impl_Won) (y : Bool) (hy : F_laws_eqWon fu a_0 b_1 = some y) : Good E Try.prog 75 [(.agg [(.int .i64 a_0.Term), (.int .i64 a_0.Node)]), (.agg [(.int .i64 b_1.Term), (.int .i64 b_1.Node)])] (enc_bo y) :=
  fun_good E_ok (pc_good (hpc_laws_eqWon fu)) (fn := Try.f75) (c := body_laws_eqWon) (out := out_bo) (y := y) (by kernel_rfl) (by kernel_rfl) (by kernel_rfl) (lpok_laws_eqWon fu) (fun d hd => out_bo_enc d _ hd) ((ev_laws_eqWon fu a_0 b_1).trans hy)
theorem good_laws_eqWon (fu : Nat) : ∀ xs o, S_laws_eqWon fu xs = some o → ∀ y, o.x = some y → Good E Try.prog 75 xs (o.g y) := by
  intro xs o h y hy
  unfold S_laws_eqWon at h
  split at h
  · rename_i a0_1 a0_2 a1_1 a1_2
    cases h
    exact goodv_laws_eqWon fu (⟨a0_1, a0_2⟩ : S_impl_Won) (⟨a1_1, a1_2⟩ : S_impl_Won) y hy
  · cases h

/-! laws.eqWonS -/
def F_laws_eqWonS_B0 {ρ : Type} (fu : Nat) (a0_0 : (Sl S_impl_Won)) (b1_1 : (Sl S_impl_Won)) (k0 : Option ρ) (k1 : Option ρ) (i5_2 : Int) (go : Int → Option ρ) : Option ρ :=
  (bif (decide (i5_2 < ((a0_0.n : Nat) : Int))) then ((bif (decide (0 ≤ i5_2) && decide ((Int.toNat i5_2) < a0_0.n)) then some () else none : Option Unit).bind fun _ => ((bif (decide (0 ≤ i5_2) &&
    decide ((Int.toNat i5_2) < b1_1.n)) then some () else none : Option Unit).bind fun _ => ((F_laws_eqWon fu (a0_0.f (Int.toNat i5_2)) (b1_1.f (Int.toNat i5_2))).bind fun y402 =>
    (bif (!y402) then k0 else (go (IntKind.wrap .i64 (i5_2 + 1))))))) else k1)
def F_laws_eqWonS (fu : Nat) (a_0 : (Sl S_impl_Won)) (b_1 : (Sl S_impl_Won)) : Option (Bool) :=
  (bif (((a_0.n : Nat) : Int) != ((b_1.n : Nat) : Int)) then (some false) else (L (fun w0 go0 => F_laws_eqWonS_B0 fu a_0 b_1 (some false) (some true) w0 go0) fu (0 : Int)))
def pc_laws_eqWonS (fu : Nat) : Pc RT den := fun f xs => match f with | 75 => S_laws_eqWon fu xs | _ => none
def msk_laws_eqWonS (b : Nat) : List Nat := match b with | 0 => [2, 3, 4, 6, 7, 8, 9, 10, 11, 12, 13, 14, 15, 16, 17, 18, 19, 20, 21, 22, 23, 24, 25, 26] | 100000 => [0, 1, 2, 3, 5, 6, 7, 8, 9, 10, 11, 12, 13, 14, 15, 16, 17, 18, 19, 20, 21, 22, 23, 24, 25, 26] | _ => []
def ps_laws_eqWonS_0 : List (Pat RT) := [.flat (.rs .impl_Won), .flat (.rs .impl_Won), .flat .dead, .flat .dead, .flat .dead, .flat (.int .i64), .flat .dead, .flat .dead, .flat .dead, .flat .dead, .flat .dead, .flat .dead, .flat .dead, .flat .dead, .flat .dead, .flat .dead, .flat .dead, .flat .dead, .flat .dead, .flat .dead, .flat .dead, .flat .dead, .flat .dead, .flat .dead, .flat .dead, .flat .dead, .flat .dead]
def os_laws_eqWonS_0 : List (OP RT) := []
def conv_laws_eqWonS_0 (r : Raw den ps_laws_eqWonS_0 os_laws_eqWonS_0) : ((Sl S_impl_Won) × (Sl S_impl_Won)) × (Int) := ((r.1.1, r.1.2.1), r.1.2.2.2.2.2.1)
def back_laws_eqWonS_0 (c : (Sl S_impl_Won) × (Sl S_impl_Won)) (w : Int) : St RT den := ⟨[(.rs c.1.z .impl_Won c.1.n c.1.f), (.rs c.2.z .impl_Won c.2.n c.2.f), .dead, .dead, .dead, (.int .i64 w), .dead, .dead, .dead, .dead, .dead, .dead, .dead, .dead, .dead, .dead, .dead, .dead, .dead, .dead, .dead, .dead, .dead, .dead, .dead, .dead, .dead], []⟩
def Bk_laws_eqWonS_0 {ρ : Type} (fu : Nat) (c : (Sl S_impl_Won) × (Sl S_impl_Won)) (k : Ex → St RT den → Option ρ) (w : Int) (go : (Int) → Option ρ) : Option ρ := F_laws_eqWonS_B0 fu c.1 c.2 (k .ret ⟨[.dead, .dead, .dead, .dead, (.bool false), .dead, .dead, .dead, .dead, .dead, .dead, .dead, .dead, .dead, .dead, .dead, .dead, .dead, .dead, .dead, .dead, .dead, .dead, .dead, .dead, .dead, .dead], []⟩) (k (.exit 0) ⟨[.dead, .dead, .dead, .dead, .dead, .dead, .dead, .dead, .dead, .dead, .dead, .dead, .dead, .dead, .dead, .dead, .dead, .dead, .dead, .dead, .dead, .dead, .dead, .dead, .dead, .dead, .dead], []⟩) w go
def lp_laws_eqWonS (fu : Nat) : Lp RT den (Bool) := fun b s k => match b with | 0 => handle ps_laws_eqWonS_0 os_laws_eqWonS_0 conv_laws_eqWonS_0 (Bk_laws_eqWonS_0 fu) fu s k | _ => none
theorem ev_laws_eqWonS (fu : Nat) (a_0 : (Sl S_impl_Won)) (b_1 : (Sl S_impl_Won)) : evFun E (pc_laws_eqWonS fu) msk_laws_eqWonS (lp_laws_eqWonS fu) out_bo 36 [(.rs a_0.z .impl_Won a_0.n a_0.f), (.rs b_1.z .impl_Won b_1.n b_1.f)] = F_laws_eqWonS fu a_0 b_1 := by kernel_rfl
noncomputable def body_laws_eqWonS : Code := Try.f36.body.getD .skip
noncomputable def lc_laws_eqWonS_0 : Code := ((loops 0 body_laws_eqWonS).getD 0 (0, .skip)).2
theorem round_laws_eqWonS_0 (fu : Nat) (it : St RT den → Option (Bool)) (k : Ex → St RT den → Option (Bool)) c w : evCode E (pc_laws_eqWonS fu) msk_laws_eqWonS (lp_laws_eqWonS fu) 0 lc_laws_eqWonS_0 (back_laws_eqWonS_0 c w) (after (msk_laws_eqWonS 0) (msk_laws_eqWonS 100000) 0 it k) = Bk_laws_eqWonS_0 fu c k w (fun w => it (back_laws_eqWonS_0 c w)) := by kernel_rfl
theorem lpok_laws_eqWonS_0 (fu : Nat) : ∀ s k r, lp_laws_eqWonS fu 0 s k = some r → ∃ fuel, iter (msk_laws_eqWonS 0) (msk_laws_eqWonS 100000) s.objs.length (evCode E (pc_laws_eqWonS fu) msk_laws_eqWonS (lp_laws_eqWonS fu) 0 lc_laws_eqWonS_0) fuel s k = some r :=
  handle_ok (ps := ps_laws_eqWonS_0) (os := os_laws_eqWonS_0) (conv := conv_laws_eqWonS_0) (B := Bk_laws_eqWonS_0 fu) (fu := fu) back_laws_eqWonS_0 (fun raw => by kernel_rfl) 0 (fun c w => by kernel_rfl) (round_laws_eqWonS_0 fu)
theorem lpok_laws_eqWonS (fu : Nat) : LpOk E (pc_laws_eqWonS fu) msk_laws_eqWonS (lp_laws_eqWonS fu) (loops 0 body_laws_eqWonS) := loop_all 1 (by kernel_rfl) fun i hi => match i, hi with
  | 0, _ => by
    have h : (loops 0 body_laws_eqWonS).getD 0 (0, .skip) = (0, lc_laws_eqWonS_0) := by kernel_rfl
    rw [h]; exact lpok_laws_eqWonS_0 fu
  | i + 1, hi => absurd hi (by omega)
def S_laws_eqWonS (fu : Nat) (xs : List (D RT den)) : Option (Out RT den) := match xs with | [.rs za0_0 .impl_Won na0_0 fa0_0, .rs za1_0 .impl_Won na1_0 fa1_0] => some ⟨Bool, F_laws_eqWonS fu (⟨za0_0, na0_0, fa0_0⟩ : (Sl S_impl_Won)) (⟨za1_0, na1_0, fa1_0⟩ : (Sl S_impl_Won)), enc_bo, fun _ => true⟩ | _ => none
theorem hpc_laws_eqWonS (fu : Nat) : ∀ f xs o, pc_laws_eqWonS fu f xs = some o → ∀ y, o.x = some y → Good E Try.prog f xs (o.g y) := by
  intro f xs o h
  unfold pc_laws_eqWonS at h
  split at h
  · exact good_laws_eqWon fu xs o h
  · cases h
theorem goodv_laws_eqWonS (fu : Nat) (a_0 : (Sl S_impl_Won)) (b_1 : (Sl S_impl_Won)) (y : Bool) (hy : F_laws_eqWonS fu a_0 b_1 = some y) : Good E Try.prog 36 [(.rs a_0.z .impl_Won a_0.n a_0.f), (.rs b_1.z .impl_Won b_1.n b_1.f)] (enc_bo y) :=
  fun_good E_ok (pc_good (hpc_laws_eqWonS fu)) (fn := Try.f36) (c := body_laws_eqWonS) (out := out_bo) (y := y) (by kernel_rfl) (by kernel_rfl) (by kernel_rfl) (lpok_laws_eqWonS fu) (fun d hd => out_bo_enc d _ hd) ((ev_laws_eqWonS fu a_0 b_1).trans hy)
theorem good_laws_eqWonS (fu : Nat) : ∀ xs o, S_laws_eqWonS fu xs = some o → ∀ y, o.x = some y → Good E Try.prog 36 xs (o.g y) := by
  intro xs o h y hy
  unfold S_laws_eqWonS at h
  split at h
  · rename_i za0_0 na0_0 fa0_0 za1_0 na1_0 fa1_0
    cases h
    exact goodv_laws_eqWonS fu (⟨za0_0, na0_0, fa0_0⟩ : (Sl S_impl_Won)) (⟨za1_0, na1_0, fa1_0⟩ : (Sl S_impl_Won)) y hy
  · cases h

/-! laws.eqSeal -/
def F_laws_eqSeal (fu : Nat) (a_0 : S_impl_Seal) (b_1 : S_impl_Seal) : Option (Bool) :=
  (bif (a_0.Term != b_1.Term) then (some false) else ((F_laws_eqEntry fu a_0.Entry b_1.Entry).bind fun y404 => (bif (!y404) then (some false) else (some true))))
def pc_laws_eqSeal (fu : Nat) : Pc RT den := fun f xs => match f with | 79 => S_laws_eqEntry fu xs | _ => none
def msk_laws_eqSeal (b : Nat) : List Nat := []
def lp_laws_eqSeal (fu : Nat) : Lp RT den (Bool) := fun b s k => none
theorem ev_laws_eqSeal (fu : Nat) (a_0 : S_impl_Seal) (b_1 : S_impl_Seal) : evFun E (pc_laws_eqSeal fu) msk_laws_eqSeal (lp_laws_eqSeal fu) out_bo 76 [(.agg [(.int .i64 a_0.Term), (.int .i64 a_0.Entry.Term), (.int .i64 a_0.Entry.Client), (.int .i64 a_0.Entry.Seq), (.int .i64 a_0.Entry.Cmd.Kind), (.int .i64 a_0.Entry.Cmd.Expect), (.int .i64 a_0.Entry.Cmd.Name), (.int .i64 a_0.Entry.Cmd.Addr), (.int .i64 a_0.Entry.Cmd.Number), (.int .i64 a_0.Entry.Cmd.Proto)]), (.agg [(.int .i64 b_1.Term), (.int .i64 b_1.Entry.Term), (.int .i64 b_1.Entry.Client), (.int .i64 b_1.Entry.Seq), (.int .i64 b_1.Entry.Cmd.Kind), (.int .i64 b_1.Entry.Cmd.Expect), (.int .i64 b_1.Entry.Cmd.Name), (.int .i64 b_1.Entry.Cmd.Addr), (.int .i64 b_1.Entry.Cmd.Number), (.int .i64 b_1.Entry.Cmd.Proto)])] = F_laws_eqSeal fu a_0 b_1 := by kernel_rfl
noncomputable def body_laws_eqSeal : Code := Try.f76.body.getD .skip
theorem lpok_laws_eqSeal (fu : Nat) : LpOk E (pc_laws_eqSeal fu) msk_laws_eqSeal (lp_laws_eqSeal fu) (loops 0 body_laws_eqSeal) := by
  have h : loops 0 body_laws_eqSeal = [] := by kernel_rfl
  rw [h]; intro p hp; cases hp
def S_laws_eqSeal (fu : Nat) (xs : List (D RT den)) : Option (Out RT den) := match xs with | [.agg [.int .i64 a0_1, .int .i64 a0_3, .int .i64 a0_4, .int .i64 a0_5, .int .i64 a0_7, .int .i64 a0_8, .int .i64 a0_9, .int .i64 a0_10, .int .i64 a0_11, .int .i64 a0_12], .agg [.int .i64 a1_1, .int .i64 a1_3, .int .i64 a1_4, .int .i64 a1_5, .int .i64 a1_7, .int .i64 a1_8, .int .i64 a1_9, .int .i64 a1_10, .int .i64 a1_11, .int .i64 a1_12]] => some ⟨Bool, F_laws_eqSeal fu (⟨a0_1, (⟨a0_3, a0_4, a0_5, (⟨a0_7, a0_8, a0_9, a0_10, a0_11, a0_12⟩ : S_impl_Cmd)⟩ : S_impl_Entry)⟩ : S_impl_Seal) (⟨a1_1, (⟨a1_3, a1_4, a1_5, (⟨a1_7, a1_8, a1_9, a1_10, a1_11, a1_12⟩ : S_impl_Cmd)⟩ : S_impl_Entry)⟩ : S_impl_Seal), enc_bo, fun _ => true⟩ | _ => none
theorem hpc_laws_eqSeal (fu : Nat) : ∀ f xs o, pc_laws_eqSeal fu f xs = some o → ∀ y, o.x = some y → Good E Try.prog f xs (o.g y) := by
  intro f xs o h
  unfold pc_laws_eqSeal at h
  split at h
  · exact good_laws_eqEntry fu xs o h
  · cases h
theorem goodv_laws_eqSeal (fu : Nat) (a_0 : S_impl_Seal) (b_1 : S_impl_Seal) (y : Bool) (hy : F_laws_eqSeal fu a_0 b_1 = some y) : Good E Try.prog 76 [(.agg [(.int .i64 a_0.Term), (.int .i64 a_0.Entry.Term), (.int .i64 a_0.Entry.Client), (.int .i64 a_0.Entry.Seq), (.int .i64 a_0.Entry.Cmd.Kind), (.int .i64 a_0.Entry.Cmd.Expect), (.int .i64 a_0.Entry.Cmd.Name), (.int .i64 a_0.Entry.Cmd.Addr), (.int .i64 a_0.Entry.Cmd.Number), (.int .i64 a_0.Entry.Cmd.Proto)]), (.agg [(.int .i64 b_1.Term), (.int .i64 b_1.Entry.Term), (.int .i64 b_1.Entry.Client), (.int .i64 b_1.Entry.Seq), (.int .i64 b_1.Entry.Cmd.Kind), (.int .i64 b_1.Entry.Cmd.Expect), (.int .i64 b_1.Entry.Cmd.Name), (.int .i64 b_1.Entry.Cmd.Addr), (.int .i64 b_1.Entry.Cmd.Number), (.int .i64 b_1.Entry.Cmd.Proto)])] (enc_bo y) :=
  fun_good E_ok (pc_good (hpc_laws_eqSeal fu)) (fn := Try.f76) (c := body_laws_eqSeal) (out := out_bo) (y := y) (by kernel_rfl) (by kernel_rfl) (by kernel_rfl) (lpok_laws_eqSeal fu) (fun d hd => out_bo_enc d _ hd) ((ev_laws_eqSeal fu a_0 b_1).trans hy)
theorem good_laws_eqSeal (fu : Nat) : ∀ xs o, S_laws_eqSeal fu xs = some o → ∀ y, o.x = some y → Good E Try.prog 76 xs (o.g y) := by
  intro xs o h y hy
  unfold S_laws_eqSeal at h
  split at h
  · rename_i a0_1 a0_3 a0_4 a0_5 a0_7 a0_8 a0_9 a0_10 a0_11 a0_12 a1_1 a1_3 a1_4 a1_5 a1_7 a1_8 a1_9 a1_10 a1_11 a1_12
    cases h
    exact goodv_laws_eqSeal fu (⟨a0_1, (⟨a0_3, a0_4, a0_5, (⟨a0_7, a0_8, a0_9, a0_10, a0_11, a0_12⟩ : S_impl_Cmd)⟩ : S_impl_Entry)⟩ : S_impl_Seal) (⟨a1_1, (⟨a1_3, a1_4, a1_5, (⟨a1_7, a1_8, a1_9, a1_10, a1_11, a1_12⟩ : S_impl_Cmd)⟩ : S_impl_Entry)⟩ : S_impl_Seal) y hy
  · cases h

/-! laws.eqSealS -/
def F_laws_eqSealS_B0 {ρ : Type} (fu : Nat) (a0_0 : (Sl S_impl_Seal)) (b1_1 : (Sl S_impl_Seal)) (k0 : Option ρ) (k1 : Option ρ) (i5_2 : Int) (go : Int → Option ρ) : Option ρ :=
  (bif (decide (i5_2 < ((a0_0.n : Nat) : Int))) then ((bif (decide (0 ≤ i5_2) && decide ((Int.toNat i5_2) < a0_0.n)) then some () else none : Option Unit).bind fun _ => ((bif (decide (0 ≤ i5_2) &&
    decide ((Int.toNat i5_2) < b1_1.n)) then some () else none : Option Unit).bind fun _ => ((F_laws_eqSeal fu (a0_0.f (Int.toNat i5_2)) (b1_1.f (Int.toNat i5_2))).bind fun y403 =>
    (bif (!y403) then k0 else (go (IntKind.wrap .i64 (i5_2 + 1))))))) else k1)
def F_laws_eqSealS (fu : Nat) (a_0 : (Sl S_impl_Seal)) (b_1 : (Sl S_impl_Seal)) : Option (Bool) :=
  (bif (((a_0.n : Nat) : Int) != ((b_1.n : Nat) : Int)) then (some false) else (L (fun w0 go0 => F_laws_eqSealS_B0 fu a_0 b_1 (some false) (some true) w0 go0) fu (0 : Int)))
def pc_laws_eqSealS (fu : Nat) : Pc RT den := fun f xs => match f with | 76 => S_laws_eqSeal fu xs | _ => none
def msk_laws_eqSealS (b : Nat) : List Nat := match b with | 0 => [2, 3, 4, 6, 7, 8, 9, 10, 11, 12, 13, 14, 15, 16, 17, 18, 19, 20, 21, 22, 23, 24, 25, 26] | 100000 => [0, 1, 2, 3, 5, 6, 7, 8, 9, 10, 11, 12, 13, 14, 15, 16, 17, 18, 19, 20, 21, 22, 23, 24, 25, 26] | _ => []
def ps_laws_eqSealS_0 : List (Pat RT) := [.flat (.rs .impl_Seal), .flat (.rs .impl_Seal), .flat .dead, .flat .dead, .flat .dead, .flat (.int .i64), .flat .dead, .flat .dead, .flat .dead, .flat .dead, .flat .dead, .flat .dead, .flat .dead, .flat .dead, .flat .dead, .flat .dead, .flat .dead, .flat .dead, .flat .dead, .flat .dead, .flat .dead, .flat .dead, .flat .dead, .flat .dead, .flat .dead, .flat .dead, .flat .dead]
def os_laws_eqSealS_0 : List (OP RT) := []
def conv_laws_eqSealS_0 (r : Raw den ps_laws_eqSealS_0 os_laws_eqSealS_0) : ((Sl S_impl_Seal) × (Sl S_impl_Seal)) × (Int) := ((r.1.1, r.1.2.1), r.1.2.2.2.2.2.1)
def back_laws_eqSealS_0 (c : (Sl S_impl_Seal) × (Sl S_impl_Seal)) (w : Int) : St RT den := ⟨[(.rs c.1.z .impl_Seal c.1.n c.1.f), (.rs c.2.z .impl_Seal c.2.n c.2.f), .dead, .dead, .dead, (.int .i64 w), .dead, .dead, .dead, .dead, .dead, .dead, .dead, .dead, .dead, .dead, .dead, .dead, .dead, .dead, .dead, .dead, .dead, .dead, .dead, .dead, .dead], []⟩
def Bk_laws_eqSealS_0 {ρ : Type} (fu : Nat) (c : (Sl S_impl_Seal) × (Sl S_impl_Seal)) (k : Ex → St RT den → Option ρ) (w : Int) (go : (Int) → Option ρ) : Option ρ := F_laws_eqSealS_B0 fu c.1 c.2 (k .ret ⟨[.dead, .dead, .dead, .dead, (.bool false), .dead, .dead, .dead, .dead, .dead, .dead, .dead, .dead, .dead, .dead, .dead, .dead, .dead, .dead, .dead, .dead, .dead, .dead, .dead, .dead, .dead, .dead], []⟩) (k (.exit 0) ⟨[.dead, .dead, .dead, .dead, .dead, .dead, .dead, .dead, .dead, .dead, .dead, .dead, .dead, .dead, .dead, .dead, .dead, .dead, .dead, .dead, .dead, .dead, .dead, .dead, .dead, .dead, .dead], []⟩) w go
def lp_laws_eqSealS (fu : Nat) : Lp RT den (Bool) := fun b s k => match b with | 0 => handle ps_laws_eqSealS_0 os_laws_eqSealS_0 conv_laws_eqSealS_0 (Bk_laws_eqSealS_0 fu) fu s k | _ => none
theorem ev_laws_eqSealS (fu : Nat) (a_0 : (Sl S_impl_Seal)) (b_1 : (Sl S_impl_Seal)) : evFun E (pc_laws_eqSealS fu) msk_laws_eqSealS (lp_laws_eqSealS fu) out_bo 37 [(.rs a_0.z .impl_Seal a_0.n a_0.f), (.rs b_1.z .impl_Seal b_1.n b_1.f)] = F_laws_eqSealS fu a_0 b_1 := by kernel_rfl
noncomputable def body_laws_eqSealS : Code := Try.f37.body.getD .skip
noncomputable def lc_laws_eqSealS_0 : Code := ((loops 0 body_laws_eqSealS).getD 0 (0, .skip)).2
theorem round_laws_eqSealS_0 (fu : Nat) (it : St RT den → Option (Bool)) (k : Ex → St RT den → Option (Bool)) c w : evCode E (pc_laws_eqSealS fu) msk_laws_eqSealS (lp_laws_eqSealS fu) 0 lc_laws_eqSealS_0 (back_laws_eqSealS_0 c w) (after (msk_laws_eqSealS 0) (msk_laws_eqSealS 100000) 0 it k) = Bk_laws_eqSealS_0 fu c k w (fun w => it (back_laws_eqSealS_0 c w)) := by kernel_rfl
theorem lpok_laws_eqSealS_0 (fu : Nat) : ∀ s k r, lp_laws_eqSealS fu 0 s k = some r → ∃ fuel, iter (msk_laws_eqSealS 0) (msk_laws_eqSealS 100000) s.objs.length (evCode E (pc_laws_eqSealS fu) msk_laws_eqSealS (lp_laws_eqSealS fu) 0 lc_laws_eqSealS_0) fuel s k = some r :=
  handle_ok (ps := ps_laws_eqSealS_0) (os := os_laws_eqSealS_0) (conv := conv_laws_eqSealS_0) (B := Bk_laws_eqSealS_0 fu) (fu := fu) back_laws_eqSealS_0 (fun raw => by kernel_rfl) 0 (fun c w => by kernel_rfl) (round_laws_eqSealS_0 fu)
theorem lpok_laws_eqSealS (fu : Nat) : LpOk E (pc_laws_eqSealS fu) msk_laws_eqSealS (lp_laws_eqSealS fu) (loops 0 body_laws_eqSealS) := loop_all 1 (by kernel_rfl) fun i hi => match i, hi with
  | 0, _ => by
    have h : (loops 0 body_laws_eqSealS).getD 0 (0, .skip) = (0, lc_laws_eqSealS_0) := by kernel_rfl
    rw [h]; exact lpok_laws_eqSealS_0 fu
  | i + 1, hi => absurd hi (by omega)
def S_laws_eqSealS (fu : Nat) (xs : List (D RT den)) : Option (Out RT den) := match xs with | [.rs za0_0 .impl_Seal na0_0 fa0_0, .rs za1_0 .impl_Seal na1_0 fa1_0] => some ⟨Bool, F_laws_eqSealS fu (⟨za0_0, na0_0, fa0_0⟩ : (Sl S_impl_Seal)) (⟨za1_0, na1_0, fa1_0⟩ : (Sl S_impl_Seal)), enc_bo, fun _ => true⟩ | _ => none
theorem hpc_laws_eqSealS (fu : Nat) : ∀ f xs o, pc_laws_eqSealS fu f xs = some o → ∀ y, o.x = some y → Good E Try.prog f xs (o.g y) := by
  intro f xs o h
  unfold pc_laws_eqSealS at h
  split at h
  · exact good_laws_eqSeal fu xs o h
  · cases h
theorem goodv_laws_eqSealS (fu : Nat) (a_0 : (Sl S_impl_Seal)) (b_1 : (Sl S_impl_Seal)) (y : Bool) (hy : F_laws_eqSealS fu a_0 b_1 = some y) : Good E Try.prog 37 [(.rs a_0.z .impl_Seal a_0.n a_0.f), (.rs b_1.z .impl_Seal b_1.n b_1.f)] (enc_bo y) :=
  fun_good E_ok (pc_good (hpc_laws_eqSealS fu)) (fn := Try.f37) (c := body_laws_eqSealS) (out := out_bo) (y := y) (by kernel_rfl) (by kernel_rfl) (by kernel_rfl) (lpok_laws_eqSealS fu) (fun d hd => out_bo_enc d _ hd) ((ev_laws_eqSealS fu a_0 b_1).trans hy)
theorem good_laws_eqSealS (fu : Nat) : ∀ xs o, S_laws_eqSealS fu xs = some o → ∀ y, o.x = some y → Good E Try.prog 37 xs (o.g y) := by
  intro xs o h y hy
  unfold S_laws_eqSealS at h
  split at h
  · rename_i za0_0 na0_0 fa0_0 za1_0 na1_0 fa1_0
    cases h
    exact goodv_laws_eqSealS fu (⟨za0_0, na0_0, fa0_0⟩ : (Sl S_impl_Seal)) (⟨za1_0, na1_0, fa1_0⟩ : (Sl S_impl_Seal)) y hy
  · cases h

/-! laws.eqCluster -/
def F_laws_eqCluster (fu : Nat) (a_0 : S_impl_Cluster) (b_1 : S_impl_Cluster) : Option (Bool) :=
  ((F_laws_eqNodeS fu a_0.Nodes b_1.Nodes).bind fun y389 => (bif (!y389) then (some false) else ((F_laws_eqMailS fu a_0.Mails b_1.Mails).bind fun y390 => (bif (!y390) then (some false) else
    ((F_laws_eqWonS fu a_0.Wins b_1.Wins).bind fun y391 => (bif (!y391) then (some false) else ((F_laws_eqSealS fu a_0.Seals b_1.Seals).bind fun y392 => (bif (!y392) then (some false) else
    (some true)))))))))
def pc_laws_eqCluster (fu : Nat) : Pc RT den := fun f xs => match f with | 34 => S_laws_eqNodeS fu xs | 35 => S_laws_eqMailS fu xs | 36 => S_laws_eqWonS fu xs | 37 => S_laws_eqSealS fu xs | _ => none
def msk_laws_eqCluster (b : Nat) : List Nat := []
def lp_laws_eqCluster (fu : Nat) : Lp RT den (Bool) := fun b s k => none
theorem ev_laws_eqCluster (fu : Nat) (a_0 : S_impl_Cluster) (b_1 : S_impl_Cluster) : evFun E (pc_laws_eqCluster fu) msk_laws_eqCluster (lp_laws_eqCluster fu) out_bo 11 [(.agg [(.rs a_0.Nodes.z .impl_Node a_0.Nodes.n a_0.Nodes.f), (.rs a_0.Mails.z .impl_Mail a_0.Mails.n a_0.Mails.f), (.rs a_0.Wins.z .impl_Won a_0.Wins.n a_0.Wins.f), (.rs a_0.Seals.z .impl_Seal a_0.Seals.n a_0.Seals.f)]), (.agg [(.rs b_1.Nodes.z .impl_Node b_1.Nodes.n b_1.Nodes.f), (.rs b_1.Mails.z .impl_Mail b_1.Mails.n b_1.Mails.f), (.rs b_1.Wins.z .impl_Won b_1.Wins.n b_1.Wins.f), (.rs b_1.Seals.z .impl_Seal b_1.Seals.n b_1.Seals.f)])] = F_laws_eqCluster fu a_0 b_1 := by kernel_rfl
noncomputable def body_laws_eqCluster : Code := Try.f11.body.getD .skip
theorem lpok_laws_eqCluster (fu : Nat) : LpOk E (pc_laws_eqCluster fu) msk_laws_eqCluster (lp_laws_eqCluster fu) (loops 0 body_laws_eqCluster) := by
  have h : loops 0 body_laws_eqCluster = [] := by kernel_rfl
  rw [h]; intro p hp; cases hp
def S_laws_eqCluster (fu : Nat) (xs : List (D RT den)) : Option (Out RT den) := match xs with | [.agg [.rs za0_1 .impl_Node na0_1 fa0_1, .rs za0_2 .impl_Mail na0_2 fa0_2, .rs za0_3 .impl_Won na0_3 fa0_3, .rs za0_4 .impl_Seal na0_4 fa0_4], .agg [.rs za1_1 .impl_Node na1_1 fa1_1, .rs za1_2 .impl_Mail na1_2 fa1_2, .rs za1_3 .impl_Won na1_3 fa1_3, .rs za1_4 .impl_Seal na1_4 fa1_4]] => some ⟨Bool, F_laws_eqCluster fu (⟨(⟨za0_1, na0_1, fa0_1⟩ : (Sl S_impl_Node)), (⟨za0_2, na0_2, fa0_2⟩ : (Sl S_impl_Mail)), (⟨za0_3, na0_3, fa0_3⟩ : (Sl S_impl_Won)), (⟨za0_4, na0_4, fa0_4⟩ : (Sl S_impl_Seal))⟩ : S_impl_Cluster) (⟨(⟨za1_1, na1_1, fa1_1⟩ : (Sl S_impl_Node)), (⟨za1_2, na1_2, fa1_2⟩ : (Sl S_impl_Mail)), (⟨za1_3, na1_3, fa1_3⟩ : (Sl S_impl_Won)), (⟨za1_4, na1_4, fa1_4⟩ : (Sl S_impl_Seal))⟩ : S_impl_Cluster), enc_bo, fun _ => true⟩ | _ => none
theorem hpc_laws_eqCluster (fu : Nat) : ∀ f xs o, pc_laws_eqCluster fu f xs = some o → ∀ y, o.x = some y → Good E Try.prog f xs (o.g y) := by
  intro f xs o h
  unfold pc_laws_eqCluster at h
  split at h
  · exact good_laws_eqNodeS fu xs o h
  · exact good_laws_eqMailS fu xs o h
  · exact good_laws_eqWonS fu xs o h
  · exact good_laws_eqSealS fu xs o h
  · cases h
theorem goodv_laws_eqCluster (fu : Nat) (a_0 : S_impl_Cluster) (b_1 : S_impl_Cluster) (y : Bool) (hy : F_laws_eqCluster fu a_0 b_1 = some y) : Good E Try.prog 11 [(.agg [(.rs a_0.Nodes.z .impl_Node a_0.Nodes.n a_0.Nodes.f), (.rs a_0.Mails.z .impl_Mail a_0.Mails.n a_0.Mails.f), (.rs a_0.Wins.z .impl_Won a_0.Wins.n a_0.Wins.f), (.rs a_0.Seals.z .impl_Seal a_0.Seals.n a_0.Seals.f)]), (.agg [(.rs b_1.Nodes.z .impl_Node b_1.Nodes.n b_1.Nodes.f), (.rs b_1.Mails.z .impl_Mail b_1.Mails.n b_1.Mails.f), (.rs b_1.Wins.z .impl_Won b_1.Wins.n b_1.Wins.f), (.rs b_1.Seals.z .impl_Seal b_1.Seals.n b_1.Seals.f)])] (enc_bo y) :=
  fun_good E_ok (pc_good (hpc_laws_eqCluster fu)) (fn := Try.f11) (c := body_laws_eqCluster) (out := out_bo) (y := y) (by kernel_rfl) (by kernel_rfl) (by kernel_rfl) (lpok_laws_eqCluster fu) (fun d hd => out_bo_enc d _ hd) ((ev_laws_eqCluster fu a_0 b_1).trans hy)
theorem good_laws_eqCluster (fu : Nat) : ∀ xs o, S_laws_eqCluster fu xs = some o → ∀ y, o.x = some y → Good E Try.prog 11 xs (o.g y) := by
  intro xs o h y hy
  unfold S_laws_eqCluster at h
  split at h
  · rename_i za0_1 na0_1 fa0_1 za0_2 na0_2 fa0_2 za0_3 na0_3 fa0_3 za0_4 na0_4 fa0_4 za1_1 na1_1 fa1_1 za1_2 na1_2 fa1_2 za1_3 na1_3 fa1_3 za1_4 na1_4 fa1_4
    cases h
    exact goodv_laws_eqCluster fu (⟨(⟨za0_1, na0_1, fa0_1⟩ : (Sl S_impl_Node)), (⟨za0_2, na0_2, fa0_2⟩ : (Sl S_impl_Mail)), (⟨za0_3, na0_3, fa0_3⟩ : (Sl S_impl_Won)), (⟨za0_4, na0_4, fa0_4⟩ : (Sl S_impl_Seal))⟩ : S_impl_Cluster) (⟨(⟨za1_1, na1_1, fa1_1⟩ : (Sl S_impl_Node)), (⟨za1_2, na1_2, fa1_2⟩ : (Sl S_impl_Mail)), (⟨za1_3, na1_3, fa1_3⟩ : (Sl S_impl_Won)), (⟨za1_4, na1_4, fa1_4⟩ : (Sl S_impl_Seal))⟩ : S_impl_Cluster) y hy
  · cases h

/-! laws.FnExactLogsMatch -/
def F_laws_FnExactLogsMatch (fu : Nat) (aC_0 : S_laws_Cluster) : Option (Bool) :=
  ((F_laws_szCluster fu aC_0 1048576).bind fun y1 => (bif (decide (y1 < 0)) then (some true) else ((F_laws_toCluster fu aC_0).bind fun y2 => ((F_spec_LogsMatch fu y2).bind fun y3 =>
    ((F_laws_toCluster fu aC_0).bind fun y4 => ((F_impl_LogsMatch fu y4).bind fun y5 => (bif (!(y5 == y3)) then (some false) else ((F_laws_toCluster fu aC_0).bind fun y6 =>
    ((F_laws_eqCluster fu y4 y6).bind fun y7 => (bif (!y7) then (some false) else (some true)))))))))))
def pc_laws_FnExactLogsMatch (fu : Nat) : Pc RT den := fun f xs => match f with | 7 => S_laws_szCluster fu xs | 8 => S_spec_LogsMatch fu xs | 9 => S_laws_toCluster fu xs | 10 => S_impl_LogsMatch fu xs | 11 => S_laws_eqCluster fu xs | _ => none
def msk_laws_FnExactLogsMatch (b : Nat) : List Nat := []
def lp_laws_FnExactLogsMatch (fu : Nat) : Lp RT den (Bool) := fun b s k => none
theorem ev_laws_FnExactLogsMatch (fu : Nat) (aC_0 : S_laws_Cluster) : evFun E (pc_laws_FnExactLogsMatch fu) msk_laws_FnExactLogsMatch (lp_laws_FnExactLogsMatch fu) out_bo 3 [(.agg [(.rs aC_0.Nodes.z .laws_Node aC_0.Nodes.n aC_0.Nodes.f), (.rs aC_0.Mails.z .laws_Mail aC_0.Mails.n aC_0.Mails.f), (.rs aC_0.Wins.z .impl_Won aC_0.Wins.n aC_0.Wins.f), (.rs aC_0.Seals.z .laws_Seal aC_0.Seals.n aC_0.Seals.f)])] = F_laws_FnExactLogsMatch fu aC_0 := by kernel_rfl
noncomputable def body_laws_FnExactLogsMatch : Code := Try.f3.body.getD .skip
theorem lpok_laws_FnExactLogsMatch (fu : Nat) : LpOk E (pc_laws_FnExactLogsMatch fu) msk_laws_FnExactLogsMatch (lp_laws_FnExactLogsMatch fu) (loops 0 body_laws_FnExactLogsMatch) := by
  have h : loops 0 body_laws_FnExactLogsMatch = [] := by kernel_rfl
  rw [h]; intro p hp; cases hp
def S_laws_FnExactLogsMatch (fu : Nat) (xs : List (D RT den)) : Option (Out RT den) := match xs with | [.agg [.rs za0_1 .laws_Node na0_1 fa0_1, .rs za0_2 .laws_Mail na0_2 fa0_2, .rs za0_3 .impl_Won na0_3 fa0_3, .rs za0_4 .laws_Seal na0_4 fa0_4]] => some ⟨Bool, F_laws_FnExactLogsMatch fu (⟨(⟨za0_1, na0_1, fa0_1⟩ : (Sl S_laws_Node)), (⟨za0_2, na0_2, fa0_2⟩ : (Sl S_laws_Mail)), (⟨za0_3, na0_3, fa0_3⟩ : (Sl S_impl_Won)), (⟨za0_4, na0_4, fa0_4⟩ : (Sl S_laws_Seal))⟩ : S_laws_Cluster), enc_bo, fun _ => true⟩ | _ => none
theorem hpc_laws_FnExactLogsMatch (fu : Nat) : ∀ f xs o, pc_laws_FnExactLogsMatch fu f xs = some o → ∀ y, o.x = some y → Good E Try.prog f xs (o.g y) := by
  intro f xs o h
  unfold pc_laws_FnExactLogsMatch at h
  split at h
  · exact good_laws_szCluster fu xs o h
  · exact good_spec_LogsMatch fu xs o h
  · exact good_laws_toCluster fu xs o h
  · exact good_impl_LogsMatch fu xs o h
  · exact good_laws_eqCluster fu xs o h
  · cases h
theorem goodv_laws_FnExactLogsMatch (fu : Nat) (aC_0 : S_laws_Cluster) (y : Bool) (hy : F_laws_FnExactLogsMatch fu aC_0 = some y) : Good E Try.prog 3 [(.agg [(.rs aC_0.Nodes.z .laws_Node aC_0.Nodes.n aC_0.Nodes.f), (.rs aC_0.Mails.z .laws_Mail aC_0.Mails.n aC_0.Mails.f), (.rs aC_0.Wins.z .impl_Won aC_0.Wins.n aC_0.Wins.f), (.rs aC_0.Seals.z .laws_Seal aC_0.Seals.n aC_0.Seals.f)])] (enc_bo y) :=
  fun_good E_ok (pc_good (hpc_laws_FnExactLogsMatch fu)) (fn := Try.f3) (c := body_laws_FnExactLogsMatch) (out := out_bo) (y := y) (by kernel_rfl) (by kernel_rfl) (by kernel_rfl) (lpok_laws_FnExactLogsMatch fu) (fun d hd => out_bo_enc d _ hd) ((ev_laws_FnExactLogsMatch fu aC_0).trans hy)
theorem good_laws_FnExactLogsMatch (fu : Nat) : ∀ xs o, S_laws_FnExactLogsMatch fu xs = some o → ∀ y, o.x = some y → Good E Try.prog 3 xs (o.g y) := by
  intro xs o h y hy
  unfold S_laws_FnExactLogsMatch at h
  split at h
  · rename_i za0_1 na0_1 fa0_1 za0_2 na0_2 fa0_2 za0_3 na0_3 fa0_3 za0_4 na0_4 fa0_4
    cases h
    exact goodv_laws_FnExactLogsMatch fu (⟨(⟨za0_1, na0_1, fa0_1⟩ : (Sl S_laws_Node)), (⟨za0_2, na0_2, fa0_2⟩ : (Sl S_laws_Mail)), (⟨za0_3, na0_3, fa0_3⟩ : (Sl S_impl_Won)), (⟨za0_4, na0_4, fa0_4⟩ : (Sl S_laws_Seal))⟩ : S_laws_Cluster) y hy
  · cases h

/-! spec.l10Kept -/
def F_spec_l10Kept_B2 {ρ : Type} (fu : Nat) (c0_0 : (Sl S_impl_Node)) (c0_1 : (Sl S_impl_Mail)) (c0_2 : (Sl S_impl_Won)) (c0_3 : (Sl S_impl_Seal)) (i3_4 : Int) (n4_5 : Int) (n4_6 : Int) (n4_7 : Int) (n4_8 : Int) (n4_9 : (Sl S_impl_Entry)) (n4_10 : Int) (n4_11 : Int) (n4_12 : (Sl Int)) (n4_13 : (Sl Int)) (n4_14 : (Sl Int)) (k0 : Option ρ) (k1 : Option ρ) (k5_15 : Int) (go : Int → Option ρ) : Option ρ :=
  (bif (decide (k5_15 < n4_11)) then ((bif (decide (0 ≤ k5_15) && decide ((Int.toNat k5_15) < n4_9.n)) then some () else none : Option Unit).bind fun _ => ((bif (decide (0 ≤ k5_15) &&
    decide ((Int.toNat k5_15) < c0_3.n)) then some () else none : Option Unit).bind fun _ => (bif (!(((n4_9.f (Int.toNat k5_15)).Term == (c0_3.f (Int.toNat k5_15)).Entry.Term) &&
    (((n4_9.f (Int.toNat k5_15)).Client == (c0_3.f (Int.toNat k5_15)).Entry.Client) && (((n4_9.f (Int.toNat k5_15)).Seq == (c0_3.f (Int.toNat k5_15)).Entry.Seq) && (((n4_9.f (Int.toNat k5_15)).Cmd.Kind == (c0_3.f (Int.toNat k5_15)).Entry.Cmd.Kind) &&
    (((n4_9.f (Int.toNat k5_15)).Cmd.Expect == (c0_3.f (Int.toNat k5_15)).Entry.Cmd.Expect) && (((n4_9.f (Int.toNat k5_15)).Cmd.Name == (c0_3.f (Int.toNat k5_15)).Entry.Cmd.Name) &&
    (((n4_9.f (Int.toNat k5_15)).Cmd.Addr == (c0_3.f (Int.toNat k5_15)).Entry.Cmd.Addr) && (((n4_9.f (Int.toNat k5_15)).Cmd.Number == (c0_3.f (Int.toNat k5_15)).Entry.Cmd.Number) &&
    (((n4_9.f (Int.toNat k5_15)).Cmd.Proto == (c0_3.f (Int.toNat k5_15)).Entry.Cmd.Proto) && true)))))))))) then k0 else (go (IntKind.wrap .i64 (k5_15 + 1)))))) else k1)
def F_spec_l10Kept_B0 {ρ : Type} (fu : Nat) (c0_0 : (Sl S_impl_Node)) (c0_1 : (Sl S_impl_Mail)) (c0_2 : (Sl S_impl_Won)) (c0_3 : (Sl S_impl_Seal)) (k0 : Option ρ) (k1 : Option ρ) (i3_4 : Int) (go : Int → Option ρ) : Option ρ :=
  (bif (decide (i3_4 < ((c0_0.n : Nat) : Int))) then ((bif (decide (0 ≤ i3_4) && decide ((Int.toNat i3_4) < c0_0.n)) then some () else none : Option Unit).bind fun _ => (bif (decide ((c0_0.f (Int.toNat i3_4)).Commit > ((c0_3.n : Nat) : Int))) then
    k0 else (L (fun w2 go2 => F_spec_l10Kept_B2 fu c0_0 c0_1 c0_2 c0_3 i3_4 ((c0_0.f (Int.toNat i3_4)).Id) ((c0_0.f (Int.toNat i3_4)).Peers) ((c0_0.f (Int.toNat i3_4)).Term) ((c0_0.f (Int.toNat i3_4)).Voted) ((c0_0.f (Int.toNat i3_4)).Log) ((c0_0.f (Int.toNat i3_4)).Role) ((c0_0.f (Int.toNat i3_4)).Commit) ((c0_0.f (Int.toNat i3_4)).Votes) ((c0_0.f (Int.toNat i3_4)).Next) ((c0_0.f (Int.toNat i3_4)).Match) (k0) ((go (IntKind.wrap .i64 (i3_4 + 1)))) w2 go2) fu (0 : Int)))) else
    k1)
def F_spec_l10Kept (fu : Nat) (c_0 : S_impl_Cluster) : Option (Bool) :=
  (L (fun w0 go0 => F_spec_l10Kept_B0 fu c_0.Nodes c_0.Mails c_0.Wins c_0.Seals (some false) (some true) w0 go0) fu (0 : Int))
def pc_spec_l10Kept (fu : Nat) : Pc RT den := fun f xs => none
def msk_spec_l10Kept (b : Nat) : List Nat := match b with | 0 => [1, 2, 4, 5, 6, 7, 8, 9, 10, 11, 12, 13, 14, 15, 16, 17, 18, 19, 20, 21, 22, 23, 24, 25, 26, 27, 28, 29, 30, 31, 32, 33, 34, 35, 36, 37, 38, 39, 40, 41, 42, 43, 44, 45, 46, 47, 48, 49, 50, 51, 52, 53, 54] | 100000 => [0, 1, 3, 4, 5, 6, 7, 8, 9, 10, 11, 12, 13, 14, 15, 16, 17, 18, 19, 20, 21, 22, 23, 24, 25, 26, 27, 28, 29, 30, 31, 32, 33, 34, 35, 36, 37, 38, 39, 40, 41, 42, 43, 44, 45, 46, 47, 48, 49, 50, 51, 52, 53, 54] | 2 => [1, 2, 6, 7, 8, 9, 10, 11, 12, 13, 14, 15, 16, 17, 18, 19, 20, 21, 22, 23, 24, 25, 26, 27, 28, 29, 30, 31, 32, 33, 34, 35, 36, 37, 38, 39, 40, 41, 42, 43, 44, 45, 46, 47, 48, 49, 50, 51, 52, 53, 54] | 100002 => [1, 4, 5, 6, 7, 8, 9, 10, 11, 12, 13, 14, 15, 16, 17, 18, 19, 20, 21, 22, 23, 24, 25, 26, 27, 28, 29, 30, 31, 32, 33, 34, 35, 36, 37, 38, 39, 40, 41, 42, 43, 44, 45, 46, 47, 48, 49, 50, 51, 52, 53, 54] | _ => []
def ps_spec_l10Kept_2 : List (Pat RT) := [.rptr [(.rs .impl_Node), (.rs .impl_Mail), (.rs .impl_Won), (.rs .impl_Seal)], .flat .dead, .flat .dead, .flat (.int .i64), .rptr [(.int .i64), (.int .i64), (.int .i64), (.int .i64), (.rs .impl_Entry), (.int .i64), (.int .i64), (.rs .i64), (.rs .i64), (.rs .i64)], .flat (.int .i64), .flat .dead, .flat .dead, .flat .dead, .flat .dead, .flat .dead, .flat .dead, .flat .dead, .flat .dead, .flat .dead, .flat .dead, .flat .dead, .flat .dead, .flat .dead, .flat .dead, .flat .dead, .flat .dead, .flat .dead, .flat .dead, .flat .dead, .flat .dead, .flat .dead, .flat .dead, .flat .dead, .flat .dead, .flat .dead, .flat .dead, .flat .dead, .flat .dead, .flat .dead, .flat .dead, .flat .dead, .flat .dead, .flat .dead, .flat .dead, .flat .dead, .flat .dead, .flat .dead, .flat .dead, .flat .dead, .flat .dead, .flat .dead, .flat .dead, .flat .dead, .flat .dead, .flat .dead, .flat .dead, .flat .dead, .flat .dead, .flat .dead]
def os_spec_l10Kept_2 : List (OP RT) := []
def conv_spec_l10Kept_2 (r : Raw den ps_spec_l10Kept_2 os_spec_l10Kept_2) : ((Sl S_impl_Node) × (Sl S_impl_Mail) × (Sl S_impl_Won) × (Sl S_impl_Seal) × Int × Int × Int × Int × Int × (Sl S_impl_Entry) × Int × Int × (Sl Int) × (Sl Int) × (Sl Int)) × (Int) := ((r.1.1.1, r.1.1.2.1, r.1.1.2.2.1, r.1.1.2.2.2.1, r.1.2.2.2.1, r.1.2.2.2.2.1.1, r.1.2.2.2.2.1.2.1, r.1.2.2.2.2.1.2.2.1, r.1.2.2.2.2.1.2.2.2.1, r.1.2.2.2.2.1.2.2.2.2.1, r.1.2.2.2.2.1.2.2.2.2.2.1, r.1.2.2.2.2.1.2.2.2.2.2.2.1, r.1.2.2.2.2.1.2.2.2.2.2.2.2.1, r.1.2.2.2.2.1.2.2.2.2.2.2.2.2.1, r.1.2.2.2.2.1.2.2.2.2.2.2.2.2.2.1), r.1.2.2.2.2.2.1)
def back_spec_l10Kept_2 (c : (Sl S_impl_Node) × (Sl S_impl_Mail) × (Sl S_impl_Won) × (Sl S_impl_Seal) × Int × Int × Int × Int × Int × (Sl S_impl_Entry) × Int × Int × (Sl Int) × (Sl Int) × (Sl Int)) (w : Int) : St RT den := ⟨[(.rptr [(.rs c.1.z .impl_Node c.1.n c.1.f), (.rs c.2.1.z .impl_Mail c.2.1.n c.2.1.f), (.rs c.2.2.1.z .impl_Won c.2.2.1.n c.2.2.1.f), (.rs c.2.2.2.1.z .impl_Seal c.2.2.2.1.n c.2.2.2.1.f)]), .dead, .dead, (.int .i64 c.2.2.2.2.1), (.rptr [(.int .i64 c.2.2.2.2.2.1), (.int .i64 c.2.2.2.2.2.2.1), (.int .i64 c.2.2.2.2.2.2.2.1), (.int .i64 c.2.2.2.2.2.2.2.2.1), (.rs c.2.2.2.2.2.2.2.2.2.1.z .impl_Entry c.2.2.2.2.2.2.2.2.2.1.n c.2.2.2.2.2.2.2.2.2.1.f), (.int .i64 c.2.2.2.2.2.2.2.2.2.2.1), (.int .i64 c.2.2.2.2.2.2.2.2.2.2.2.1), (.rs c.2.2.2.2.2.2.2.2.2.2.2.2.1.z .i64 c.2.2.2.2.2.2.2.2.2.2.2.2.1.n c.2.2.2.2.2.2.2.2.2.2.2.2.1.f), (.rs c.2.2.2.2.2.2.2.2.2.2.2.2.2.1.z .i64 c.2.2.2.2.2.2.2.2.2.2.2.2.2.1.n c.2.2.2.2.2.2.2.2.2.2.2.2.2.1.f), (.rs c.2.2.2.2.2.2.2.2.2.2.2.2.2.2.z .i64 c.2.2.2.2.2.2.2.2.2.2.2.2.2.2.n c.2.2.2.2.2.2.2.2.2.2.2.2.2.2.f)]), (.int .i64 w), .dead, .dead, .dead, .dead, .dead, .dead, .dead, .dead, .dead, .dead, .dead, .dead, .dead, .dead, .dead, .dead, .dead, .dead, .dead, .dead, .dead, .dead, .dead, .dead, .dead, .dead, .dead, .dead, .dead, .dead, .dead, .dead, .dead, .dead, .dead, .dead, .dead, .dead, .dead, .dead, .dead, .dead, .dead, .dead, .dead, .dead, .dead, .dead, .dead], []⟩
def Bk_spec_l10Kept_2 {ρ : Type} (fu : Nat) (c : (Sl S_impl_Node) × (Sl S_impl_Mail) × (Sl S_impl_Won) × (Sl S_impl_Seal) × Int × Int × Int × Int × Int × (Sl S_impl_Entry) × Int × Int × (Sl Int) × (Sl Int) × (Sl Int)) (k : Ex → St RT den → Option ρ) (w : Int) (go : (Int) → Option ρ) : Option ρ := F_spec_l10Kept_B2 fu c.1 c.2.1 c.2.2.1 c.2.2.2.1 c.2.2.2.2.1 c.2.2.2.2.2.1 c.2.2.2.2.2.2.1 c.2.2.2.2.2.2.2.1 c.2.2.2.2.2.2.2.2.1 c.2.2.2.2.2.2.2.2.2.1 c.2.2.2.2.2.2.2.2.2.2.1 c.2.2.2.2.2.2.2.2.2.2.2.1 c.2.2.2.2.2.2.2.2.2.2.2.2.1 c.2.2.2.2.2.2.2.2.2.2.2.2.2.1 c.2.2.2.2.2.2.2.2.2.2.2.2.2.2 (k .ret ⟨[(.rptr [(.rs c.1.z .impl_Node c.1.n c.1.f), (.rs c.2.1.z .impl_Mail c.2.1.n c.2.1.f), (.rs c.2.2.1.z .impl_Won c.2.2.1.n c.2.2.1.f), (.rs c.2.2.2.1.z .impl_Seal c.2.2.2.1.n c.2.2.2.1.f)]), .dead, (.bool false), (.int .i64 c.2.2.2.2.1), .dead, .dead, .dead, .dead, .dead, .dead, .dead, .dead, .dead, .dead, .dead, .dead, .dead, .dead, .dead, .dead, .dead, .dead, .dead, .dead, .dead, .dead, .dead, .dead, .dead, .dead, .dead, .dead, .dead, .dead, .dead, .dead, .dead, .dead, .dead, .dead, .dead, .dead, .dead, .dead, .dead, .dead, .dead, .dead, .dead, .dead, .dead, .dead, .dead, .dead, .dead], []⟩) (k (.exit 2) ⟨[(.rptr [(.rs c.1.z .impl_Node c.1.n c.1.f), (.rs c.2.1.z .impl_Mail c.2.1.n c.2.1.f), (.rs c.2.2.1.z .impl_Won c.2.2.1.n c.2.2.1.f), (.rs c.2.2.2.1.z .impl_Seal c.2.2.2.1.n c.2.2.2.1.f)]), .dead, .dead, (.int .i64 c.2.2.2.2.1), .dead, .dead, .dead, .dead, .dead, .dead, .dead, .dead, .dead, .dead, .dead, .dead, .dead, .dead, .dead, .dead, .dead, .dead, .dead, .dead, .dead, .dead, .dead, .dead, .dead, .dead, .dead, .dead, .dead, .dead, .dead, .dead, .dead, .dead, .dead, .dead, .dead, .dead, .dead, .dead, .dead, .dead, .dead, .dead, .dead, .dead, .dead, .dead, .dead, .dead, .dead], []⟩) w go
def ps_spec_l10Kept_0 : List (Pat RT) := [.rptr [(.rs .impl_Node), (.rs .impl_Mail), (.rs .impl_Won), (.rs .impl_Seal)], .flat .dead, .flat .dead, .flat (.int .i64), .flat .dead, .flat .dead, .flat .dead, .flat .dead, .flat .dead, .flat .dead, .flat .dead, .flat .dead, .flat .dead, .flat .dead, .flat .dead, .flat .dead, .flat .dead, .flat .dead, .flat .dead, .flat .dead, .flat .dead, .flat .dead, .flat .dead, .flat .dead, .flat .dead, .flat .dead, .flat .dead, .flat .dead, .flat .dead, .flat .dead, .flat .dead, .flat .dead, .flat .dead, .flat .dead, .flat .dead, .flat .dead, .flat .dead, .flat .dead, .flat .dead, .flat .dead, .flat .dead, .flat .dead, .flat .dead, .flat .dead, .flat .dead, .flat .dead, .flat .dead, .flat .dead, .flat .dead, .flat .dead, .flat .dead, .flat .dead, .flat .dead, .flat .dead, .flat .dead]
def os_spec_l10Kept_0 : List (OP RT) := []
def conv_spec_l10Kept_0 (r : Raw den ps_spec_l10Kept_0 os_spec_l10Kept_0) : ((Sl S_impl_Node) × (Sl S_impl_Mail) × (Sl S_impl_Won) × (Sl S_impl_Seal)) × (Int) := ((r.1.1.1, r.1.1.2.1, r.1.1.2.2.1, r.1.1.2.2.2.1), r.1.2.2.2.1)
def back_spec_l10Kept_0 (c : (Sl S_impl_Node) × (Sl S_impl_Mail) × (Sl S_impl_Won) × (Sl S_impl_Seal)) (w : Int) : St RT den := ⟨[(.rptr [(.rs c.1.z .impl_Node c.1.n c.1.f), (.rs c.2.1.z .impl_Mail c.2.1.n c.2.1.f), (.rs c.2.2.1.z .impl_Won c.2.2.1.n c.2.2.1.f), (.rs c.2.2.2.z .impl_Seal c.2.2.2.n c.2.2.2.f)]), .dead, .dead, (.int .i64 w), .dead, .dead, .dead, .dead, .dead, .dead, .dead, .dead, .dead, .dead, .dead, .dead, .dead, .dead, .dead, .dead, .dead, .dead, .dead, .dead, .dead, .dead, .dead, .dead, .dead, .dead, .dead, .dead, .dead, .dead, .dead, .dead, .dead, .dead, .dead, .dead, .dead, .dead, .dead, .dead, .dead, .dead, .dead, .dead, .dead, .dead, .dead, .dead, .dead, .dead, .dead], []⟩
def Bk_spec_l10Kept_0 {ρ : Type} (fu : Nat) (c : (Sl S_impl_Node) × (Sl S_impl_Mail) × (Sl S_impl_Won) × (Sl S_impl_Seal)) (k : Ex → St RT den → Option ρ) (w : Int) (go : (Int) → Option ρ) : Option ρ := F_spec_l10Kept_B0 fu c.1 c.2.1 c.2.2.1 c.2.2.2 (k .ret ⟨[.dead, .dead, (.bool false), .dead, .dead, .dead, .dead, .dead, .dead, .dead, .dead, .dead, .dead, .dead, .dead, .dead, .dead, .dead, .dead, .dead, .dead, .dead, .dead, .dead, .dead, .dead, .dead, .dead, .dead, .dead, .dead, .dead, .dead, .dead, .dead, .dead, .dead, .dead, .dead, .dead, .dead, .dead, .dead, .dead, .dead, .dead, .dead, .dead, .dead, .dead, .dead, .dead, .dead, .dead, .dead], []⟩) (k (.exit 0) ⟨[.dead, .dead, .dead, .dead, .dead, .dead, .dead, .dead, .dead, .dead, .dead, .dead, .dead, .dead, .dead, .dead, .dead, .dead, .dead, .dead, .dead, .dead, .dead, .dead, .dead, .dead, .dead, .dead, .dead, .dead, .dead, .dead, .dead, .dead, .dead, .dead, .dead, .dead, .dead, .dead, .dead, .dead, .dead, .dead, .dead, .dead, .dead, .dead, .dead, .dead, .dead, .dead, .dead, .dead, .dead], []⟩) w go
def lp_spec_l10Kept (fu : Nat) : Lp RT den (Bool) := fun b s k => match b with | 0 => handle ps_spec_l10Kept_0 os_spec_l10Kept_0 conv_spec_l10Kept_0 (Bk_spec_l10Kept_0 fu) fu s k | 2 => handle ps_spec_l10Kept_2 os_spec_l10Kept_2 conv_spec_l10Kept_2 (Bk_spec_l10Kept_2 fu) fu s k | _ => none
theorem ev_spec_l10Kept (fu : Nat) (c_0 : S_impl_Cluster) : evFun E (pc_spec_l10Kept fu) msk_spec_l10Kept (lp_spec_l10Kept fu) out_bo 38 [(.rptr [(.rs c_0.Nodes.z .impl_Node c_0.Nodes.n c_0.Nodes.f), (.rs c_0.Mails.z .impl_Mail c_0.Mails.n c_0.Mails.f), (.rs c_0.Wins.z .impl_Won c_0.Wins.n c_0.Wins.f), (.rs c_0.Seals.z .impl_Seal c_0.Seals.n c_0.Seals.f)])] = F_spec_l10Kept fu c_0 := by kernel_rfl
noncomputable def body_spec_l10Kept : Code := Try.f38.body.getD .skip
noncomputable def lc_spec_l10Kept_0 : Code := ((loops 0 body_spec_l10Kept).getD 0 (0, .skip)).2
theorem round_spec_l10Kept_0 (fu : Nat) (it : St RT den → Option (Bool)) (k : Ex → St RT den → Option (Bool)) c w : evCode E (pc_spec_l10Kept fu) msk_spec_l10Kept (lp_spec_l10Kept fu) 0 lc_spec_l10Kept_0 (back_spec_l10Kept_0 c w) (after (msk_spec_l10Kept 0) (msk_spec_l10Kept 100000) 0 it k) = Bk_spec_l10Kept_0 fu c k w (fun w => it (back_spec_l10Kept_0 c w)) := by kernel_rfl
theorem lpok_spec_l10Kept_0 (fu : Nat) : ∀ s k r, lp_spec_l10Kept fu 0 s k = some r → ∃ fuel, iter (msk_spec_l10Kept 0) (msk_spec_l10Kept 100000) s.objs.length (evCode E (pc_spec_l10Kept fu) msk_spec_l10Kept (lp_spec_l10Kept fu) 0 lc_spec_l10Kept_0) fuel s k = some r :=
  handle_ok (ps := ps_spec_l10Kept_0) (os := os_spec_l10Kept_0) (conv := conv_spec_l10Kept_0) (B := Bk_spec_l10Kept_0 fu) (fu := fu) back_spec_l10Kept_0 (fun raw => by kernel_rfl) 0 (fun c w => by kernel_rfl) (round_spec_l10Kept_0 fu)
noncomputable def lc_spec_l10Kept_2 : Code := ((loops 0 body_spec_l10Kept).getD 1 (0, .skip)).2
theorem round_spec_l10Kept_2 (fu : Nat) (it : St RT den → Option (Bool)) (k : Ex → St RT den → Option (Bool)) c w : evCode E (pc_spec_l10Kept fu) msk_spec_l10Kept (lp_spec_l10Kept fu) 2 lc_spec_l10Kept_2 (back_spec_l10Kept_2 c w) (after (msk_spec_l10Kept 2) (msk_spec_l10Kept 100002) 0 it k) = Bk_spec_l10Kept_2 fu c k w (fun w => it (back_spec_l10Kept_2 c w)) := by kernel_rfl
theorem lpok_spec_l10Kept_2 (fu : Nat) : ∀ s k r, lp_spec_l10Kept fu 2 s k = some r → ∃ fuel, iter (msk_spec_l10Kept 2) (msk_spec_l10Kept 100002) s.objs.length (evCode E (pc_spec_l10Kept fu) msk_spec_l10Kept (lp_spec_l10Kept fu) 2 lc_spec_l10Kept_2) fuel s k = some r :=
  handle_ok (ps := ps_spec_l10Kept_2) (os := os_spec_l10Kept_2) (conv := conv_spec_l10Kept_2) (B := Bk_spec_l10Kept_2 fu) (fu := fu) back_spec_l10Kept_2 (fun raw => by kernel_rfl) 0 (fun c w => by kernel_rfl) (round_spec_l10Kept_2 fu)
theorem lpok_spec_l10Kept (fu : Nat) : LpOk E (pc_spec_l10Kept fu) msk_spec_l10Kept (lp_spec_l10Kept fu) (loops 0 body_spec_l10Kept) := loop_all 2 (by kernel_rfl) fun i hi => match i, hi with
  | 0, _ => by
    have h : (loops 0 body_spec_l10Kept).getD 0 (0, .skip) = (0, lc_spec_l10Kept_0) := by kernel_rfl
    rw [h]; exact lpok_spec_l10Kept_0 fu
  | 1, _ => by
    have h : (loops 0 body_spec_l10Kept).getD 1 (0, .skip) = (2, lc_spec_l10Kept_2) := by kernel_rfl
    rw [h]; exact lpok_spec_l10Kept_2 fu
  | i + 2, hi => absurd hi (by omega)
def S_spec_l10Kept (fu : Nat) (xs : List (D RT den)) : Option (Out RT den) := match xs with | [.rptr (.rs za0_1 .impl_Node na0_1 fa0_1 :: .rs za0_2 .impl_Mail na0_2 fa0_2 :: .rs za0_3 .impl_Won na0_3 fa0_3 :: .rs za0_4 .impl_Seal na0_4 fa0_4 :: ra0)] => some ⟨Bool, F_spec_l10Kept fu (⟨(⟨za0_1, na0_1, fa0_1⟩ : (Sl S_impl_Node)), (⟨za0_2, na0_2, fa0_2⟩ : (Sl S_impl_Mail)), (⟨za0_3, na0_3, fa0_3⟩ : (Sl S_impl_Won)), (⟨za0_4, na0_4, fa0_4⟩ : (Sl S_impl_Seal))⟩ : S_impl_Cluster), enc_bo, fun _ => true⟩ | _ => none
theorem hpc_spec_l10Kept (fu : Nat) : ∀ f xs o, pc_spec_l10Kept fu f xs = some o → ∀ y, o.x = some y → Good E Try.prog f xs (o.g y) := by
  intro f xs o h
  cases h
theorem goodv_spec_l10Kept (fu : Nat) (c_0 : S_impl_Cluster) (y : Bool) (hy : F_spec_l10Kept fu c_0 = some y) : Good E Try.prog 38 [(.rptr [(.rs c_0.Nodes.z .impl_Node c_0.Nodes.n c_0.Nodes.f), (.rs c_0.Mails.z .impl_Mail c_0.Mails.n c_0.Mails.f), (.rs c_0.Wins.z .impl_Won c_0.Wins.n c_0.Wins.f), (.rs c_0.Seals.z .impl_Seal c_0.Seals.n c_0.Seals.f)])] (enc_bo y) :=
  fun_good E_ok (pc_good (hpc_spec_l10Kept fu)) (fn := Try.f38) (c := body_spec_l10Kept) (out := out_bo) (y := y) (by kernel_rfl) (by kernel_rfl) (by kernel_rfl) (lpok_spec_l10Kept fu) (fun d hd => out_bo_enc d _ hd) ((ev_spec_l10Kept fu c_0).trans hy)
theorem good_spec_l10Kept (fu : Nat) : ∀ xs o, S_spec_l10Kept fu xs = some o → ∀ y, o.x = some y → Good E Try.prog 38 xs (o.g y) := by
  intro xs o h y hy
  unfold S_spec_l10Kept at h
  split at h
  · rename_i za0_1 na0_1 fa0_1 za0_2 na0_2 fa0_2 za0_3 na0_3 fa0_3 za0_4 na0_4 fa0_4 ra0
    cases h
    exact (goodv_spec_l10Kept fu (⟨(⟨za0_1, na0_1, fa0_1⟩ : (Sl S_impl_Node)), (⟨za0_2, na0_2, fa0_2⟩ : (Sl S_impl_Mail)), (⟨za0_3, na0_3, fa0_3⟩ : (Sl S_impl_Won)), (⟨za0_4, na0_4, fa0_4⟩ : (Sl S_impl_Seal))⟩ : S_impl_Cluster) y hy).sub ⟨Sub.of_eq ra0 rfl, trivial⟩
  · cases h

/-! spec.SealsKept -/
def F_spec_SealsKept (fu : Nat) (c_0 : S_impl_Cluster) : Option (Bool) :=
  ((((F_spec_l9Fault fu c_0).bind fun y412 => (bif (y412 == 0) then ((F_spec_l10Kept fu c_0).bind fun y413 => (some y413)) else (some false))) : Option Bool).bind fun m414 => (some m414))
def pc_spec_SealsKept (fu : Nat) : Pc RT den := fun f xs => match f with | 26 => S_spec_l9Fault fu xs | 38 => S_spec_l10Kept fu xs | _ => none
def msk_spec_SealsKept (b : Nat) : List Nat := match b with | 200001 => [2] | _ => []
def lp_spec_SealsKept (fu : Nat) : Lp RT den (Bool) := fun b s k => none
theorem ev_spec_SealsKept (fu : Nat) (c_0 : S_impl_Cluster) : evFun E (pc_spec_SealsKept fu) msk_spec_SealsKept (lp_spec_SealsKept fu) out_bo 12 [(.agg [(.rs c_0.Nodes.z .impl_Node c_0.Nodes.n c_0.Nodes.f), (.rs c_0.Mails.z .impl_Mail c_0.Mails.n c_0.Mails.f), (.rs c_0.Wins.z .impl_Won c_0.Wins.n c_0.Wins.f), (.rs c_0.Seals.z .impl_Seal c_0.Seals.n c_0.Seals.f)])] = F_spec_SealsKept fu c_0 := by kernel_rfl
noncomputable def body_spec_SealsKept : Code := Try.f12.body.getD .skip
theorem lpok_spec_SealsKept (fu : Nat) : LpOk E (pc_spec_SealsKept fu) msk_spec_SealsKept (lp_spec_SealsKept fu) (loops 0 body_spec_SealsKept) := by
  have h : loops 0 body_spec_SealsKept = [] := by kernel_rfl
  rw [h]; intro p hp; cases hp
def S_spec_SealsKept (fu : Nat) (xs : List (D RT den)) : Option (Out RT den) := match xs with | [.agg [.rs za0_1 .impl_Node na0_1 fa0_1, .rs za0_2 .impl_Mail na0_2 fa0_2, .rs za0_3 .impl_Won na0_3 fa0_3, .rs za0_4 .impl_Seal na0_4 fa0_4]] => some ⟨Bool, F_spec_SealsKept fu (⟨(⟨za0_1, na0_1, fa0_1⟩ : (Sl S_impl_Node)), (⟨za0_2, na0_2, fa0_2⟩ : (Sl S_impl_Mail)), (⟨za0_3, na0_3, fa0_3⟩ : (Sl S_impl_Won)), (⟨za0_4, na0_4, fa0_4⟩ : (Sl S_impl_Seal))⟩ : S_impl_Cluster), enc_bo, fun _ => true⟩ | _ => none
theorem hpc_spec_SealsKept (fu : Nat) : ∀ f xs o, pc_spec_SealsKept fu f xs = some o → ∀ y, o.x = some y → Good E Try.prog f xs (o.g y) := by
  intro f xs o h
  unfold pc_spec_SealsKept at h
  split at h
  · exact good_spec_l9Fault fu xs o h
  · exact good_spec_l10Kept fu xs o h
  · cases h
theorem goodv_spec_SealsKept (fu : Nat) (c_0 : S_impl_Cluster) (y : Bool) (hy : F_spec_SealsKept fu c_0 = some y) : Good E Try.prog 12 [(.agg [(.rs c_0.Nodes.z .impl_Node c_0.Nodes.n c_0.Nodes.f), (.rs c_0.Mails.z .impl_Mail c_0.Mails.n c_0.Mails.f), (.rs c_0.Wins.z .impl_Won c_0.Wins.n c_0.Wins.f), (.rs c_0.Seals.z .impl_Seal c_0.Seals.n c_0.Seals.f)])] (enc_bo y) :=
  fun_good E_ok (pc_good (hpc_spec_SealsKept fu)) (fn := Try.f12) (c := body_spec_SealsKept) (out := out_bo) (y := y) (by kernel_rfl) (by kernel_rfl) (by kernel_rfl) (lpok_spec_SealsKept fu) (fun d hd => out_bo_enc d _ hd) ((ev_spec_SealsKept fu c_0).trans hy)
theorem good_spec_SealsKept (fu : Nat) : ∀ xs o, S_spec_SealsKept fu xs = some o → ∀ y, o.x = some y → Good E Try.prog 12 xs (o.g y) := by
  intro xs o h y hy
  unfold S_spec_SealsKept at h
  split at h
  · rename_i za0_1 na0_1 fa0_1 za0_2 na0_2 fa0_2 za0_3 na0_3 fa0_3 za0_4 na0_4 fa0_4
    cases h
    exact goodv_spec_SealsKept fu (⟨(⟨za0_1, na0_1, fa0_1⟩ : (Sl S_impl_Node)), (⟨za0_2, na0_2, fa0_2⟩ : (Sl S_impl_Mail)), (⟨za0_3, na0_3, fa0_3⟩ : (Sl S_impl_Won)), (⟨za0_4, na0_4, fa0_4⟩ : (Sl S_impl_Seal))⟩ : S_impl_Cluster) y hy
  · cases h

/-! (*impl.Cluster).sealed -/
def F_impl_Cluster_sealed_B0 {ρ : Type} (fu : Nat) (t10_1 : (Sl S_impl_Seal)) (t11_2 : Int) (k0 : Nat → Nat → (Nat → S_impl_Entry) → Option ρ) (out3_0 : Nat) (t12_3 : Int) (on0_4 : Nat) (of0_5 : (Nat → S_impl_Entry)) (go : Nat → Int → Nat → (Nat → S_impl_Entry) → Option ρ) : Option ρ :=
  (bif (decide (t12_3 < t11_2)) then ((bif (decide (0 ≤ t12_3) && decide ((Int.toNat t12_3) < t10_1.n)) then some () else none : Option Unit).bind fun _ => (bif (decide ((out3_0 + 1) ≤ 9223372036854775807) &&
    decide ((out3_0 + 1) * 72 ≤ 140737488355328)) then (go (out3_0 + 1) (IntKind.wrap .i64 (t12_3 + 1)) (out3_0 + 1) (fun i => if i < out3_0 then (of0_5 i) else ((fun i => [(t10_1.f (Int.toNat t12_3)).Entry].getD i (dflt .impl_Entry)) (i - out3_0)))) else
    none)) else (k0 out3_0 on0_4 of0_5))
def F_impl_Cluster_sealed (fu : Nat) (c_0 : S_impl_Cluster) : Option ((Sl S_impl_Entry)) :=
  (L (fun w0 go0 => F_impl_Cluster_sealed_B0 fu c_0.Seals ((c_0.Seals.n : Nat) : Int) (fun z420 z421 z422 => (some (⟨none, z420, z422⟩ : (Sl S_impl_Entry)))) w0.1 w0.2.1 w0.2.2.1 w0.2.2.2 (fun q0 q1 q2 q3 =>
    go0 (q0, q1, q2, q3))) fu ((0, 0, 0, (fun _ => dflt .impl_Entry)) : Nat × Int × Nat × (Nat → S_impl_Entry)))
def pc_impl_Cluster_sealed (fu : Nat) : Pc RT den := fun f xs => none
def msk_impl_Cluster_sealed (b : Nat) : List Nat := match b with | 0 => [0, 1, 2, 4, 5, 6, 7, 8, 9, 13, 14, 15, 16, 17, 18, 19, 20, 21, 22] | 100000 => [0, 1, 4, 5, 6, 7, 8, 9, 10, 11, 12, 13, 14, 15, 16, 17, 18, 19, 20, 21, 22] | 300000 => [3] | _ => []
def ps_impl_Cluster_sealed_0 : List (Pat RT) := [.flat .dead, .flat .dead, .flat .dead, .flat (.os 0), .flat .dead, .flat .dead, .flat .dead, .flat .dead, .flat .dead, .flat .dead, .flat (.rs .impl_Seal), .flat (.int .i64), .flat (.int .i64), .flat .dead, .flat .dead, .flat .dead, .flat .dead, .flat .dead, .flat .dead, .flat .dead, .flat .dead, .flat .dead, .flat .dead]
def os_impl_Cluster_sealed_0 : List (OP RT) := [.row .impl_Entry]
def conv_impl_Cluster_sealed_0 (r : Raw den ps_impl_Cluster_sealed_0 os_impl_Cluster_sealed_0) : ((Sl S_impl_Seal) × Int) × (Nat × Int × Nat × (Nat → S_impl_Entry)) := ((r.1.2.2.2.2.2.2.2.2.2.2.1, r.1.2.2.2.2.2.2.2.2.2.2.2.1), (r.1.2.2.2.1, r.1.2.2.2.2.2.2.2.2.2.2.2.2.1, r.2.1.1, r.2.1.2))
def back_impl_Cluster_sealed_0 (c : (Sl S_impl_Seal) × Int) (w : Nat × Int × Nat × (Nat → S_impl_Entry)) : St RT den := ⟨[.dead, .dead, .dead, (.os 0 w.1), .dead, .dead, .dead, .dead, .dead, .dead, (.rs c.1.z .impl_Seal c.1.n c.1.f), (.int .i64 c.2), (.int .i64 w.2.1), .dead, .dead, .dead, .dead, .dead, .dead, .dead, .dead, .dead, .dead], [(.row .impl_Entry w.2.2.1 w.2.2.2)]⟩
def Bk_impl_Cluster_sealed_0 {ρ : Type} (fu : Nat) (c : (Sl S_impl_Seal) × Int) (k : Ex → St RT den → Option ρ) (w : Nat × Int × Nat × (Nat → S_impl_Entry)) (go : (Nat × Int × Nat × (Nat → S_impl_Entry)) → Option ρ) : Option ρ := F_impl_Cluster_sealed_B0 fu c.1 c.2 (fun a0 a1 a2 => k (.exit 0) ⟨[.dead, .dead, .dead, (.os 0 a0), .dead, .dead, .dead, .dead, .dead, .dead, .dead, .dead, .dead, .dead, .dead, .dead, .dead, .dead, .dead, .dead, .dead, .dead, .dead], [(.row .impl_Entry a1 a2)]⟩) w.1 w.2.1 w.2.2.1 w.2.2.2 (fun q0 q1 q2 q3 => go (q0, q1, q2, q3))
def lp_impl_Cluster_sealed (fu : Nat) : Lp RT den ((Sl S_impl_Entry)) := fun b s k => match b with | 0 => handle ps_impl_Cluster_sealed_0 os_impl_Cluster_sealed_0 conv_impl_Cluster_sealed_0 (Bk_impl_Cluster_sealed_0 fu) fu s k | _ => none
theorem ev_impl_Cluster_sealed (fu : Nat) (c_0 : S_impl_Cluster) : evFun E (pc_impl_Cluster_sealed fu) msk_impl_Cluster_sealed (lp_impl_Cluster_sealed fu) out_sl_impl_Entry 45 [(.rptr [(.rs c_0.Nodes.z .impl_Node c_0.Nodes.n c_0.Nodes.f), (.rs c_0.Mails.z .impl_Mail c_0.Mails.n c_0.Mails.f), (.rs c_0.Wins.z .impl_Won c_0.Wins.n c_0.Wins.f), (.rs c_0.Seals.z .impl_Seal c_0.Seals.n c_0.Seals.f)])] = F_impl_Cluster_sealed fu c_0 := by kernel_rfl
noncomputable def body_impl_Cluster_sealed : Code := Try.f45.body.getD .skip
noncomputable def lc_impl_Cluster_sealed_0 : Code := ((loops 0 body_impl_Cluster_sealed).getD 0 (0, .skip)).2
theorem round_impl_Cluster_sealed_0 (fu : Nat) (it : St RT den → Option ((Sl S_impl_Entry))) (k : Ex → St RT den → Option ((Sl S_impl_Entry))) c w : evCode E (pc_impl_Cluster_sealed fu) msk_impl_Cluster_sealed (lp_impl_Cluster_sealed fu) 0 lc_impl_Cluster_sealed_0 (back_impl_Cluster_sealed_0 c w) (after (msk_impl_Cluster_sealed 0) (msk_impl_Cluster_sealed 100000) 1 it k) = Bk_impl_Cluster_sealed_0 fu c k w (fun w => it (back_impl_Cluster_sealed_0 c w)) := by kernel_rfl
theorem lpok_impl_Cluster_sealed_0 (fu : Nat) : ∀ s k r, lp_impl_Cluster_sealed fu 0 s k = some r → ∃ fuel, iter (msk_impl_Cluster_sealed 0) (msk_impl_Cluster_sealed 100000) s.objs.length (evCode E (pc_impl_Cluster_sealed fu) msk_impl_Cluster_sealed (lp_impl_Cluster_sealed fu) 0 lc_impl_Cluster_sealed_0) fuel s k = some r :=
  handle_ok (ps := ps_impl_Cluster_sealed_0) (os := os_impl_Cluster_sealed_0) (conv := conv_impl_Cluster_sealed_0) (B := Bk_impl_Cluster_sealed_0 fu) (fu := fu) back_impl_Cluster_sealed_0 (fun raw => by kernel_rfl) 1 (fun c w => by kernel_rfl) (round_impl_Cluster_sealed_0 fu)
theorem lpok_impl_Cluster_sealed (fu : Nat) : LpOk E (pc_impl_Cluster_sealed fu) msk_impl_Cluster_sealed (lp_impl_Cluster_sealed fu) (loops 0 body_impl_Cluster_sealed) := loop_all 1 (by kernel_rfl) fun i hi => match i, hi with
  | 0, _ => by
    have h : (loops 0 body_impl_Cluster_sealed).getD 0 (0, .skip) = (0, lc_impl_Cluster_sealed_0) := by kernel_rfl
    rw [h]; exact lpok_impl_Cluster_sealed_0 fu
  | i + 1, hi => absurd hi (by omega)
def S_impl_Cluster_sealed (fu : Nat) (xs : List (D RT den)) : Option (Out RT den) := match xs with | [.rptr (.rs za0_1 .impl_Node na0_1 fa0_1 :: .rs za0_2 .impl_Mail na0_2 fa0_2 :: .rs za0_3 .impl_Won na0_3 fa0_3 :: .rs za0_4 .impl_Seal na0_4 fa0_4 :: ra0)] => some ⟨(Sl S_impl_Entry), F_impl_Cluster_sealed fu (⟨(⟨za0_1, na0_1, fa0_1⟩ : (Sl S_impl_Node)), (⟨za0_2, na0_2, fa0_2⟩ : (Sl S_impl_Mail)), (⟨za0_3, na0_3, fa0_3⟩ : (Sl S_impl_Won)), (⟨za0_4, na0_4, fa0_4⟩ : (Sl S_impl_Seal))⟩ : S_impl_Cluster), enc_sl_impl_Entry, fun _ => true⟩ | _ => none
theorem hpc_impl_Cluster_sealed (fu : Nat) : ∀ f xs o, pc_impl_Cluster_sealed fu f xs = some o → ∀ y, o.x = some y → Good E Try.prog f xs (o.g y) := by
  intro f xs o h
  cases h
theorem goodv_impl_Cluster_sealed (fu : Nat) (c_0 : S_impl_Cluster) (y : (Sl S_impl_Entry)) (hy : F_impl_Cluster_sealed fu c_0 = some y) : Good E Try.prog 45 [(.rptr [(.rs c_0.Nodes.z .impl_Node c_0.Nodes.n c_0.Nodes.f), (.rs c_0.Mails.z .impl_Mail c_0.Mails.n c_0.Mails.f), (.rs c_0.Wins.z .impl_Won c_0.Wins.n c_0.Wins.f), (.rs c_0.Seals.z .impl_Seal c_0.Seals.n c_0.Seals.f)])] (enc_sl_impl_Entry y) :=
  fun_good E_ok (pc_good (hpc_impl_Cluster_sealed fu)) (fn := Try.f45) (c := body_impl_Cluster_sealed) (out := out_sl_impl_Entry) (y := y) (by kernel_rfl) (by kernel_rfl) (by kernel_rfl) (lpok_impl_Cluster_sealed fu) (fun d hd => out_sl_impl_Entry_enc d _ hd) ((ev_impl_Cluster_sealed fu c_0).trans hy)
theorem good_impl_Cluster_sealed (fu : Nat) : ∀ xs o, S_impl_Cluster_sealed fu xs = some o → ∀ y, o.x = some y → Good E Try.prog 45 xs (o.g y) := by
  intro xs o h y hy
  unfold S_impl_Cluster_sealed at h
  split at h
  · rename_i za0_1 na0_1 fa0_1 za0_2 na0_2 fa0_2 za0_3 na0_3 fa0_3 za0_4 na0_4 fa0_4 ra0
    cases h
    exact (goodv_impl_Cluster_sealed fu (⟨(⟨za0_1, na0_1, fa0_1⟩ : (Sl S_impl_Node)), (⟨za0_2, na0_2, fa0_2⟩ : (Sl S_impl_Mail)), (⟨za0_3, na0_3, fa0_3⟩ : (Sl S_impl_Won)), (⟨za0_4, na0_4, fa0_4⟩ : (Sl S_impl_Seal))⟩ : S_impl_Cluster) y hy).sub ⟨Sub.of_eq ra0 rfl, trivial⟩
  · cases h

/-! (*impl.Cluster).sealsKept'1 -/
def F_impl_Cluster_sealsKept_c1 (fu : Nat) (n_0 : S_impl_Node) (x_1_1 : (Sl S_impl_Entry)) : Option (Bool) :=
  ((F_impl_CommonOf fu n_0.Log x_1_1).bind fun y426 => (some (decide (y426 < n_0.Commit))))
def pc_impl_Cluster_sealsKept_c1 (fu : Nat) : Pc RT den := fun f xs => match f with | 71 => S_impl_CommonOf fu xs | _ => none
def msk_impl_Cluster_sealsKept_c1 (b : Nat) : List Nat := []
def lp_impl_Cluster_sealsKept_c1 (fu : Nat) : Lp RT den (Bool) := fun b s k => none
theorem ev_impl_Cluster_sealsKept_c1 (fu : Nat) (n_0 : S_impl_Node) (x_1_1 : (Sl S_impl_Entry)) : evFun E (pc_impl_Cluster_sealsKept_c1 fu) msk_impl_Cluster_sealsKept_c1 (lp_impl_Cluster_sealsKept_c1 fu) out_bo 78 [(.agg [(.int .i64 n_0.Id), (.int .i64 n_0.Peers), (.int .i64 n_0.Term), (.int .i64 n_0.Voted), (.rs n_0.Log.z .impl_Entry n_0.Log.n n_0.Log.f), (.int .i64 n_0.Role), (.int .i64 n_0.Commit), (.rs n_0.Votes.z .i64 n_0.Votes.n n_0.Votes.f), (.rs n_0.Next.z .i64 n_0.Next.n n_0.Next.f), (.rs n_0.Match.z .i64 n_0.Match.n n_0.Match.f)]), (.rptr [(.rs x_1_1.z .impl_Entry x_1_1.n x_1_1.f)])] = F_impl_Cluster_sealsKept_c1 fu n_0 x_1_1 := by kernel_rfl
noncomputable def body_impl_Cluster_sealsKept_c1 : Code := Try.f78.body.getD .skip
theorem lpok_impl_Cluster_sealsKept_c1 (fu : Nat) : LpOk E (pc_impl_Cluster_sealsKept_c1 fu) msk_impl_Cluster_sealsKept_c1 (lp_impl_Cluster_sealsKept_c1 fu) (loops 0 body_impl_Cluster_sealsKept_c1) := by
  have h : loops 0 body_impl_Cluster_sealsKept_c1 = [] := by kernel_rfl
  rw [h]; intro p hp; cases hp
def S_impl_Cluster_sealsKept_c1 (fu : Nat) (xs : List (D RT den)) : Option (Out RT den) := match xs with | [.agg [.int .i64 a0_1, .int .i64 a0_2, .int .i64 a0_3, .int .i64 a0_4, .rs za0_5 .impl_Entry na0_5 fa0_5, .int .i64 a0_6, .int .i64 a0_7, .rs za0_8 .i64 na0_8 fa0_8, .rs za0_9 .i64 na0_9 fa0_9, .rs za0_10 .i64 na0_10 fa0_10], .rptr [.rs za1_0 .impl_Entry na1_0 fa1_0]] => some ⟨Bool, F_impl_Cluster_sealsKept_c1 fu (⟨a0_1, a0_2, a0_3, a0_4, (⟨za0_5, na0_5, fa0_5⟩ : (Sl S_impl_Entry)), a0_6, a0_7, (⟨za0_8, na0_8, fa0_8⟩ : (Sl Int)), (⟨za0_9, na0_9, fa0_9⟩ : (Sl Int)), (⟨za0_10, na0_10, fa0_10⟩ : (Sl Int))⟩ : S_impl_Node) (⟨za1_0, na1_0, fa1_0⟩ : (Sl S_impl_Entry)), enc_bo, fun _ => true⟩ | _ => none
theorem hpc_impl_Cluster_sealsKept_c1 (fu : Nat) : ∀ f xs o, pc_impl_Cluster_sealsKept_c1 fu f xs = some o → ∀ y, o.x = some y → Good E Try.prog f xs (o.g y) := by
  intro f xs o h
  unfold pc_impl_Cluster_sealsKept_c1 at h
  split at h
  · exact good_impl_CommonOf fu xs o h
  · cases h
theorem goodv_impl_Cluster_sealsKept_c1 (fu : Nat) (n_0 : S_impl_Node) (x_1_1 : (Sl S_impl_Entry)) (y : Bool) (hy : F_impl_Cluster_sealsKept_c1 fu n_0 x_1_1 = some y) : Good E Try.prog 78 [(.agg [(.int .i64 n_0.Id), (.int .i64 n_0.Peers), (.int .i64 n_0.Term), (.int .i64 n_0.Voted), (.rs n_0.Log.z .impl_Entry n_0.Log.n n_0.Log.f), (.int .i64 n_0.Role), (.int .i64 n_0.Commit), (.rs n_0.Votes.z .i64 n_0.Votes.n n_0.Votes.f), (.rs n_0.Next.z .i64 n_0.Next.n n_0.Next.f), (.rs n_0.Match.z .i64 n_0.Match.n n_0.Match.f)]), (.rptr [(.rs x_1_1.z .impl_Entry x_1_1.n x_1_1.f)])] (enc_bo y) :=
  fun_good E_ok (pc_good (hpc_impl_Cluster_sealsKept_c1 fu)) (fn := Try.f78) (c := body_impl_Cluster_sealsKept_c1) (out := out_bo) (y := y) (by kernel_rfl) (by kernel_rfl) (by kernel_rfl) (lpok_impl_Cluster_sealsKept_c1 fu) (fun d hd => out_bo_enc d _ hd) ((ev_impl_Cluster_sealsKept_c1 fu n_0 x_1_1).trans hy)
theorem good_impl_Cluster_sealsKept_c1 (fu : Nat) : ∀ xs o, S_impl_Cluster_sealsKept_c1 fu xs = some o → ∀ y, o.x = some y → Good E Try.prog 78 xs (o.g y) := by
  intro xs o h y hy
  unfold S_impl_Cluster_sealsKept_c1 at h
  split at h
  · rename_i a0_1 a0_2 a0_3 a0_4 za0_5 na0_5 fa0_5 a0_6 a0_7 za0_8 na0_8 fa0_8 za0_9 na0_9 fa0_9 za0_10 na0_10 fa0_10 za1_0 na1_0 fa1_0
    cases h
    exact goodv_impl_Cluster_sealsKept_c1 fu (⟨a0_1, a0_2, a0_3, a0_4, (⟨za0_5, na0_5, fa0_5⟩ : (Sl S_impl_Entry)), a0_6, a0_7, (⟨za0_8, na0_8, fa0_8⟩ : (Sl Int)), (⟨za0_9, na0_9, fa0_9⟩ : (Sl Int)), (⟨za0_10, na0_10, fa0_10⟩ : (Sl Int))⟩ : S_impl_Node) (⟨za1_0, na1_0, fa1_0⟩ : (Sl S_impl_Entry)) y hy
  · cases h

/-! slices.IndexFunc[[]impl.Node,impl.Node] -/
def F_slices_IndexFunc_impl_Node_impl_Node_w_impl_Cluster_sealsKept_c1_B0 {ρ : Type} (fu : Nat) (s0_0 : (Sl S_impl_Node)) (f1_1 : (Sl S_impl_Entry)) (t7_2 : Int) (k0 : Int → Option ρ) (k1 : Option ρ) (t8_3 : Int) (go : Int → Option ρ) : Option ρ :=
  (bif (decide (t8_3 < t7_2)) then ((bif (decide (0 ≤ t8_3) && decide ((Int.toNat t8_3) < s0_0.n)) then some () else none : Option Unit).bind fun _ => ((F_impl_Cluster_sealsKept_c1 fu (s0_0.f (Int.toNat t8_3)) f1_1).bind fun y424 =>
    (bif y424 then (k0 t8_3) else (go (IntKind.wrap .i64 (t8_3 + 1)))))) else k1)
def F_slices_IndexFunc_impl_Node_impl_Node_w_impl_Cluster_sealsKept_c1 (fu : Nat) (s_0 : (Sl S_impl_Node)) (f_1_1 : (Sl S_impl_Entry)) : Option (Int) :=
  (L (fun w0 go0 => F_slices_IndexFunc_impl_Node_impl_Node_w_impl_Cluster_sealsKept_c1_B0 fu s_0 f_1_1 ((s_0.n : Nat) : Int) (fun z425 => (some z425)) (some (-1)) w0 go0) fu (0 : Int))
def pc_slices_IndexFunc_impl_Node_impl_Node_w_impl_Cluster_sealsKept_c1 (fu : Nat) : Pc RT den := fun f xs => match f with | 78 => S_impl_Cluster_sealsKept_c1 fu xs | _ => none
def msk_slices_IndexFunc_impl_Node_impl_Node_w_impl_Cluster_sealsKept_c1 (b : Nat) : List Nat := match b with | 0 => [2, 3, 4, 5, 6, 9, 10, 11, 12, 13, 14, 15, 16, 17, 18] | 100000 => [0, 1, 2, 3, 5, 6, 7, 8, 9, 10, 11, 12, 13, 14, 15, 16, 17, 18] | _ => []
def ps_slices_IndexFunc_impl_Node_impl_Node_w_impl_Cluster_sealsKept_c1_0 : List (Pat RT) := [.flat (.rs .impl_Node), .fn 78 [.rptr [(.rs .impl_Entry)]], .flat .dead, .flat .dead, .flat .dead, .flat .dead, .flat .dead, .flat (.int .i64), .flat (.int .i64), .flat .dead, .flat .dead, .flat .dead, .flat .dead, .flat .dead, .flat .dead, .flat .dead, .flat .dead, .flat .dead, .flat .dead]
def os_slices_IndexFunc_impl_Node_impl_Node_w_impl_Cluster_sealsKept_c1_0 : List (OP RT) := []
def conv_slices_IndexFunc_impl_Node_impl_Node_w_impl_Cluster_sealsKept_c1_0 (r : Raw den ps_slices_IndexFunc_impl_Node_impl_Node_w_impl_Cluster_sealsKept_c1_0 os_slices_IndexFunc_impl_Node_impl_Node_w_impl_Cluster_sealsKept_c1_0) : ((Sl S_impl_Node) × (Sl S_impl_Entry) × Int) × (Int) := ((r.1.1, r.1.2.1.1.1, r.1.2.2.2.2.2.2.2.1), r.1.2.2.2.2.2.2.2.2.1)
def back_slices_IndexFunc_impl_Node_impl_Node_w_impl_Cluster_sealsKept_c1_0 (c : (Sl S_impl_Node) × (Sl S_impl_Entry) × Int) (w : Int) : St RT den := ⟨[(.rs c.1.z .impl_Node c.1.n c.1.f), (.fn 78 [(.rptr [(.rs c.2.1.z .impl_Entry c.2.1.n c.2.1.f)])]), .dead, .dead, .dead, .dead, .dead, (.int .i64 c.2.2), (.int .i64 w), .dead, .dead, .dead, .dead, .dead, .dead, .dead, .dead, .dead, .dead], []⟩
def Bk_slices_IndexFunc_impl_Node_impl_Node_w_impl_Cluster_sealsKept_c1_0 {ρ : Type} (fu : Nat) (c : (Sl S_impl_Node) × (Sl S_impl_Entry) × Int) (k : Ex → St RT den → Option ρ) (w : Int) (go : (Int) → Option ρ) : Option ρ := F_slices_IndexFunc_impl_Node_impl_Node_w_impl_Cluster_sealsKept_c1_B0 fu c.1 c.2.1 c.2.2 (fun a0 => k .ret ⟨[.dead, .dead, .dead, .dead, (.int .i64 a0), .dead, .dead, .dead, .dead, .dead, .dead, .dead, .dead, .dead, .dead, .dead, .dead, .dead, .dead], []⟩) (k (.exit 0) ⟨[.dead, .dead, .dead, .dead, .dead, .dead, .dead, .dead, .dead, .dead, .dead, .dead, .dead, .dead, .dead, .dead, .dead, .dead, .dead], []⟩) w go
def lp_slices_IndexFunc_impl_Node_impl_Node_w_impl_Cluster_sealsKept_c1 (fu : Nat) : Lp RT den (Int) := fun b s k => match b with | 0 => handle ps_slices_IndexFunc_impl_Node_impl_Node_w_impl_Cluster_sealsKept_c1_0 os_slices_IndexFunc_impl_Node_impl_Node_w_impl_Cluster_sealsKept_c1_0 conv_slices_IndexFunc_impl_Node_impl_Node_w_impl_Cluster_sealsKept_c1_0 (Bk_slices_IndexFunc_impl_Node_impl_Node_w_impl_Cluster_sealsKept_c1_0 fu) fu s k | _ => none
theorem ev_slices_IndexFunc_impl_Node_impl_Node_w_impl_Cluster_sealsKept_c1 (fu : Nat) (s_0 : (Sl S_impl_Node)) (f_1_1 : (Sl S_impl_Entry)) : evFun E (pc_slices_IndexFunc_impl_Node_impl_Node_w_impl_Cluster_sealsKept_c1 fu) msk_slices_IndexFunc_impl_Node_impl_Node_w_impl_Cluster_sealsKept_c1 (lp_slices_IndexFunc_impl_Node_impl_Node_w_impl_Cluster_sealsKept_c1 fu) out_i64 103 [(.rs s_0.z .impl_Node s_0.n s_0.f), (.fn 78 [(.rptr [(.rs f_1_1.z .impl_Entry f_1_1.n f_1_1.f)])])] = F_slices_IndexFunc_impl_Node_impl_Node_w_impl_Cluster_sealsKept_c1 fu s_0 f_1_1 := by kernel_rfl
noncomputable def body_slices_IndexFunc_impl_Node_impl_Node_w_impl_Cluster_sealsKept_c1 : Code := Try.f103.body.getD .skip
noncomputable def lc_slices_IndexFunc_impl_Node_impl_Node_w_impl_Cluster_sealsKept_c1_0 : Code := ((loops 0 body_slices_IndexFunc_impl_Node_impl_Node_w_impl_Cluster_sealsKept_c1).getD 0 (0, .skip)).2
theorem round_slices_IndexFunc_impl_Node_impl_Node_w_impl_Cluster_sealsKept_c1_0 (fu : Nat) (it : St RT den → Option (Int)) (k : Ex → St RT den → Option (Int)) c w : evCode E (pc_slices_IndexFunc_impl_Node_impl_Node_w_impl_Cluster_sealsKept_c1 fu) msk_slices_IndexFunc_impl_Node_impl_Node_w_impl_Cluster_sealsKept_c1 (lp_slices_IndexFunc_impl_Node_impl_Node_w_impl_Cluster_sealsKept_c1 fu) 0 lc_slices_IndexFunc_impl_Node_impl_Node_w_impl_Cluster_sealsKept_c1_0 (back_slices_IndexFunc_impl_Node_impl_Node_w_impl_Cluster_sealsKept_c1_0 c w) (after (msk_slices_IndexFunc_impl_Node_impl_Node_w_impl_Cluster_sealsKept_c1 0) (msk_slices_IndexFunc_impl_Node_impl_Node_w_impl_Cluster_sealsKept_c1 100000) 0 it k) = Bk_slices_IndexFunc_impl_Node_impl_Node_w_impl_Cluster_sealsKept_c1_0 fu c k w (fun w => it (back_slices_IndexFunc_impl_Node_impl_Node_w_impl_Cluster_sealsKept_c1_0 c w)) := by kernel_rfl
theorem lpok_slices_IndexFunc_impl_Node_impl_Node_w_impl_Cluster_sealsKept_c1_0 (fu : Nat) : ∀ s k r, lp_slices_IndexFunc_impl_Node_impl_Node_w_impl_Cluster_sealsKept_c1 fu 0 s k = some r → ∃ fuel, iter (msk_slices_IndexFunc_impl_Node_impl_Node_w_impl_Cluster_sealsKept_c1 0) (msk_slices_IndexFunc_impl_Node_impl_Node_w_impl_Cluster_sealsKept_c1 100000) s.objs.length (evCode E (pc_slices_IndexFunc_impl_Node_impl_Node_w_impl_Cluster_sealsKept_c1 fu) msk_slices_IndexFunc_impl_Node_impl_Node_w_impl_Cluster_sealsKept_c1 (lp_slices_IndexFunc_impl_Node_impl_Node_w_impl_Cluster_sealsKept_c1 fu) 0 lc_slices_IndexFunc_impl_Node_impl_Node_w_impl_Cluster_sealsKept_c1_0) fuel s k = some r :=
  handle_ok (ps := ps_slices_IndexFunc_impl_Node_impl_Node_w_impl_Cluster_sealsKept_c1_0) (os := os_slices_IndexFunc_impl_Node_impl_Node_w_impl_Cluster_sealsKept_c1_0) (conv := conv_slices_IndexFunc_impl_Node_impl_Node_w_impl_Cluster_sealsKept_c1_0) (B := Bk_slices_IndexFunc_impl_Node_impl_Node_w_impl_Cluster_sealsKept_c1_0 fu) (fu := fu) back_slices_IndexFunc_impl_Node_impl_Node_w_impl_Cluster_sealsKept_c1_0 (fun raw => by kernel_rfl) 0 (fun c w => by kernel_rfl) (round_slices_IndexFunc_impl_Node_impl_Node_w_impl_Cluster_sealsKept_c1_0 fu)
theorem lpok_slices_IndexFunc_impl_Node_impl_Node_w_impl_Cluster_sealsKept_c1 (fu : Nat) : LpOk E (pc_slices_IndexFunc_impl_Node_impl_Node_w_impl_Cluster_sealsKept_c1 fu) msk_slices_IndexFunc_impl_Node_impl_Node_w_impl_Cluster_sealsKept_c1 (lp_slices_IndexFunc_impl_Node_impl_Node_w_impl_Cluster_sealsKept_c1 fu) (loops 0 body_slices_IndexFunc_impl_Node_impl_Node_w_impl_Cluster_sealsKept_c1) := loop_all 1 (by kernel_rfl) fun i hi => match i, hi with
  | 0, _ => by
    have h : (loops 0 body_slices_IndexFunc_impl_Node_impl_Node_w_impl_Cluster_sealsKept_c1).getD 0 (0, .skip) = (0, lc_slices_IndexFunc_impl_Node_impl_Node_w_impl_Cluster_sealsKept_c1_0) := by kernel_rfl
    rw [h]; exact lpok_slices_IndexFunc_impl_Node_impl_Node_w_impl_Cluster_sealsKept_c1_0 fu
  | i + 1, hi => absurd hi (by omega)
def S_slices_IndexFunc_impl_Node_impl_Node_w_impl_Cluster_sealsKept_c1 (fu : Nat) (xs : List (D RT den)) : Option (Out RT den) := match xs with | [.rs za0_0 .impl_Node na0_0 fa0_0, .fn 78 [.rptr [.rs za1_0 .impl_Entry na1_0 fa1_0]]] => some ⟨Int, F_slices_IndexFunc_impl_Node_impl_Node_w_impl_Cluster_sealsKept_c1 fu (⟨za0_0, na0_0, fa0_0⟩ : (Sl S_impl_Node)) (⟨za1_0, na1_0, fa1_0⟩ : (Sl S_impl_Entry)), enc_i64, fun _ => true⟩ | _ => none
theorem hpc_slices_IndexFunc_impl_Node_impl_Node_w_impl_Cluster_sealsKept_c1 (fu : Nat) : ∀ f xs o, pc_slices_IndexFunc_impl_Node_impl_Node_w_impl_Cluster_sealsKept_c1 fu f xs = some o → ∀ y, o.x = some y → Good E Try.prog f xs (o.g y) := by
  intro f xs o h
  unfold pc_slices_IndexFunc_impl_Node_impl_Node_w_impl_Cluster_sealsKept_c1 at h
  split at h
  · exact good_impl_Cluster_sealsKept_c1 fu xs o h
  · cases h
theorem goodv_slices_IndexFunc_impl_Node_impl_Node_w_impl_Cluster_sealsKept_c1 (fu : Nat) (s_0 : (Sl S_impl_Node)) (f_1_1 : (Sl S_impl_Entry)) (y : Int) (hy : F_slices_IndexFunc_impl_Node_impl_Node_w_impl_Cluster_sealsKept_c1 fu s_0 f_1_1 = some y) : Good E Try.prog 103 [(.rs s_0.z .impl_Node s_0.n s_0.f), (.fn 78 [(.rptr [(.rs f_1_1.z .impl_Entry f_1_1.n f_1_1.f)])])] (enc_i64 y) :=
  fun_good E_ok (pc_good (hpc_slices_IndexFunc_impl_Node_impl_Node_w_impl_Cluster_sealsKept_c1 fu)) (fn := Try.f103) (c := body_slices_IndexFunc_impl_Node_impl_Node_w_impl_Cluster_sealsKept_c1) (out := out_i64) (y := y) (by kernel_rfl) (by kernel_rfl) (by kernel_rfl) (lpok_slices_IndexFunc_impl_Node_impl_Node_w_impl_Cluster_sealsKept_c1 fu) (fun d hd => out_i64_enc d _ hd) ((ev_slices_IndexFunc_impl_Node_impl_Node_w_impl_Cluster_sealsKept_c1 fu s_0 f_1_1).trans hy)
theorem good_slices_IndexFunc_impl_Node_impl_Node_w_impl_Cluster_sealsKept_c1 (fu : Nat) : ∀ xs o, S_slices_IndexFunc_impl_Node_impl_Node_w_impl_Cluster_sealsKept_c1 fu xs = some o → ∀ y, o.x = some y → Good E Try.prog 103 xs (o.g y) := by
  intro xs o h y hy
  unfold S_slices_IndexFunc_impl_Node_impl_Node_w_impl_Cluster_sealsKept_c1 at h
  split at h
  · rename_i za0_0 na0_0 fa0_0 za1_0 na1_0 fa1_0
    cases h
    exact goodv_slices_IndexFunc_impl_Node_impl_Node_w_impl_Cluster_sealsKept_c1 fu (⟨za0_0, na0_0, fa0_0⟩ : (Sl S_impl_Node)) (⟨za1_0, na1_0, fa1_0⟩ : (Sl S_impl_Entry)) y hy
  · cases h

/-! slices.ContainsFunc[[]impl.Node,impl.Node] -/
def F_slices_ContainsFunc_impl_Node_impl_Node_w_impl_Cluster_sealsKept_c1 (fu : Nat) (s_0 : (Sl S_impl_Node)) (f_1_1 : (Sl S_impl_Entry)) : Option (Bool) :=
  ((F_slices_IndexFunc_impl_Node_impl_Node_w_impl_Cluster_sealsKept_c1 fu s_0 f_1_1).bind fun y423 => (some (decide (y423 ≥ 0))))
def pc_slices_ContainsFunc_impl_Node_impl_Node_w_impl_Cluster_sealsKept_c1 (fu : Nat) : Pc RT den := fun f xs => match f with | 103 => S_slices_IndexFunc_impl_Node_impl_Node_w_impl_Cluster_sealsKept_c1 fu xs | _ => none
def msk_slices_ContainsFunc_impl_Node_impl_Node_w_impl_Cluster_sealsKept_c1 (b : Nat) : List Nat := []
def lp_slices_ContainsFunc_impl_Node_impl_Node_w_impl_Cluster_sealsKept_c1 (fu : Nat) : Lp RT den (Bool) := fun b s k => none
theorem ev_slices_ContainsFunc_impl_Node_impl_Node_w_impl_Cluster_sealsKept_c1 (fu : Nat) (s_0 : (Sl S_impl_Node)) (f_1_1 : (Sl S_impl_Entry)) : evFun E (pc_slices_ContainsFunc_impl_Node_impl_Node_w_impl_Cluster_sealsKept_c1 fu) msk_slices_ContainsFunc_impl_Node_impl_Node_w_impl_Cluster_sealsKept_c1 (lp_slices_ContainsFunc_impl_Node_impl_Node_w_impl_Cluster_sealsKept_c1 fu) out_bo 77 [(.rs s_0.z .impl_Node s_0.n s_0.f), (.fn 78 [(.rptr [(.rs f_1_1.z .impl_Entry f_1_1.n f_1_1.f)])])] = F_slices_ContainsFunc_impl_Node_impl_Node_w_impl_Cluster_sealsKept_c1 fu s_0 f_1_1 := by kernel_rfl
noncomputable def body_slices_ContainsFunc_impl_Node_impl_Node_w_impl_Cluster_sealsKept_c1 : Code := Try.f77.body.getD .skip
theorem lpok_slices_ContainsFunc_impl_Node_impl_Node_w_impl_Cluster_sealsKept_c1 (fu : Nat) : LpOk E (pc_slices_ContainsFunc_impl_Node_impl_Node_w_impl_Cluster_sealsKept_c1 fu) msk_slices_ContainsFunc_impl_Node_impl_Node_w_impl_Cluster_sealsKept_c1 (lp_slices_ContainsFunc_impl_Node_impl_Node_w_impl_Cluster_sealsKept_c1 fu) (loops 0 body_slices_ContainsFunc_impl_Node_impl_Node_w_impl_Cluster_sealsKept_c1) := by
  have h : loops 0 body_slices_ContainsFunc_impl_Node_impl_Node_w_impl_Cluster_sealsKept_c1 = [] := by kernel_rfl
  rw [h]; intro p hp; cases hp
def S_slices_ContainsFunc_impl_Node_impl_Node_w_impl_Cluster_sealsKept_c1 (fu : Nat) (xs : List (D RT den)) : Option (Out RT den) := match xs with | [.rs za0_0 .impl_Node na0_0 fa0_0, .fn 78 [.rptr [.rs za1_0 .impl_Entry na1_0 fa1_0]]] => some ⟨Bool, F_slices_ContainsFunc_impl_Node_impl_Node_w_impl_Cluster_sealsKept_c1 fu (⟨za0_0, na0_0, fa0_0⟩ : (Sl S_impl_Node)) (⟨za1_0, na1_0, fa1_0⟩ : (Sl S_impl_Entry)), enc_bo, fun _ => true⟩ | _ => none
theorem hpc_slices_ContainsFunc_impl_Node_impl_Node_w_impl_Cluster_sealsKept_c1 (fu : Nat) : ∀ f xs o, pc_slices_ContainsFunc_impl_Node_impl_Node_w_impl_Cluster_sealsKept_c1 fu f xs = some o → ∀ y, o.x = some y → Good E Try.prog f xs (o.g y) := by
  intro f xs o h
  unfold pc_slices_ContainsFunc_impl_Node_impl_Node_w_impl_Cluster_sealsKept_c1 at h
  split at h
  · exact good_slices_IndexFunc_impl_Node_impl_Node_w_impl_Cluster_sealsKept_c1 fu xs o h
  · cases h
theorem goodv_slices_ContainsFunc_impl_Node_impl_Node_w_impl_Cluster_sealsKept_c1 (fu : Nat) (s_0 : (Sl S_impl_Node)) (f_1_1 : (Sl S_impl_Entry)) (y : Bool) (hy : F_slices_ContainsFunc_impl_Node_impl_Node_w_impl_Cluster_sealsKept_c1 fu s_0 f_1_1 = some y) : Good E Try.prog 77 [(.rs s_0.z .impl_Node s_0.n s_0.f), (.fn 78 [(.rptr [(.rs f_1_1.z .impl_Entry f_1_1.n f_1_1.f)])])] (enc_bo y) :=
  fun_good E_ok (pc_good (hpc_slices_ContainsFunc_impl_Node_impl_Node_w_impl_Cluster_sealsKept_c1 fu)) (fn := Try.f77) (c := body_slices_ContainsFunc_impl_Node_impl_Node_w_impl_Cluster_sealsKept_c1) (out := out_bo) (y := y) (by kernel_rfl) (by kernel_rfl) (by kernel_rfl) (lpok_slices_ContainsFunc_impl_Node_impl_Node_w_impl_Cluster_sealsKept_c1 fu) (fun d hd => out_bo_enc d _ hd) ((ev_slices_ContainsFunc_impl_Node_impl_Node_w_impl_Cluster_sealsKept_c1 fu s_0 f_1_1).trans hy)
theorem good_slices_ContainsFunc_impl_Node_impl_Node_w_impl_Cluster_sealsKept_c1 (fu : Nat) : ∀ xs o, S_slices_ContainsFunc_impl_Node_impl_Node_w_impl_Cluster_sealsKept_c1 fu xs = some o → ∀ y, o.x = some y → Good E Try.prog 77 xs (o.g y) := by
  intro xs o h y hy
  unfold S_slices_ContainsFunc_impl_Node_impl_Node_w_impl_Cluster_sealsKept_c1 at h
  split at h
  · rename_i za0_0 na0_0 fa0_0 za1_0 na1_0 fa1_0
    cases h
    exact goodv_slices_ContainsFunc_impl_Node_impl_Node_w_impl_Cluster_sealsKept_c1 fu (⟨za0_0, na0_0, fa0_0⟩ : (Sl S_impl_Node)) (⟨za1_0, na1_0, fa1_0⟩ : (Sl S_impl_Entry)) y hy
  · cases h

/-! (*impl.Cluster).sealsKept -/
def F_impl_Cluster_sealsKept (fu : Nat) (c_0 : S_impl_Cluster) : Option (Bool) :=
  ((F_impl_Cluster_sealed fu c_0).bind fun y418 => ((F_slices_ContainsFunc_impl_Node_impl_Node_w_impl_Cluster_sealsKept_c1 fu c_0.Nodes y418).bind fun y419 => (some (!y419))))
def pc_impl_Cluster_sealsKept (fu : Nat) : Pc RT den := fun f xs => match f with | 45 => S_impl_Cluster_sealed fu xs | 77 => S_slices_ContainsFunc_impl_Node_impl_Node_w_impl_Cluster_sealsKept_c1 fu xs | _ => none
def msk_impl_Cluster_sealsKept (b : Nat) : List Nat := []
def lp_impl_Cluster_sealsKept (fu : Nat) : Lp RT den (Bool) := fun b s k => none
theorem ev_impl_Cluster_sealsKept (fu : Nat) (c_0 : S_impl_Cluster) : evFun E (pc_impl_Cluster_sealsKept fu) msk_impl_Cluster_sealsKept (lp_impl_Cluster_sealsKept fu) out_bo 39 [(.rptr [(.rs c_0.Nodes.z .impl_Node c_0.Nodes.n c_0.Nodes.f), (.rs c_0.Mails.z .impl_Mail c_0.Mails.n c_0.Mails.f), (.rs c_0.Wins.z .impl_Won c_0.Wins.n c_0.Wins.f), (.rs c_0.Seals.z .impl_Seal c_0.Seals.n c_0.Seals.f)])] = F_impl_Cluster_sealsKept fu c_0 := by kernel_rfl
noncomputable def body_impl_Cluster_sealsKept : Code := Try.f39.body.getD .skip
theorem lpok_impl_Cluster_sealsKept (fu : Nat) : LpOk E (pc_impl_Cluster_sealsKept fu) msk_impl_Cluster_sealsKept (lp_impl_Cluster_sealsKept fu) (loops 0 body_impl_Cluster_sealsKept) := by
  have h : loops 0 body_impl_Cluster_sealsKept = [] := by kernel_rfl
  rw [h]; intro p hp; cases hp
def S_impl_Cluster_sealsKept (fu : Nat) (xs : List (D RT den)) : Option (Out RT den) := match xs with | [.rptr (.rs za0_1 .impl_Node na0_1 fa0_1 :: .rs za0_2 .impl_Mail na0_2 fa0_2 :: .rs za0_3 .impl_Won na0_3 fa0_3 :: .rs za0_4 .impl_Seal na0_4 fa0_4 :: ra0)] => some ⟨Bool, F_impl_Cluster_sealsKept fu (⟨(⟨za0_1, na0_1, fa0_1⟩ : (Sl S_impl_Node)), (⟨za0_2, na0_2, fa0_2⟩ : (Sl S_impl_Mail)), (⟨za0_3, na0_3, fa0_3⟩ : (Sl S_impl_Won)), (⟨za0_4, na0_4, fa0_4⟩ : (Sl S_impl_Seal))⟩ : S_impl_Cluster), enc_bo, fun _ => true⟩ | _ => none
theorem hpc_impl_Cluster_sealsKept (fu : Nat) : ∀ f xs o, pc_impl_Cluster_sealsKept fu f xs = some o → ∀ y, o.x = some y → Good E Try.prog f xs (o.g y) := by
  intro f xs o h
  unfold pc_impl_Cluster_sealsKept at h
  split at h
  · exact good_impl_Cluster_sealed fu xs o h
  · exact good_slices_ContainsFunc_impl_Node_impl_Node_w_impl_Cluster_sealsKept_c1 fu xs o h
  · cases h
theorem goodv_impl_Cluster_sealsKept (fu : Nat) (c_0 : S_impl_Cluster) (y : Bool) (hy : F_impl_Cluster_sealsKept fu c_0 = some y) : Good E Try.prog 39 [(.rptr [(.rs c_0.Nodes.z .impl_Node c_0.Nodes.n c_0.Nodes.f), (.rs c_0.Mails.z .impl_Mail c_0.Mails.n c_0.Mails.f), (.rs c_0.Wins.z .impl_Won c_0.Wins.n c_0.Wins.f), (.rs c_0.Seals.z .impl_Seal c_0.Seals.n c_0.Seals.f)])] (enc_bo y) :=
  fun_good E_ok (pc_good (hpc_impl_Cluster_sealsKept fu)) (fn := Try.f39) (c := body_impl_Cluster_sealsKept) (out := out_bo) (y := y) (by kernel_rfl) (by kernel_rfl) (by kernel_rfl) (lpok_impl_Cluster_sealsKept fu) (fun d hd => out_bo_enc d _ hd) ((ev_impl_Cluster_sealsKept fu c_0).trans hy)
theorem good_impl_Cluster_sealsKept (fu : Nat) : ∀ xs o, S_impl_Cluster_sealsKept fu xs = some o → ∀ y, o.x = some y → Good E Try.prog 39 xs (o.g y) := by
  intro xs o h y hy
  unfold S_impl_Cluster_sealsKept at h
  split at h
  · rename_i za0_1 na0_1 fa0_1 za0_2 na0_2 fa0_2 za0_3 na0_3 fa0_3 za0_4 na0_4 fa0_4 ra0
    cases h
    exact (goodv_impl_Cluster_sealsKept fu (⟨(⟨za0_1, na0_1, fa0_1⟩ : (Sl S_impl_Node)), (⟨za0_2, na0_2, fa0_2⟩ : (Sl S_impl_Mail)), (⟨za0_3, na0_3, fa0_3⟩ : (Sl S_impl_Won)), (⟨za0_4, na0_4, fa0_4⟩ : (Sl S_impl_Seal))⟩ : S_impl_Cluster) y hy).sub ⟨Sub.of_eq ra0 rfl, trivial⟩
  · cases h

/-! impl.SealsKept -/
def F_impl_SealsKept (fu : Nat) (c_0 : S_impl_Cluster) : Option (Bool) :=
  ((((F_impl_ClusterFault fu c_0).bind fun y415 => (bif (y415 == 0) then ((F_impl_Cluster_sealsKept fu c_0).bind fun y416 => (some y416)) else (some false))) : Option Bool).bind fun m417 =>
    (some m417))
def pc_impl_SealsKept (fu : Nat) : Pc RT den := fun f xs => match f with | 32 => S_impl_ClusterFault fu xs | 39 => S_impl_Cluster_sealsKept fu xs | _ => none
def msk_impl_SealsKept (b : Nat) : List Nat := match b with | 200001 => [2] | _ => []
def lp_impl_SealsKept (fu : Nat) : Lp RT den (Bool) := fun b s k => none
theorem ev_impl_SealsKept (fu : Nat) (c_0 : S_impl_Cluster) : evFun E (pc_impl_SealsKept fu) msk_impl_SealsKept (lp_impl_SealsKept fu) out_bo 13 [(.agg [(.rs c_0.Nodes.z .impl_Node c_0.Nodes.n c_0.Nodes.f), (.rs c_0.Mails.z .impl_Mail c_0.Mails.n c_0.Mails.f), (.rs c_0.Wins.z .impl_Won c_0.Wins.n c_0.Wins.f), (.rs c_0.Seals.z .impl_Seal c_0.Seals.n c_0.Seals.f)])] = F_impl_SealsKept fu c_0 := by kernel_rfl
noncomputable def body_impl_SealsKept : Code := Try.f13.body.getD .skip
theorem lpok_impl_SealsKept (fu : Nat) : LpOk E (pc_impl_SealsKept fu) msk_impl_SealsKept (lp_impl_SealsKept fu) (loops 0 body_impl_SealsKept) := by
  have h : loops 0 body_impl_SealsKept = [] := by kernel_rfl
  rw [h]; intro p hp; cases hp
def S_impl_SealsKept (fu : Nat) (xs : List (D RT den)) : Option (Out RT den) := match xs with | [.agg [.rs za0_1 .impl_Node na0_1 fa0_1, .rs za0_2 .impl_Mail na0_2 fa0_2, .rs za0_3 .impl_Won na0_3 fa0_3, .rs za0_4 .impl_Seal na0_4 fa0_4]] => some ⟨Bool, F_impl_SealsKept fu (⟨(⟨za0_1, na0_1, fa0_1⟩ : (Sl S_impl_Node)), (⟨za0_2, na0_2, fa0_2⟩ : (Sl S_impl_Mail)), (⟨za0_3, na0_3, fa0_3⟩ : (Sl S_impl_Won)), (⟨za0_4, na0_4, fa0_4⟩ : (Sl S_impl_Seal))⟩ : S_impl_Cluster), enc_bo, fun _ => true⟩ | _ => none
theorem hpc_impl_SealsKept (fu : Nat) : ∀ f xs o, pc_impl_SealsKept fu f xs = some o → ∀ y, o.x = some y → Good E Try.prog f xs (o.g y) := by
  intro f xs o h
  unfold pc_impl_SealsKept at h
  split at h
  · exact good_impl_ClusterFault fu xs o h
  · exact good_impl_Cluster_sealsKept fu xs o h
  · cases h
theorem goodv_impl_SealsKept (fu : Nat) (c_0 : S_impl_Cluster) (y : Bool) (hy : F_impl_SealsKept fu c_0 = some y) : Good E Try.prog 13 [(.agg [(.rs c_0.Nodes.z .impl_Node c_0.Nodes.n c_0.Nodes.f), (.rs c_0.Mails.z .impl_Mail c_0.Mails.n c_0.Mails.f), (.rs c_0.Wins.z .impl_Won c_0.Wins.n c_0.Wins.f), (.rs c_0.Seals.z .impl_Seal c_0.Seals.n c_0.Seals.f)])] (enc_bo y) :=
  fun_good E_ok (pc_good (hpc_impl_SealsKept fu)) (fn := Try.f13) (c := body_impl_SealsKept) (out := out_bo) (y := y) (by kernel_rfl) (by kernel_rfl) (by kernel_rfl) (lpok_impl_SealsKept fu) (fun d hd => out_bo_enc d _ hd) ((ev_impl_SealsKept fu c_0).trans hy)
theorem good_impl_SealsKept (fu : Nat) : ∀ xs o, S_impl_SealsKept fu xs = some o → ∀ y, o.x = some y → Good E Try.prog 13 xs (o.g y) := by
  intro xs o h y hy
  unfold S_impl_SealsKept at h
  split at h
  · rename_i za0_1 na0_1 fa0_1 za0_2 na0_2 fa0_2 za0_3 na0_3 fa0_3 za0_4 na0_4 fa0_4
    cases h
    exact goodv_impl_SealsKept fu (⟨(⟨za0_1, na0_1, fa0_1⟩ : (Sl S_impl_Node)), (⟨za0_2, na0_2, fa0_2⟩ : (Sl S_impl_Mail)), (⟨za0_3, na0_3, fa0_3⟩ : (Sl S_impl_Won)), (⟨za0_4, na0_4, fa0_4⟩ : (Sl S_impl_Seal))⟩ : S_impl_Cluster) y hy
  · cases h
end Go.Proofs.Ytnfippmeficfjaa.Pc
