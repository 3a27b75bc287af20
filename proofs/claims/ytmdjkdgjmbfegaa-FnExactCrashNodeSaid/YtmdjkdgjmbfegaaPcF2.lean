/- The functions' evaluated forms, each a proved summary. Conditions: none. -/
import Derived.Test.YtmdjkdgjmbfegaaPcF1
namespace Go.Proofs.Ytmdjkdgjmbfegaa.Pc
open Go Go.RowKit Go.Proofs Vm
set_option linter.unusedVariables false
set_option linter.unusedSimpArgs false
set_option maxRecDepth 100000
/-! laws.eqEntryS -/
def F_laws_eqEntryS_B0 {ρ : Type} (fu : Nat) (a0_0 : (Sl S_impl_Entry)) (b1_1 : (Sl S_impl_Entry)) (k0 : Option ρ) (k1 : Option ρ) (i5_2 : Int) (go : Int → Option ρ) : Option ρ :=
  (bif (decide (i5_2 < ((a0_0.n : Nat) : Int))) then ((bif (decide (0 ≤ i5_2) && decide ((Int.toNat i5_2) < a0_0.n)) then some () else none : Option Unit).bind fun _ => ((bif (decide (0 ≤ i5_2) &&
    decide ((Int.toNat i5_2) < b1_1.n)) then some () else none : Option Unit).bind fun _ => ((F_laws_eqEntry fu (a0_0.f (Int.toNat i5_2)) (b1_1.f (Int.toNat i5_2))).bind fun y185 =>
    (bif (!y185) then k0 else (go (IntKind.wrap .i64 (i5_2 + 1))))))) else k1)
def F_laws_eqEntryS (fu : Nat) (a_0 : (Sl S_impl_Entry)) (b_1 : (Sl S_impl_Entry)) : Option (Bool) :=
  (bif (((a_0.n : Nat) : Int) != ((b_1.n : Nat) : Int)) then (some false) else (L (fun w0 go0 => F_laws_eqEntryS_B0 fu a_0 b_1 (some false) (some true) w0 go0) fu (0 : Int)))
def pcf_laws_eqEntryS (fu : Nat) (f : Nat) (xs : List (D RT den)) : Option (Out RT den) := match f with | 47 => S_laws_eqEntry fu xs | _ => none
def pcx_laws_eqEntryS (fu : Nat) (f : Nat) (xs : List (D RT den)) (ins : List (Ob RT den)) : Option (OutX RT den) := none
def pc_laws_eqEntryS (fu : Nat) : Pc RT den := ⟨pcf_laws_eqEntryS fu, fun _ => false, fun _ => false, pcx_laws_eqEntryS fu⟩
def msk_laws_eqEntryS (b : Nat) : List Nat := match b with | 0 => [2, 3, 4, 6, 7, 8, 9, 10, 11, 12, 13, 14, 15, 16, 17, 18, 19, 20, 21, 22, 23, 24, 25, 26] | 100000 => [0, 1, 2, 3, 5, 6, 7, 8, 9, 10, 11, 12, 13, 14, 15, 16, 17, 18, 19, 20, 21, 22, 23, 24, 25, 26] | _ => []
def ps_laws_eqEntryS_0 : List (Pat RT) := [.flat (.rs .impl_Entry), .flat (.rs .impl_Entry), .flat .dead, .flat .dead, .flat .dead, .flat (.int .i64), .flat .dead, .flat .dead, .flat .dead, .flat .dead, .flat .dead, .flat .dead, .flat .dead, .flat .dead, .flat .dead, .flat .dead, .flat .dead, .flat .dead, .flat .dead, .flat .dead, .flat .dead, .flat .dead, .flat .dead, .flat .dead, .flat .dead, .flat .dead, .flat .dead]
def os_laws_eqEntryS_0 : List (OP RT) := []
def conv_laws_eqEntryS_0 (r : Raw den ps_laws_eqEntryS_0 os_laws_eqEntryS_0) : ((Sl S_impl_Entry) × (Sl S_impl_Entry)) × (Int) := ((r.1.1, r.1.2.1), r.1.2.2.2.2.2.1)
def back_laws_eqEntryS_0 (c : (Sl S_impl_Entry) × (Sl S_impl_Entry)) (w : Int) : St RT den := ⟨[(.rs c.1.z .impl_Entry c.1.n c.1.f), (.rs c.2.z .impl_Entry c.2.n c.2.f), .dead, .dead, .dead, (.int .i64 w), .dead, .dead, .dead, .dead, .dead, .dead, .dead, .dead, .dead, .dead, .dead, .dead, .dead, .dead, .dead, .dead, .dead, .dead, .dead, .dead, .dead], []⟩
def Bk_laws_eqEntryS_0 {ρ : Type} (fu : Nat) (c : (Sl S_impl_Entry) × (Sl S_impl_Entry)) (k : Ex → St RT den → Option ρ) (w : Int) (go : (Int) → Option ρ) : Option ρ := F_laws_eqEntryS_B0 fu c.1 c.2 (k .ret ⟨[.dead, .dead, .dead, .dead, (.bool false), .dead, .dead, .dead, .dead, .dead, .dead, .dead, .dead, .dead, .dead, .dead, .dead, .dead, .dead, .dead, .dead, .dead, .dead, .dead, .dead, .dead, .dead], []⟩) (k (.exit 0) ⟨[.dead, .dead, .dead, .dead, .dead, .dead, .dead, .dead, .dead, .dead, .dead, .dead, .dead, .dead, .dead, .dead, .dead, .dead, .dead, .dead, .dead, .dead, .dead, .dead, .dead, .dead, .dead], []⟩) w go
def lp_laws_eqEntryS (fu : Nat) : Lp RT den (Bool) := fun b s k => match b with | 0 => handle ps_laws_eqEntryS_0 os_laws_eqEntryS_0 conv_laws_eqEntryS_0 (Bk_laws_eqEntryS_0 fu) fu s k | _ => none
theorem ev_laws_eqEntryS (fu : Nat) (a_0 : (Sl S_impl_Entry)) (b_1 : (Sl S_impl_Entry)) : evFun E (pc_laws_eqEntryS fu) msk_laws_eqEntryS (lp_laws_eqEntryS fu) out_bo 13 [(.rs a_0.z .impl_Entry a_0.n a_0.f), (.rs b_1.z .impl_Entry b_1.n b_1.f)] = F_laws_eqEntryS fu a_0 b_1 := by kernel_rfl
noncomputable def body_laws_eqEntryS : Code := Try.f13.body.getD .skip
noncomputable def lc_laws_eqEntryS_0 : Code := ((loops 0 body_laws_eqEntryS).getD 0 (0, .skip)).2
theorem round_laws_eqEntryS_0 (fu : Nat) (it : St RT den → Option (Bool)) (k : Ex → St RT den → Option (Bool)) c w : evCode E (pc_laws_eqEntryS fu) msk_laws_eqEntryS (lp_laws_eqEntryS fu) 0 lc_laws_eqEntryS_0 (back_laws_eqEntryS_0 c w) (after (msk_laws_eqEntryS 0) (msk_laws_eqEntryS 100000) 0 it k) = Bk_laws_eqEntryS_0 fu c k w (fun w => it (back_laws_eqEntryS_0 c w)) := by kernel_rfl
theorem lpok_laws_eqEntryS_0 (fu : Nat) : ∀ s k r, lp_laws_eqEntryS fu 0 s k = some r → ∃ fuel, iter (msk_laws_eqEntryS 0) (msk_laws_eqEntryS 100000) s.objs.length (evCode E (pc_laws_eqEntryS fu) msk_laws_eqEntryS (lp_laws_eqEntryS fu) 0 lc_laws_eqEntryS_0) fuel s k = some r :=
  handle_ok (ps := ps_laws_eqEntryS_0) (os := os_laws_eqEntryS_0) (conv := conv_laws_eqEntryS_0) (B := Bk_laws_eqEntryS_0 fu) (fu := fu) back_laws_eqEntryS_0 (fun raw => by kernel_rfl) 0 (fun c w => by kernel_rfl) (round_laws_eqEntryS_0 fu)
theorem lpok_laws_eqEntryS (fu : Nat) : LpOk E (pc_laws_eqEntryS fu) msk_laws_eqEntryS (lp_laws_eqEntryS fu) (loops 0 body_laws_eqEntryS) := loop_all 1 (by kernel_rfl) fun i hi => match i, hi with
  | 0, _ => by
    have h : (loops 0 body_laws_eqEntryS).getD 0 (0, .skip) = (0, lc_laws_eqEntryS_0) := by kernel_rfl
    rw [h]; exact lpok_laws_eqEntryS_0 fu
  | i + 1, hi => absurd hi (by omega)
def S_laws_eqEntryS (fu : Nat) (xs : List (D RT den)) : Option (Out RT den) := match xs with | [.rs za0_0 .impl_Entry na0_0 fa0_0, .rs za1_0 .impl_Entry na1_0 fa1_0] => some ⟨Bool, F_laws_eqEntryS fu (⟨za0_0, na0_0, fa0_0⟩ : (Sl S_impl_Entry)) (⟨za1_0, na1_0, fa1_0⟩ : (Sl S_impl_Entry)), enc_bo, fun _ => true⟩ | _ => none
theorem hpc_laws_eqEntryS (fu : Nat) : ∀ f xs o, pcf_laws_eqEntryS fu f xs = some o → ∀ y, o.x = some y → Good E Try.prog f xs (o.g y) := by
  intro f xs o h
  unfold pcf_laws_eqEntryS at h
  split at h
  · exact good_laws_eqEntry fu xs o h
  · cases h
theorem hpx_laws_eqEntryS (fu : Nat) : ∀ f xs ins o, pcx_laws_eqEntryS fu f xs ins = some o → ∀ y, o.x = some y → GoodX E Try.prog f xs ins (o.g y).1 (o.g y).2 := by
  intro f xs ins o h
  cases h
theorem goodv_laws_eqEntryS (fu : Nat) (a_0 : (Sl S_impl_Entry)) (b_1 : (Sl S_impl_Entry)) (y : Bool) (hy : F_laws_eqEntryS fu a_0 b_1 = some y) : Good E Try.prog 13 [(.rs a_0.z .impl_Entry a_0.n a_0.f), (.rs b_1.z .impl_Entry b_1.n b_1.f)] (enc_bo y) :=
  fun_good E_ok (pc_good (pc := pc_laws_eqEntryS fu) (hpc_laws_eqEntryS fu) (hpx_laws_eqEntryS fu)) (fn := Try.f13) (c := body_laws_eqEntryS) (out := out_bo) (y := y) (by kernel_rfl) (by kernel_rfl) (by kernel_rfl) (lpok_laws_eqEntryS fu) (fun d hd => out_bo_enc d _ hd) ((ev_laws_eqEntryS fu a_0 b_1).trans hy)
theorem good_laws_eqEntryS (fu : Nat) : ∀ xs o, S_laws_eqEntryS fu xs = some o → ∀ y, o.x = some y → Good E Try.prog 13 xs (o.g y) := by
  intro xs o h y hy
  unfold S_laws_eqEntryS at h
  split at h
  · rename_i za0_0 na0_0 fa0_0 za1_0 na1_0 fa1_0
    cases h
    exact goodv_laws_eqEntryS fu (⟨za0_0, na0_0, fa0_0⟩ : (Sl S_impl_Entry)) (⟨za1_0, na1_0, fa1_0⟩ : (Sl S_impl_Entry)) y hy
  · cases h

/-! laws.eqEntriesResult -/
def F_laws_eqEntriesResult (fu : Nat) (a_0 : S_impl_EntriesResult) (b_1 : S_impl_EntriesResult) : Option (Bool) :=
  (bif (a_0.Code != b_1.Code) then (some false) else ((F_laws_eqEntryS fu a_0.Entries b_1.Entries).bind fun y184 => (bif (!y184) then (some false) else (some true))))
def pcf_laws_eqEntriesResult (fu : Nat) (f : Nat) (xs : List (D RT den)) : Option (Out RT den) := match f with | 13 => S_laws_eqEntryS fu xs | _ => none
def pcx_laws_eqEntriesResult (fu : Nat) (f : Nat) (xs : List (D RT den)) (ins : List (Ob RT den)) : Option (OutX RT den) := none
def pc_laws_eqEntriesResult (fu : Nat) : Pc RT den := ⟨pcf_laws_eqEntriesResult fu, fun _ => false, fun _ => false, pcx_laws_eqEntriesResult fu⟩
def msk_laws_eqEntriesResult (b : Nat) : List Nat := []
def lp_laws_eqEntriesResult (fu : Nat) : Lp RT den (Bool) := fun b s k => none
theorem ev_laws_eqEntriesResult (fu : Nat) (a_0 : S_impl_EntriesResult) (b_1 : S_impl_EntriesResult) : evFun E (pc_laws_eqEntriesResult fu) msk_laws_eqEntriesResult (lp_laws_eqEntriesResult fu) out_bo 12 [(.agg [(.int .i64 a_0.Code), (.rs a_0.Entries.z .impl_Entry a_0.Entries.n a_0.Entries.f)]), (.agg [(.int .i64 b_1.Code), (.rs b_1.Entries.z .impl_Entry b_1.Entries.n b_1.Entries.f)])] = F_laws_eqEntriesResult fu a_0 b_1 := by kernel_rfl
noncomputable def body_laws_eqEntriesResult : Code := Try.f12.body.getD .skip
theorem lpok_laws_eqEntriesResult (fu : Nat) : LpOk E (pc_laws_eqEntriesResult fu) msk_laws_eqEntriesResult (lp_laws_eqEntriesResult fu) (loops 0 body_laws_eqEntriesResult) := by
  have h : loops 0 body_laws_eqEntriesResult = [] := by kernel_rfl
  rw [h]; intro p hp; cases hp
def S_laws_eqEntriesResult (fu : Nat) (xs : List (D RT den)) : Option (Out RT den) := match xs with | [.agg [.int .i64 a0_1, .rs za0_2 .impl_Entry na0_2 fa0_2], .agg [.int .i64 a1_1, .rs za1_2 .impl_Entry na1_2 fa1_2]] => some ⟨Bool, F_laws_eqEntriesResult fu (⟨a0_1, (⟨za0_2, na0_2, fa0_2⟩ : (Sl S_impl_Entry))⟩ : S_impl_EntriesResult) (⟨a1_1, (⟨za1_2, na1_2, fa1_2⟩ : (Sl S_impl_Entry))⟩ : S_impl_EntriesResult), enc_bo, fun _ => true⟩ | _ => none
theorem hpc_laws_eqEntriesResult (fu : Nat) : ∀ f xs o, pcf_laws_eqEntriesResult fu f xs = some o → ∀ y, o.x = some y → Good E Try.prog f xs (o.g y) := by
  intro f xs o h
  unfold pcf_laws_eqEntriesResult at h
  split at h
  · exact good_laws_eqEntryS fu xs o h
  · cases h
theorem hpx_laws_eqEntriesResult (fu : Nat) : ∀ f xs ins o, pcx_laws_eqEntriesResult fu f xs ins = some o → ∀ y, o.x = some y → GoodX E Try.prog f xs ins (o.g y).1 (o.g y).2 := by
  intro f xs ins o h
  cases h
theorem goodv_laws_eqEntriesResult (fu : Nat) (a_0 : S_impl_EntriesResult) (b_1 : S_impl_EntriesResult) (y : Bool) (hy : F_laws_eqEntriesResult fu a_0 b_1 = some y) : Good E Try.prog 12 [(.agg [(.int .i64 a_0.Code), (.rs a_0.Entries.z .impl_Entry a_0.Entries.n a_0.Entries.f)]), (.agg [(.int .i64 b_1.Code), (.rs b_1.Entries.z .impl_Entry b_1.Entries.n b_1.Entries.f)])] (enc_bo y) :=
  fun_good E_ok (pc_good (pc := pc_laws_eqEntriesResult fu) (hpc_laws_eqEntriesResult fu) (hpx_laws_eqEntriesResult fu)) (fn := Try.f12) (c := body_laws_eqEntriesResult) (out := out_bo) (y := y) (by kernel_rfl) (by kernel_rfl) (by kernel_rfl) (lpok_laws_eqEntriesResult fu) (fun d hd => out_bo_enc d _ hd) ((ev_laws_eqEntriesResult fu a_0 b_1).trans hy)
theorem good_laws_eqEntriesResult (fu : Nat) : ∀ xs o, S_laws_eqEntriesResult fu xs = some o → ∀ y, o.x = some y → Good E Try.prog 12 xs (o.g y) := by
  intro xs o h y hy
  unfold S_laws_eqEntriesResult at h
  split at h
  · rename_i a0_1 za0_2 na0_2 fa0_2 a1_1 za1_2 na1_2 fa1_2
    cases h
    exact goodv_laws_eqEntriesResult fu (⟨a0_1, (⟨za0_2, na0_2, fa0_2⟩ : (Sl S_impl_Entry))⟩ : S_impl_EntriesResult) (⟨a1_1, (⟨za1_2, na1_2, fa1_2⟩ : (Sl S_impl_Entry))⟩ : S_impl_EntriesResult) y hy
  · cases h

/-! laws.heldEntryS -/
def F_laws_heldEntryS_B0 {ρ : Type} (fu : Nat) (a0_0 : (Sl S_impl_Entry)) (k0 : Int → Option ρ) (k1 : Int → Option ρ) (k1_1 : Int) (i5_2 : Int) (go : Int → Int → Option ρ) : Option ρ :=
  (bif (decide (i5_2 < ((a0_0.n : Nat) : Int))) then ((bif (decide (0 ≤ i5_2) && decide ((Int.toNat i5_2) < a0_0.n)) then some () else none : Option Unit).bind fun _ => (bif ((a0_0.f (Int.toNat i5_2)).Term != k1_1) then
    (k0 k1_1) else ((bif (decide (0 ≤ i5_2) && decide ((Int.toNat i5_2) < a0_0.n)) then some () else none : Option Unit).bind fun _ => (bif ((a0_0.f (Int.toNat i5_2)).Client != (IntKind.wrap .i64 (k1_1 + 1))) then
    (k0 (IntKind.wrap .i64 (k1_1 + 1))) else ((bif (decide (0 ≤ i5_2) && decide ((Int.toNat i5_2) < a0_0.n)) then some () else none : Option Unit).bind fun _ => (bif ((a0_0.f (Int.toNat i5_2)).Seq != (IntKind.wrap .i64 ((IntKind.wrap .i64 (k1_1 + 1)) + 1))) then
    (k0 (IntKind.wrap .i64 ((IntKind.wrap .i64 (k1_1 + 1)) + 1))) else ((bif (decide (0 ≤ i5_2) && decide ((Int.toNat i5_2) < a0_0.n)) then some () else none : Option Unit).bind fun _ =>
    (bif ((a0_0.f (Int.toNat i5_2)).Cmd.Kind != (IntKind.wrap .i64 ((IntKind.wrap .i64 ((IntKind.wrap .i64 (k1_1 + 1)) + 1)) + 1))) then (k0 (IntKind.wrap .i64 ((IntKind.wrap .i64 ((IntKind.wrap .i64 (k1_1 + 1)) + 1)) + 1))) else
    ((bif (decide (0 ≤ i5_2) && decide ((Int.toNat i5_2) < a0_0.n)) then some () else none : Option Unit).bind fun _ => (bif ((a0_0.f (Int.toNat i5_2)).Cmd.Expect != (IntKind.wrap .i64 ((IntKind.wrap .i64 ((IntKind.wrap .i64 ((IntKind.wrap .i64 (k1_1 + 1)) + 1)) + 1)) + 1))) then
    (k0 (IntKind.wrap .i64 ((IntKind.wrap .i64 ((IntKind.wrap .i64 ((IntKind.wrap .i64 (k1_1 + 1)) + 1)) + 1)) + 1))) else ((bif (decide (0 ≤ i5_2) && decide ((Int.toNat i5_2) < a0_0.n)) then
    some () else none : Option Unit).bind fun _ => (bif ((a0_0.f (Int.toNat i5_2)).Cmd.Name != (IntKind.wrap .i64 ((IntKind.wrap .i64 ((IntKind.wrap .i64 ((IntKind.wrap .i64 ((IntKind.wrap .i64 (k1_1 + 1)) + 1)) + 1)) + 1)) + 1))) then
    (k0 (IntKind.wrap .i64 ((IntKind.wrap .i64 ((IntKind.wrap .i64 ((IntKind.wrap .i64 ((IntKind.wrap .i64 (k1_1 + 1)) + 1)) + 1)) + 1)) + 1))) else ((bif (decide (0 ≤ i5_2) &&
    decide ((Int.toNat i5_2) < a0_0.n)) then some () else none : Option Unit).bind fun _ => (bif ((a0_0.f (Int.toNat i5_2)).Cmd.Addr != (IntKind.wrap .i64 ((IntKind.wrap .i64 ((IntKind.wrap .i64 ((IntKind.wrap .i64 ((IntKind.wrap .i64 ((IntKind.wrap .i64 (k1_1 + 1)) + 1)) + 1)) + 1)) + 1)) + 1))) then
    (k0 (IntKind.wrap .i64 ((IntKind.wrap .i64 ((IntKind.wrap .i64 ((IntKind.wrap .i64 ((IntKind.wrap .i64 ((IntKind.wrap .i64 (k1_1 + 1)) + 1)) + 1)) + 1)) + 1)) + 1))) else ((bif (decide (0 ≤ i5_2) &&
    decide ((Int.toNat i5_2) < a0_0.n)) then some () else none : Option Unit).bind fun _ => (bif ((a0_0.f (Int.toNat i5_2)).Cmd.Number != (IntKind.wrap .i64 ((IntKind.wrap .i64 ((IntKind.wrap .i64 ((IntKind.wrap .i64 ((IntKind.wrap .i64 ((IntKind.wrap .i64 ((IntKind.wrap .i64 (k1_1 + 1)) + 1)) + 1)) + 1)) + 1)) + 1)) + 1))) then
    (k0 (IntKind.wrap .i64 ((IntKind.wrap .i64 ((IntKind.wrap .i64 ((IntKind.wrap .i64 ((IntKind.wrap .i64 ((IntKind.wrap .i64 ((IntKind.wrap .i64 (k1_1 + 1)) + 1)) + 1)) + 1)) + 1)) + 1)) + 1))) else
    ((bif (decide (0 ≤ i5_2) && decide ((Int.toNat i5_2) < a0_0.n)) then some () else none : Option Unit).bind fun _ => (bif ((a0_0.f (Int.toNat i5_2)).Cmd.Proto != (IntKind.wrap .i64 ((IntKind.wrap .i64 ((IntKind.wrap .i64 ((IntKind.wrap .i64 ((IntKind.wrap .i64 ((IntKind.wrap .i64 ((IntKind.wrap .i64 ((IntKind.wrap .i64 (k1_1 + 1)) + 1)) + 1)) + 1)) + 1)) + 1)) + 1)) + 1))) then
    (k0 (IntKind.wrap .i64 ((IntKind.wrap .i64 ((IntKind.wrap .i64 ((IntKind.wrap .i64 ((IntKind.wrap .i64 ((IntKind.wrap .i64 ((IntKind.wrap .i64 ((IntKind.wrap .i64 (k1_1 + 1)) + 1)) + 1)) + 1)) + 1)) + 1)) + 1)) + 1))) else
    (go (IntKind.wrap .i64 ((IntKind.wrap .i64 ((IntKind.wrap .i64 ((IntKind.wrap .i64 ((IntKind.wrap .i64 ((IntKind.wrap .i64 ((IntKind.wrap .i64 ((IntKind.wrap .i64 ((IntKind.wrap .i64 (k1_1 + 1)) + 1)) + 1)) + 1)) + 1)) + 1)) + 1)) + 1)) + 1)) (IntKind.wrap .i64 (i5_2 + 1))))))))))))))))))))) else
    (k1 k1_1))
def F_laws_heldEntryS (fu : Nat) (a_0 : (Sl S_impl_Entry)) (k_1 : Int) : Option (Int) :=
  (L (fun w0 go0 => F_laws_heldEntryS_B0 fu a_0 (fun z188 => (some (-1))) (fun z189 => (some z189)) w0.1 w0.2 (fun q0 q1 => go0 (q0, q1))) fu ((k_1, 0) : Int × Int))
def pcf_laws_heldEntryS (fu : Nat) (f : Nat) (xs : List (D RT den)) : Option (Out RT den) := none
def pcx_laws_heldEntryS (fu : Nat) (f : Nat) (xs : List (D RT den)) (ins : List (Ob RT den)) : Option (OutX RT den) := none
def pc_laws_heldEntryS (fu : Nat) : Pc RT den := ⟨pcf_laws_heldEntryS fu, fun _ => false, fun _ => false, pcx_laws_heldEntryS fu⟩
def msk_laws_heldEntryS (b : Nat) : List Nat := match b with | 0 => [2, 3, 4, 6, 7, 8, 9, 10, 11, 12, 13, 14, 15, 16, 17, 18, 19, 20, 21, 22, 23, 24, 25, 26, 27, 28, 29, 30, 31, 32, 33, 34, 35, 36, 37, 38, 39, 40, 41, 42, 43, 44, 45, 46, 47, 48, 49, 50, 51, 52, 53, 54, 55, 56, 57, 58, 59, 60, 61, 62, 63, 64, 65, 66, 67, 68, 69, 70, 71, 72, 73, 74, 75, 76, 77, 78, 79, 80, 81, 82, 83, 84, 85, 86, 87, 88, 89, 90, 91, 92, 93, 94, 95, 96, 97, 98, 99] | 100000 => [0, 2, 3, 5, 6, 7, 8, 9, 10, 11, 12, 13, 14, 15, 16, 17, 18, 19, 20, 21, 22, 23, 24, 25, 26, 27, 28, 29, 30, 31, 32, 33, 34, 35, 36, 37, 38, 39, 40, 41, 42, 43, 44, 45, 46, 47, 48, 49, 50, 51, 52, 53, 54, 55, 56, 57, 58, 59, 60, 61, 62, 63, 64, 65, 66, 67, 68, 69, 70, 71, 72, 73, 74, 75, 76, 77, 78, 79, 80, 81, 82, 83, 84, 85, 86, 87, 88, 89, 90, 91, 92, 93, 94, 95, 96, 97, 98, 99] | _ => []
def ps_laws_heldEntryS_0 : List (Pat RT) := [.flat (.rs .impl_Entry), .flat (.int .i64), .flat .dead, .flat .dead, .flat .dead, .flat (.int .i64), .flat .dead, .flat .dead, .flat .dead, .flat .dead, .flat .dead, .flat .dead, .flat .dead, .flat .dead, .flat .dead, .flat .dead, .flat .dead, .flat .dead, .flat .dead, .flat .dead, .flat .dead, .flat .dead, .flat .dead, .flat .dead, .flat .dead, .flat .dead, .flat .dead, .flat .dead, .flat .dead, .flat .dead, .flat .dead, .flat .dead, .flat .dead, .flat .dead, .flat .dead, .flat .dead, .flat .dead, .flat .dead, .flat .dead, .flat .dead, .flat .dead, .flat .dead, .flat .dead, .flat .dead, .flat .dead, .flat .dead, .flat .dead, .flat .dead, .flat .dead, .flat .dead, .flat .dead, .flat .dead, .flat .dead, .flat .dead, .flat .dead, .flat .dead, .flat .dead, .flat .dead, .flat .dead, .flat .dead, .flat .dead, .flat .dead, .flat .dead, .flat .dead, .flat .dead, .flat .dead, .flat .dead, .flat .dead, .flat .dead, .flat .dead, .flat .dead, .flat .dead, .flat .dead, .flat .dead, .flat .dead, .flat .dead, .flat .dead, .flat .dead, .flat .dead, .flat .dead, .flat .dead, .flat .dead, .flat .dead, .flat .dead, .flat .dead, .flat .dead, .flat .dead, .flat .dead, .flat .dead, .flat .dead, .flat .dead, .flat .dead, .flat .dead, .flat .dead, .flat .dead, .flat .dead, .flat .dead, .flat .dead, .flat .dead, .flat .dead]
def os_laws_heldEntryS_0 : List (OP RT) := []
def conv_laws_heldEntryS_0 (r : Raw den ps_laws_heldEntryS_0 os_laws_heldEntryS_0) : ((Sl S_impl_Entry)) × (Int × Int) := (r.1.1, (r.1.2.1, r.1.2.2.2.2.2.1))
def back_laws_heldEntryS_0 (c : (Sl S_impl_Entry)) (w : Int × Int) : St RT den := ⟨[(.rs c.z .impl_Entry c.n c.f), (.int .i64 w.1), .dead, .dead, .dead, (.int .i64 w.2), .dead, .dead, .dead, .dead, .dead, .dead, .dead, .dead, .dead, .dead, .dead, .dead, .dead, .dead, .dead, .dead, .dead, .dead, .dead, .dead, .dead, .dead, .dead, .dead, .dead, .dead, .dead, .dead, .dead, .dead, .dead, .dead, .dead, .dead, .dead, .dead, .dead, .dead, .dead, .dead, .dead, .dead, .dead, .dead, .dead, .dead, .dead, .dead, .dead, .dead, .dead, .dead, .dead, .dead, .dead, .dead, .dead, .dead, .dead, .dead, .dead, .dead, .dead, .dead, .dead, .dead, .dead, .dead, .dead, .dead, .dead, .dead, .dead, .dead, .dead, .dead, .dead, .dead, .dead, .dead, .dead, .dead, .dead, .dead, .dead, .dead, .dead, .dead, .dead, .dead, .dead, .dead, .dead, .dead], []⟩
def Bk_laws_heldEntryS_0 {ρ : Type} (fu : Nat) (c : (Sl S_impl_Entry)) (k : Ex → St RT den → Option ρ) (w : Int × Int) (go : (Int × Int) → Option ρ) : Option ρ := F_laws_heldEntryS_B0 fu c (fun a0 => k .ret ⟨[.dead, (.int .i64 a0), .dead, .dead, (.int .i64 (-1)), .dead, .dead, .dead, .dead, .dead, .dead, .dead, .dead, .dead, .dead, .dead, .dead, .dead, .dead, .dead, .dead, .dead, .dead, .dead, .dead, .dead, .dead, .dead, .dead, .dead, .dead, .dead, .dead, .dead, .dead, .dead, .dead, .dead, .dead, .dead, .dead, .dead, .dead, .dead, .dead, .dead, .dead, .dead, .dead, .dead, .dead, .dead, .dead, .dead, .dead, .dead, .dead, .dead, .dead, .dead, .dead, .dead, .dead, .dead, .dead, .dead, .dead, .dead, .dead, .dead, .dead, .dead, .dead, .dead, .dead, .dead, .dead, .dead, .dead, .dead, .dead, .dead, .dead, .dead, .dead, .dead, .dead, .dead, .dead, .dead, .dead, .dead, .dead, .dead, .dead, .dead, .dead, .dead, .dead, .dead], []⟩) (fun a0 => k (.exit 0) ⟨[.dead, (.int .i64 a0), .dead, .dead, .dead, .dead, .dead, .dead, .dead, .dead, .dead, .dead, .dead, .dead, .dead, .dead, .dead, .dead, .dead, .dead, .dead, .dead, .dead, .dead, .dead, .dead, .dead, .dead, .dead, .dead, .dead, .dead, .dead, .dead, .dead, .dead, .dead, .dead, .dead, .dead, .dead, .dead, .dead, .dead, .dead, .dead, .dead, .dead, .dead, .dead, .dead, .dead, .dead, .dead, .dead, .dead, .dead, .dead, .dead, .dead, .dead, .dead, .dead, .dead, .dead, .dead, .dead, .dead, .dead, .dead, .dead, .dead, .dead, .dead, .dead, .dead, .dead, .dead, .dead, .dead, .dead, .dead, .dead, .dead, .dead, .dead, .dead, .dead, .dead, .dead, .dead, .dead, .dead, .dead, .dead, .dead, .dead, .dead, .dead, .dead], []⟩) w.1 w.2 (fun q0 q1 => go (q0, q1))
def lp_laws_heldEntryS (fu : Nat) : Lp RT den (Int) := fun b s k => match b with | 0 => handle ps_laws_heldEntryS_0 os_laws_heldEntryS_0 conv_laws_heldEntryS_0 (Bk_laws_heldEntryS_0 fu) fu s k | _ => none
theorem ev_laws_heldEntryS (fu : Nat) (a_0 : (Sl S_impl_Entry)) (k_1 : Int) : evFun E (pc_laws_heldEntryS fu) msk_laws_heldEntryS (lp_laws_heldEntryS fu) out_i64 48 [(.rs a_0.z .impl_Entry a_0.n a_0.f), (.int .i64 k_1)] = F_laws_heldEntryS fu a_0 k_1 := by kernel_rfl
noncomputable def body_laws_heldEntryS : Code := Try.f48.body.getD .skip
noncomputable def lc_laws_heldEntryS_0 : Code := ((loops 0 body_laws_heldEntryS).getD 0 (0, .skip)).2
theorem round_laws_heldEntryS_0 (fu : Nat) (it : St RT den → Option (Int)) (k : Ex → St RT den → Option (Int)) c w : evCode E (pc_laws_heldEntryS fu) msk_laws_heldEntryS (lp_laws_heldEntryS fu) 0 lc_laws_heldEntryS_0 (back_laws_heldEntryS_0 c w) (after (msk_laws_heldEntryS 0) (msk_laws_heldEntryS 100000) 0 it k) = Bk_laws_heldEntryS_0 fu c k w (fun w => it (back_laws_heldEntryS_0 c w)) := by kernel_rfl
theorem lpok_laws_heldEntryS_0 (fu : Nat) : ∀ s k r, lp_laws_heldEntryS fu 0 s k = some r → ∃ fuel, iter (msk_laws_heldEntryS 0) (msk_laws_heldEntryS 100000) s.objs.length (evCode E (pc_laws_heldEntryS fu) msk_laws_heldEntryS (lp_laws_heldEntryS fu) 0 lc_laws_heldEntryS_0) fuel s k = some r :=
  handle_ok (ps := ps_laws_heldEntryS_0) (os := os_laws_heldEntryS_0) (conv := conv_laws_heldEntryS_0) (B := Bk_laws_heldEntryS_0 fu) (fu := fu) back_laws_heldEntryS_0 (fun raw => by kernel_rfl) 0 (fun c w => by kernel_rfl) (round_laws_heldEntryS_0 fu)
theorem lpok_laws_heldEntryS (fu : Nat) : LpOk E (pc_laws_heldEntryS fu) msk_laws_heldEntryS (lp_laws_heldEntryS fu) (loops 0 body_laws_heldEntryS) := loop_all 1 (by kernel_rfl) fun i hi => match i, hi with
  | 0, _ => by
    have h : (loops 0 body_laws_heldEntryS).getD 0 (0, .skip) = (0, lc_laws_heldEntryS_0) := by kernel_rfl
    rw [h]; exact lpok_laws_heldEntryS_0 fu
  | i + 1, hi => absurd hi (by omega)
def S_laws_heldEntryS (fu : Nat) (xs : List (D RT den)) : Option (Out RT den) := match xs with | [.rs za0_0 .impl_Entry na0_0 fa0_0, .int .i64 a1_0] => some ⟨Int, F_laws_heldEntryS fu (⟨za0_0, na0_0, fa0_0⟩ : (Sl S_impl_Entry)) a1_0, enc_i64, fun _ => true⟩ | _ => none
theorem hpc_laws_heldEntryS (fu : Nat) : ∀ f xs o, pcf_laws_heldEntryS fu f xs = some o → ∀ y, o.x = some y → Good E Try.prog f xs (o.g y) := by
  intro f xs o h
  cases h
theorem hpx_laws_heldEntryS (fu : Nat) : ∀ f xs ins o, pcx_laws_heldEntryS fu f xs ins = some o → ∀ y, o.x = some y → GoodX E Try.prog f xs ins (o.g y).1 (o.g y).2 := by
  intro f xs ins o h
  cases h
theorem goodv_laws_heldEntryS (fu : Nat) (a_0 : (Sl S_impl_Entry)) (k_1 : Int) (y : Int) (hy : F_laws_heldEntryS fu a_0 k_1 = some y) : Good E Try.prog 48 [(.rs a_0.z .impl_Entry a_0.n a_0.f), (.int .i64 k_1)] (enc_i64 y) :=
  fun_good E_ok (pc_good (pc := pc_laws_heldEntryS fu) (hpc_laws_heldEntryS fu) (hpx_laws_heldEntryS fu)) (fn := Try.f48) (c := body_laws_heldEntryS) (out := out_i64) (y := y) (by kernel_rfl) (by kernel_rfl) (by kernel_rfl) (lpok_laws_heldEntryS fu) (fun d hd => out_i64_enc d _ hd) ((ev_laws_heldEntryS fu a_0 k_1).trans hy)
theorem good_laws_heldEntryS (fu : Nat) : ∀ xs o, S_laws_heldEntryS fu xs = some o → ∀ y, o.x = some y → Good E Try.prog 48 xs (o.g y) := by
  intro xs o h y hy
  unfold S_laws_heldEntryS at h
  split at h
  · rename_i za0_0 na0_0 fa0_0 a1_0
    cases h
    exact goodv_laws_heldEntryS fu (⟨za0_0, na0_0, fa0_0⟩ : (Sl S_impl_Entry)) a1_0 y hy
  · cases h

/-! laws.heldEntriesResult -/
def F_laws_heldEntriesResult (fu : Nat) (a_0 : S_impl_EntriesResult) (k_1 : Int) : Option (Int) :=
  ((F_laws_heldEntryS fu a_0.Entries k_1).bind fun y187 => (bif (decide (y187 < 0)) then (some (-1)) else (some y187)))
def pcf_laws_heldEntriesResult (fu : Nat) (f : Nat) (xs : List (D RT den)) : Option (Out RT den) := match f with | 48 => S_laws_heldEntryS fu xs | _ => none
def pcx_laws_heldEntriesResult (fu : Nat) (f : Nat) (xs : List (D RT den)) (ins : List (Ob RT den)) : Option (OutX RT den) := none
def pc_laws_heldEntriesResult (fu : Nat) : Pc RT den := ⟨pcf_laws_heldEntriesResult fu, fun _ => false, fun _ => false, pcx_laws_heldEntriesResult fu⟩
def msk_laws_heldEntriesResult (b : Nat) : List Nat := []
def lp_laws_heldEntriesResult (fu : Nat) : Lp RT den (Int) := fun b s k => none
theorem ev_laws_heldEntriesResult (fu : Nat) (a_0 : S_impl_EntriesResult) (k_1 : Int) : evFun E (pc_laws_heldEntriesResult fu) msk_laws_heldEntriesResult (lp_laws_heldEntriesResult fu) out_i64 16 [(.agg [(.int .i64 a_0.Code), (.rs a_0.Entries.z .impl_Entry a_0.Entries.n a_0.Entries.f)]), (.int .i64 k_1)] = F_laws_heldEntriesResult fu a_0 k_1 := by kernel_rfl
noncomputable def body_laws_heldEntriesResult : Code := Try.f16.body.getD .skip
theorem lpok_laws_heldEntriesResult (fu : Nat) : LpOk E (pc_laws_heldEntriesResult fu) msk_laws_heldEntriesResult (lp_laws_heldEntriesResult fu) (loops 0 body_laws_heldEntriesResult) := by
  have h : loops 0 body_laws_heldEntriesResult = [] := by kernel_rfl
  rw [h]; intro p hp; cases hp
def S_laws_heldEntriesResult (fu : Nat) (xs : List (D RT den)) : Option (Out RT den) := match xs with | [.agg [.int .i64 a0_1, .rs za0_2 .impl_Entry na0_2 fa0_2], .int .i64 a1_0] => some ⟨Int, F_laws_heldEntriesResult fu (⟨a0_1, (⟨za0_2, na0_2, fa0_2⟩ : (Sl S_impl_Entry))⟩ : S_impl_EntriesResult) a1_0, enc_i64, fun _ => true⟩ | _ => none
theorem hpc_laws_heldEntriesResult (fu : Nat) : ∀ f xs o, pcf_laws_heldEntriesResult fu f xs = some o → ∀ y, o.x = some y → Good E Try.prog f xs (o.g y) := by
  intro f xs o h
  unfold pcf_laws_heldEntriesResult at h
  split at h
  · exact good_laws_heldEntryS fu xs o h
  · cases h
theorem hpx_laws_heldEntriesResult (fu : Nat) : ∀ f xs ins o, pcx_laws_heldEntriesResult fu f xs ins = some o → ∀ y, o.x = some y → GoodX E Try.prog f xs ins (o.g y).1 (o.g y).2 := by
  intro f xs ins o h
  cases h
theorem goodv_laws_heldEntriesResult (fu : Nat) (a_0 : S_impl_EntriesResult) (k_1 : Int) (y : Int) (hy : F_laws_heldEntriesResult fu a_0 k_1 = some y) : Good E Try.prog 16 [(.agg [(.int .i64 a_0.Code), (.rs a_0.Entries.z .impl_Entry a_0.Entries.n a_0.Entries.f)]), (.int .i64 k_1)] (enc_i64 y) :=
  fun_good E_ok (pc_good (pc := pc_laws_heldEntriesResult fu) (hpc_laws_heldEntriesResult fu) (hpx_laws_heldEntriesResult fu)) (fn := Try.f16) (c := body_laws_heldEntriesResult) (out := out_i64) (y := y) (by kernel_rfl) (by kernel_rfl) (by kernel_rfl) (lpok_laws_heldEntriesResult fu) (fun d hd => out_i64_enc d _ hd) ((ev_laws_heldEntriesResult fu a_0 k_1).trans hy)
theorem good_laws_heldEntriesResult (fu : Nat) : ∀ xs o, S_laws_heldEntriesResult fu xs = some o → ∀ y, o.x = some y → Good E Try.prog 16 xs (o.g y) := by
  intro xs o h y hy
  unfold S_laws_heldEntriesResult at h
  split at h
  · rename_i a0_1 za0_2 na0_2 fa0_2 a1_0
    cases h
    exact goodv_laws_heldEntriesResult fu (⟨a0_1, (⟨za0_2, na0_2, fa0_2⟩ : (Sl S_impl_Entry))⟩ : S_impl_EntriesResult) a1_0 y hy
  · cases h

/-! laws.FnExactTakeEntries -/
def F_laws_FnExactTakeEntries (fu : Nat) (aLog_0 : (Sl S_laws_Entry)) (aIndex_1 : Int) (aTerm_2 : Int) (aMore_3 : (Sl S_laws_Entry)) : Option (Bool) :=
  ((F_laws_szEntryS fu aLog_0 1048576).bind fun y1 => (bif (decide (y1 < 0)) then (some true) else ((F_laws_szEntryS fu aMore_3 y1).bind fun y2 => (bif (decide (y2 < 0)) then (some true) else
    ((F_laws_toEntryS_H fu aLog_0).bind fun y6 => ((F_laws_toEntryS_H fu aMore_3).bind fun y7 => ((F_spec_TakeEntries_H fu (⟨none, y6.n, y6.f⟩ : (Sl S_impl_Entry)) aIndex_1 aTerm_2 (⟨none,
    y7.n, y7.f⟩ : (Sl S_impl_Entry))).bind fun y76 => ((F_laws_toEntryS_H fu aLog_0).bind fun y77 => ((F_laws_toEntryS_H fu aMore_3).bind fun y78 => ((F_impl_TakeEntries_H fu (⟨none,
    y77.n, y77.f⟩ : (Sl S_impl_Entry)) aIndex_1 aTerm_2 (⟨none, y78.n, y78.f⟩ : (Sl S_impl_Entry))).bind fun y164 => ((F_laws_eqEntriesResult fu (⟨y164.Code, (⟨none, y164.Entries.n,
    y164.Entries.f⟩ : (Sl S_impl_Entry))⟩ : S_impl_EntriesResult) (⟨y76.Code, (⟨none, y76.Entries.n, y76.Entries.f⟩ : (Sl S_impl_Entry))⟩ : S_impl_EntriesResult)).bind fun y165 =>
    (bif (!y165) then (some false) else ((F_laws_toEntryS_H fu aLog_0).bind fun y166 => ((F_laws_eqEntryS fu (⟨none, y77.n, y77.f⟩ : (Sl S_impl_Entry)) (⟨none, y166.n, y166.f⟩ : (Sl S_impl_Entry))).bind fun y167 =>
    (bif (!y167) then (some false) else ((F_laws_toEntryS_H fu aMore_3).bind fun y168 => ((F_laws_eqEntryS fu (⟨none, y78.n, y78.f⟩ : (Sl S_impl_Entry)) (⟨none, y168.n, y168.f⟩ : (Sl S_impl_Entry))).bind fun y169 =>
    (bif (!y169) then (some false) else ((F_laws_markEntryS_L fu y77.n 1 y77.n y77.f).bind fun y172 => ((F_laws_markEntryS_L fu y78.n y172.1 y78.n y78.f).bind fun y173 => (((bif (decide (y173.1 < 0)) then
    (some true) else ((F_laws_eqEntriesResult fu (⟨y164.Code, (⟨none, y164.Entries.n, y164.Entries.f⟩ : (Sl S_impl_Entry))⟩ : S_impl_EntriesResult) (⟨y76.Code, (⟨none,
    y76.Entries.n, y76.Entries.f⟩ : (Sl S_impl_Entry))⟩ : S_impl_EntriesResult)).bind fun y174 => (some (!y174)))) : Option Bool).bind fun m175 => (bif m175 then (some false) else
    ((F_laws_markEntriesResult_L fu y164.Code y164.Entries.n 1 y164.Entries.n y164.Entries.f).bind fun y177 => ((F_laws_heldEntriesResult fu (⟨y164.Code, (⟨none, y164.Entries.n,
    y177.2.2⟩ : (Sl S_impl_Entry))⟩ : S_impl_EntriesResult) 1).bind fun y178 => (bif (decide (y178 < 0)) then (some false) else (bif (y178 != y177.1) then (some false) else
    ((F_laws_toEntryS_H fu aLog_0).bind fun y179 => ((F_laws_toEntryS_H fu aMore_3).bind fun y180 => ((F_impl_TakeEntries_H fu (⟨none, y179.n, y179.f⟩ : (Sl S_impl_Entry)) aIndex_1 aTerm_2 (⟨none,
    y180.n, y180.f⟩ : (Sl S_impl_Entry))).bind fun y181 => ((F_laws_eqEntriesResult fu (⟨y181.Code, (⟨none, y181.Entries.n, y181.Entries.f⟩ : (Sl S_impl_Entry))⟩ : S_impl_EntriesResult) (⟨y76.Code,
    (⟨none, y76.Entries.n, y76.Entries.f⟩ : (Sl S_impl_Entry))⟩ : S_impl_EntriesResult)).bind fun y182 => (bif (!y182) then (some false) else ((F_laws_heldEntriesResult fu (⟨y164.Code,
    (⟨none, y164.Entries.n, y177.2.2⟩ : (Sl S_impl_Entry))⟩ : S_impl_EntriesResult) 1).bind fun y183 => (bif (decide (y183 < 0)) then (some false) else (bif (y183 != y177.1) then
    (some false) else (some true)))))))))))))))))))))))))))))))))))
def pcf_laws_FnExactTakeEntries (fu : Nat) (f : Nat) (xs : List (D RT den)) : Option (Out RT den) := match f with | 8 => S_laws_szEntryS fu xs | 12 => S_laws_eqEntriesResult fu xs | 13 => S_laws_eqEntryS fu xs | 16 => S_laws_heldEntriesResult fu xs | _ => none
def pcx_laws_FnExactTakeEntries (fu : Nat) (f : Nat) (xs : List (D RT den)) (ins : List (Ob RT den)) : Option (OutX RT den) := match f with | 9 => S_spec_TakeEntries_H fu xs ins | 10 => S_laws_toEntryS_H fu xs ins | 11 => S_impl_TakeEntries_H fu xs ins | 14 => S_laws_markEntryS_L fu xs ins | 15 => S_laws_markEntriesResult_L fu xs ins | _ => none
def pc_laws_FnExactTakeEntries (fu : Nat) : Pc RT den := ⟨pcf_laws_FnExactTakeEntries fu, fun f => match f with | 9 => true | 10 => true | 11 => true | 14 => true | 15 => true | _ => false, fun f => match f with | 14 => true | 15 => true | _ => false, pcx_laws_FnExactTakeEntries fu⟩
def msk_laws_FnExactTakeEntries (b : Nat) : List Nat := match b with | 200021 => [71] | _ => []
def lp_laws_FnExactTakeEntries (fu : Nat) : Lp RT den (Bool) := fun b s k => none
theorem ev_laws_FnExactTakeEntries (fu : Nat) (aLog_0 : (Sl S_laws_Entry)) (aIndex_1 : Int) (aTerm_2 : Int) (aMore_3 : (Sl S_laws_Entry)) : evFun E (pc_laws_FnExactTakeEntries fu) msk_laws_FnExactTakeEntries (lp_laws_FnExactTakeEntries fu) out_bo 3 [(.rs aLog_0.z .laws_Entry aLog_0.n aLog_0.f), (.int .i64 aIndex_1), (.int .i64 aTerm_2), (.rs aMore_3.z .laws_Entry aMore_3.n aMore_3.f)] = F_laws_FnExactTakeEntries fu aLog_0 aIndex_1 aTerm_2 aMore_3 := by kernel_rfl
noncomputable def body_laws_FnExactTakeEntries : Code := Try.f3.body.getD .skip
theorem lpok_laws_FnExactTakeEntries (fu : Nat) : LpOk E (pc_laws_FnExactTakeEntries fu) msk_laws_FnExactTakeEntries (lp_laws_FnExactTakeEntries fu) (loops 0 body_laws_FnExactTakeEntries) := by
  have h : loops 0 body_laws_FnExactTakeEntries = [] := by kernel_rfl
  rw [h]; intro p hp; cases hp
def S_laws_FnExactTakeEntries (fu : Nat) (xs : List (D RT den)) : Option (Out RT den) := match xs with | [.rs za0_0 .laws_Entry na0_0 fa0_0, .int .i64 a1_0, .int .i64 a2_0, .rs za3_0 .laws_Entry na3_0 fa3_0] => some ⟨Bool, F_laws_FnExactTakeEntries fu (⟨za0_0, na0_0, fa0_0⟩ : (Sl S_laws_Entry)) a1_0 a2_0 (⟨za3_0, na3_0, fa3_0⟩ : (Sl S_laws_Entry)), enc_bo, fun _ => true⟩ | _ => none
theorem hpc_laws_FnExactTakeEntries (fu : Nat) : ∀ f xs o, pcf_laws_FnExactTakeEntries fu f xs = some o → ∀ y, o.x = some y → Good E Try.prog f xs (o.g y) := by
  intro f xs o h
  unfold pcf_laws_FnExactTakeEntries at h
  split at h
  · exact good_laws_szEntryS fu xs o h
  · exact good_laws_eqEntriesResult fu xs o h
  · exact good_laws_eqEntryS fu xs o h
  · exact good_laws_heldEntriesResult fu xs o h
  · cases h
theorem hpx_laws_FnExactTakeEntries (fu : Nat) : ∀ f xs ins o, pcx_laws_FnExactTakeEntries fu f xs ins = some o → ∀ y, o.x = some y → GoodX E Try.prog f xs ins (o.g y).1 (o.g y).2 := by
  intro f xs ins o h
  unfold pcx_laws_FnExactTakeEntries at h
  split at h
  · exact good_spec_TakeEntries_H fu xs ins o h
  · exact good_laws_toEntryS_H fu xs ins o h
  · exact good_impl_TakeEntries_H fu xs ins o h
  · exact good_laws_markEntryS_L fu xs ins o h
  · exact good_laws_markEntriesResult_L fu xs ins o h
  · cases h
theorem goodv_laws_FnExactTakeEntries (fu : Nat) (aLog_0 : (Sl S_laws_Entry)) (aIndex_1 : Int) (aTerm_2 : Int) (aMore_3 : (Sl S_laws_Entry)) (y : Bool) (hy : F_laws_FnExactTakeEntries fu aLog_0 aIndex_1 aTerm_2 aMore_3 = some y) : Good E Try.prog 3 [(.rs aLog_0.z .laws_Entry aLog_0.n aLog_0.f), (.int .i64 aIndex_1), (.int .i64 aTerm_2), (.rs aMore_3.z .laws_Entry aMore_3.n aMore_3.f)] (enc_bo y) :=
  fun_good E_ok (pc_good (pc := pc_laws_FnExactTakeEntries fu) (hpc_laws_FnExactTakeEntries fu) (hpx_laws_FnExactTakeEntries fu)) (fn := Try.f3) (c := body_laws_FnExactTakeEntries) (out := out_bo) (y := y) (by kernel_rfl) (by kernel_rfl) (by kernel_rfl) (lpok_laws_FnExactTakeEntries fu) (fun d hd => out_bo_enc d _ hd) ((ev_laws_FnExactTakeEntries fu aLog_0 aIndex_1 aTerm_2 aMore_3).trans hy)
theorem good_laws_FnExactTakeEntries (fu : Nat) : ∀ xs o, S_laws_FnExactTakeEntries fu xs = some o → ∀ y, o.x = some y → Good E Try.prog 3 xs (o.g y) := by
  intro xs o h y hy
  unfold S_laws_FnExactTakeEntries at h
  split at h
  · rename_i za0_0 na0_0 fa0_0 a1_0 a2_0 za3_0 na3_0 fa3_0
    cases h
    exact goodv_laws_FnExactTakeEntries fu (⟨za0_0, na0_0, fa0_0⟩ : (Sl S_laws_Entry)) a1_0 a2_0 (⟨za3_0, na3_0, fa3_0⟩ : (Sl S_laws_Entry)) y hy
  · cases h

/-! spec.l8Bad -/
def F_spec_l8Bad_H (fu : Nat) (c_0 : Int) : Option (S_impl_NodeResult) :=
  (some (⟨c_0, (⟨0, 0, 0, 0, (⟨(some true), 0, (fun _ => dflt .impl_Entry)⟩ : (Sl S_impl_Entry)), 0, 0, (⟨(some true), 0, (fun _ => dflt .i64)⟩ : (Sl Int)), (⟨(some true), 0, (fun _ =>
    dflt .i64)⟩ : (Sl Int)), (⟨(some true), 0, (fun _ => dflt .i64)⟩ : (Sl Int))⟩ : S_impl_Node), (⟨(some true), 0, (fun _ => dflt .impl_Mail)⟩ : (Sl S_impl_Mail))⟩ : S_impl_NodeResult))
def pcf_spec_l8Bad_H (fu : Nat) (f : Nat) (xs : List (D RT den)) : Option (Out RT den) := none
def pcx_spec_l8Bad_H (fu : Nat) (f : Nat) (xs : List (D RT den)) (ins : List (Ob RT den)) : Option (OutX RT den) := none
def pc_spec_l8Bad_H (fu : Nat) : Pc RT den := ⟨pcf_spec_l8Bad_H fu, fun _ => false, fun _ => false, pcx_spec_l8Bad_H fu⟩
def msk_spec_l8Bad_H (b : Nat) : List Nat := []
def lp_spec_l8Bad_H (fu : Nat) : Lp RT den (S_impl_NodeResult) := fun b s k => none
theorem ev_spec_l8Bad_H (fu : Nat) (c_0 : Int) : evFunX E (pc_spec_l8Bad_H fu) msk_spec_l8Bad_H (lp_spec_l8Bad_H fu) out_impl_NodeResult_H 61 [(.int .i64 c_0)] [] = F_spec_l8Bad_H fu c_0 := by kernel_rfl
noncomputable def body_spec_l8Bad_H : Code := Try.f61.body.getD .skip
theorem lpok_spec_l8Bad_H (fu : Nat) : LpOk E (pc_spec_l8Bad_H fu) msk_spec_l8Bad_H (lp_spec_l8Bad_H fu) (loops 0 body_spec_l8Bad_H) := by
  have h : loops 0 body_spec_l8Bad_H = [] := by kernel_rfl
  rw [h]; intro p hp; cases hp
def S_spec_l8Bad_H (fu : Nat) (xs : List (D RT den)) (ins : List (Ob RT den)) : Option (OutX RT den) := match xs, ins with | [.int .i64 a0_0], [] => some ⟨S_impl_NodeResult, F_spec_l8Bad_H fu a0_0, enc_impl_NodeResult_H⟩ | _, _ => none
theorem hpc_spec_l8Bad_H (fu : Nat) : ∀ f xs o, pcf_spec_l8Bad_H fu f xs = some o → ∀ y, o.x = some y → Good E Try.prog f xs (o.g y) := by
  intro f xs o h
  cases h
theorem hpx_spec_l8Bad_H (fu : Nat) : ∀ f xs ins o, pcx_spec_l8Bad_H fu f xs ins = some o → ∀ y, o.x = some y → GoodX E Try.prog f xs ins (o.g y).1 (o.g y).2 := by
  intro f xs ins o h
  cases h
theorem goodv_spec_l8Bad_H (fu : Nat) (c_0 : Int) (y : S_impl_NodeResult) (hy : F_spec_l8Bad_H fu c_0 = some y) : GoodX E Try.prog 61 [(.int .i64 c_0)] [] (enc_impl_NodeResult_H y).1 (enc_impl_NodeResult_H y).2 :=
  funX_good E_ok (pc_good (pc := pc_spec_l8Bad_H fu) (hpc_spec_l8Bad_H fu) (hpx_spec_l8Bad_H fu)) (fn := Try.f61) (c := body_spec_l8Bad_H) (out := out_impl_NodeResult_H) (y := y) (by kernel_rfl) (by kernel_rfl) (by kernel_rfl) (lpok_spec_l8Bad_H fu) (by kernel_rfl) (Nat.zero_le _) (fun d os hd => out_impl_NodeResult_H_enc d os _ hd) ((ev_spec_l8Bad_H fu c_0).trans hy)
theorem good_spec_l8Bad_H (fu : Nat) : ∀ xs ins o, S_spec_l8Bad_H fu xs ins = some o → ∀ y, o.x = some y → GoodX E Try.prog 61 xs ins (o.g y).1 (o.g y).2 := by
  intro xs ins o h y hy
  unfold S_spec_l8Bad_H at h
  split at h
  · rename_i a0_0
    cases h
    exact goodv_spec_l8Bad_H fu a0_0 y hy
  · cases h

/-! spec.NewNode -/
def F_spec_NewNode_H (fu : Nat) (id_0 : Int) (peers_1 : Int) : Option (S_impl_NodeResult) :=
  ((((F_spec_l1In fu peers_1 1 5).bind fun y190 => (bif (!y190) then (some true) else ((F_spec_l1In fu id_0 0 (IntKind.wrap .i64 (peers_1 - 1))).bind fun y191 => (some (!y191))))) : Option Bool).bind fun m192 =>
    (bif m192 then ((F_spec_l8Bad_H fu 3).bind fun y193 => (some (⟨y193.Code, (⟨y193.Node.Id, y193.Node.Peers, y193.Node.Term, y193.Node.Voted, (⟨none, y193.Node.Log.n,
    y193.Node.Log.f⟩ : (Sl S_impl_Entry)), y193.Node.Role, y193.Node.Commit, (⟨none, y193.Node.Votes.n, y193.Node.Votes.f⟩ : (Sl Int)), (⟨none, y193.Node.Next.n, y193.Node.Next.f⟩ : (Sl Int)),
    (⟨none, y193.Node.Match.n, y193.Node.Match.f⟩ : (Sl Int))⟩ : S_impl_Node), (⟨(some true), 0, (fun _ => dflt .impl_Mail)⟩ : (Sl S_impl_Mail))⟩ : S_impl_NodeResult))) else (some (⟨0,
    (⟨id_0, peers_1, 0, (-1), (⟨(some true), 0, (fun _ => dflt .impl_Entry)⟩ : (Sl S_impl_Entry)), 0, 0, (⟨(some true), 0, (fun _ => dflt .i64)⟩ : (Sl Int)), (⟨(some true), 0, (fun _ =>
    dflt .i64)⟩ : (Sl Int)), (⟨(some true), 0, (fun _ => dflt .i64)⟩ : (Sl Int))⟩ : S_impl_Node), (⟨(some true), 0, (fun _ => dflt .impl_Mail)⟩ : (Sl S_impl_Mail))⟩ : S_impl_NodeResult))))
def pcf_spec_NewNode_H (fu : Nat) (f : Nat) (xs : List (D RT den)) : Option (Out RT den) := match f with | 53 => S_spec_l1In fu xs | _ => none
def pcx_spec_NewNode_H (fu : Nat) (f : Nat) (xs : List (D RT den)) (ins : List (Ob RT den)) : Option (OutX RT den) := match f with | 61 => S_spec_l8Bad_H fu xs ins | _ => none
def pc_spec_NewNode_H (fu : Nat) : Pc RT den := ⟨pcf_spec_NewNode_H fu, fun f => match f with | 61 => true | _ => false, fun _ => false, pcx_spec_NewNode_H fu⟩
def msk_spec_NewNode_H (b : Nat) : List Nat := match b with | 200001 => [14] | _ => []
def lp_spec_NewNode_H (fu : Nat) : Lp RT den (S_impl_NodeResult) := fun b s k => none
theorem ev_spec_NewNode_H (fu : Nat) (id_0 : Int) (peers_1 : Int) : evFunX E (pc_spec_NewNode_H fu) msk_spec_NewNode_H (lp_spec_NewNode_H fu) out_impl_NodeResult_H 25 [(.int .i64 id_0), (.int .i64 peers_1)] [] = F_spec_NewNode_H fu id_0 peers_1 := by kernel_rfl
noncomputable def body_spec_NewNode_H : Code := Try.f25.body.getD .skip
theorem lpok_spec_NewNode_H (fu : Nat) : LpOk E (pc_spec_NewNode_H fu) msk_spec_NewNode_H (lp_spec_NewNode_H fu) (loops 0 body_spec_NewNode_H) := by
  have h : loops 0 body_spec_NewNode_H = [] := by kernel_rfl
  rw [h]; intro p hp; cases hp
def S_spec_NewNode_H (fu : Nat) (xs : List (D RT den)) (ins : List (Ob RT den)) : Option (OutX RT den) := match xs, ins with | [.int .i64 a0_0, .int .i64 a1_0], [] => some ⟨S_impl_NodeResult, F_spec_NewNode_H fu a0_0 a1_0, enc_impl_NodeResult_H⟩ | _, _ => none
theorem hpc_spec_NewNode_H (fu : Nat) : ∀ f xs o, pcf_spec_NewNode_H fu f xs = some o → ∀ y, o.x = some y → Good E Try.prog f xs (o.g y) := by
  intro f xs o h
  unfold pcf_spec_NewNode_H at h
  split at h
  · exact good_spec_l1In fu xs o h
  · cases h
theorem hpx_spec_NewNode_H (fu : Nat) : ∀ f xs ins o, pcx_spec_NewNode_H fu f xs ins = some o → ∀ y, o.x = some y → GoodX E Try.prog f xs ins (o.g y).1 (o.g y).2 := by
  intro f xs ins o h
  unfold pcx_spec_NewNode_H at h
  split at h
  · exact good_spec_l8Bad_H fu xs ins o h
  · cases h
theorem goodv_spec_NewNode_H (fu : Nat) (id_0 : Int) (peers_1 : Int) (y : S_impl_NodeResult) (hy : F_spec_NewNode_H fu id_0 peers_1 = some y) : GoodX E Try.prog 25 [(.int .i64 id_0), (.int .i64 peers_1)] [] (enc_impl_NodeResult_H y).1 (enc_impl_NodeResult_H y).2 :=
  funX_good E_ok (pc_good (pc := pc_spec_NewNode_H fu) (hpc_spec_NewNode_H fu) (hpx_spec_NewNode_H fu)) (fn := Try.f25) (c := body_spec_NewNode_H) (out := out_impl_NodeResult_H) (y := y) (by kernel_rfl) (by kernel_rfl) (by kernel_rfl) (lpok_spec_NewNode_H fu) (by kernel_rfl) (Nat.zero_le _) (fun d os hd => out_impl_NodeResult_H_enc d os _ hd) ((ev_spec_NewNode_H fu id_0 peers_1).trans hy)
theorem good_spec_NewNode_H (fu : Nat) : ∀ xs ins o, S_spec_NewNode_H fu xs ins = some o → ∀ y, o.x = some y → GoodX E Try.prog 25 xs ins (o.g y).1 (o.g y).2 := by
  intro xs ins o h y hy
  unfold S_spec_NewNode_H at h
  split at h
  · rename_i a0_0 a1_0
    cases h
    exact goodv_spec_NewNode_H fu a0_0 a1_0 y hy
  · cases h

/-! impl.NewNode -/
def F_impl_NewNode_H (fu : Nat) (id_0 : Int) (peers_1 : Int) : Option (S_impl_NodeResult) :=
  ((((F_impl_in fu peers_1 1 5).bind fun y195 => (bif (!y195) then (some true) else ((F_impl_in fu id_0 0 (IntKind.wrap .i64 (peers_1 - 1))).bind fun y196 => (some (!y196))))) : Option Bool).bind fun m197 =>
    (bif m197 then (some (⟨3, (⟨0, 0, 0, 0, (⟨(some true), 0, (fun _ => dflt .impl_Entry)⟩ : (Sl S_impl_Entry)), 0, 0, (⟨(some true), 0, (fun _ => dflt .i64)⟩ : (Sl Int)), (⟨(some true),
    0, (fun _ => dflt .i64)⟩ : (Sl Int)), (⟨(some true), 0, (fun _ => dflt .i64)⟩ : (Sl Int))⟩ : S_impl_Node), (⟨(some true), 0, (fun _ => dflt .impl_Mail)⟩ : (Sl S_impl_Mail))⟩ : S_impl_NodeResult)) else
    (some (⟨0, (⟨id_0, peers_1, 0, (-1), (⟨(some true), 0, (fun _ => dflt .impl_Entry)⟩ : (Sl S_impl_Entry)), 0, 0, (⟨(some true), 0, (fun _ => dflt .i64)⟩ : (Sl Int)), (⟨(some true),
    0, (fun _ => dflt .i64)⟩ : (Sl Int)), (⟨(some true), 0, (fun _ => dflt .i64)⟩ : (Sl Int))⟩ : S_impl_Node), (⟨(some true), 0, (fun _ => dflt .impl_Mail)⟩ : (Sl S_impl_Mail))⟩ : S_impl_NodeResult))))
def pcf_impl_NewNode_H (fu : Nat) (f : Nat) (xs : List (D RT den)) : Option (Out RT den) := match f with | 62 => S_impl_in fu xs | _ => none
def pcx_impl_NewNode_H (fu : Nat) (f : Nat) (xs : List (D RT den)) (ins : List (Ob RT den)) : Option (OutX RT den) := none
def pc_impl_NewNode_H (fu : Nat) : Pc RT den := ⟨pcf_impl_NewNode_H fu, fun _ => false, fun _ => false, pcx_impl_NewNode_H fu⟩
def msk_impl_NewNode_H (b : Nat) : List Nat := match b with | 200001 => [14] | _ => []
def lp_impl_NewNode_H (fu : Nat) : Lp RT den (S_impl_NodeResult) := fun b s k => none
theorem ev_impl_NewNode_H (fu : Nat) (id_0 : Int) (peers_1 : Int) : evFunX E (pc_impl_NewNode_H fu) msk_impl_NewNode_H (lp_impl_NewNode_H fu) out_impl_NodeResult_H 26 [(.int .i64 id_0), (.int .i64 peers_1)] [] = F_impl_NewNode_H fu id_0 peers_1 := by kernel_rfl
noncomputable def body_impl_NewNode_H : Code := Try.f26.body.getD .skip
theorem lpok_impl_NewNode_H (fu : Nat) : LpOk E (pc_impl_NewNode_H fu) msk_impl_NewNode_H (lp_impl_NewNode_H fu) (loops 0 body_impl_NewNode_H) := by
  have h : loops 0 body_impl_NewNode_H = [] := by kernel_rfl
  rw [h]; intro p hp; cases hp
def S_impl_NewNode_H (fu : Nat) (xs : List (D RT den)) (ins : List (Ob RT den)) : Option (OutX RT den) := match xs, ins with | [.int .i64 a0_0, .int .i64 a1_0], [] => some ⟨S_impl_NodeResult, F_impl_NewNode_H fu a0_0 a1_0, enc_impl_NodeResult_H⟩ | _, _ => none
theorem hpc_impl_NewNode_H (fu : Nat) : ∀ f xs o, pcf_impl_NewNode_H fu f xs = some o → ∀ y, o.x = some y → Good E Try.prog f xs (o.g y) := by
  intro f xs o h
  unfold pcf_impl_NewNode_H at h
  split at h
  · exact good_impl_in fu xs o h
  · cases h
theorem hpx_impl_NewNode_H (fu : Nat) : ∀ f xs ins o, pcx_impl_NewNode_H fu f xs ins = some o → ∀ y, o.x = some y → GoodX E Try.prog f xs ins (o.g y).1 (o.g y).2 := by
  intro f xs ins o h
  cases h
theorem goodv_impl_NewNode_H (fu : Nat) (id_0 : Int) (peers_1 : Int) (y : S_impl_NodeResult) (hy : F_impl_NewNode_H fu id_0 peers_1 = some y) : GoodX E Try.prog 26 [(.int .i64 id_0), (.int .i64 peers_1)] [] (enc_impl_NodeResult_H y).1 (enc_impl_NodeResult_H y).2 :=
  funX_good E_ok (pc_good (pc := pc_impl_NewNode_H fu) (hpc_impl_NewNode_H fu) (hpx_impl_NewNode_H fu)) (fn := Try.f26) (c := body_impl_NewNode_H) (out := out_impl_NodeResult_H) (y := y) (by kernel_rfl) (by kernel_rfl) (by kernel_rfl) (lpok_impl_NewNode_H fu) (by kernel_rfl) (Nat.zero_le _) (fun d os hd => out_impl_NodeResult_H_enc d os _ hd) ((ev_impl_NewNode_H fu id_0 peers_1).trans hy)
theorem good_impl_NewNode_H (fu : Nat) : ∀ xs ins o, S_impl_NewNode_H fu xs ins = some o → ∀ y, o.x = some y → GoodX E Try.prog 26 xs ins (o.g y).1 (o.g y).2 := by
  intro xs ins o h y hy
  unfold S_impl_NewNode_H at h
  split at h
  · rename_i a0_0 a1_0
    cases h
    exact goodv_impl_NewNode_H fu a0_0 a1_0 y hy
  · cases h

/-! laws.markInt64S -/
def F_laws_markInt64S_L_B0 {ρ : Type} (fu : Nat) (a0_0 : Nat) (on0_3 : Nat) (k0 : Int → (Nat → Int) → Option ρ) (k1_1 : Int) (i5_2 : Int) (of0_4 : (Nat → Int)) (go : Int → Int → (Nat → Int) → Option ρ) : Option ρ :=
  (bif (decide (i5_2 < ((a0_0 : Nat) : Int))) then ((bif (decide (0 ≤ i5_2) && decide ((Int.toNat i5_2) < a0_0)) then some () else none : Option Unit).bind fun _ => (go (IntKind.wrap .i64 (k1_1 + 1)) (IntKind.wrap .i64 (i5_2 + 1)) (fun j =>
    if j = (Int.toNat i5_2) then k1_1 else of0_4 j))) else (k0 k1_1 of0_4))
def F_laws_markInt64S_L (fu : Nat) (a_0_0 : Nat) (k_1_1 : Int) (rn0 : Nat) (rf0 : (Nat → Int)) : Option (Int × (Nat × (Nat → Int))) :=
  (L (fun w0 go0 => F_laws_markInt64S_L_B0 fu a_0_0 rn0 (fun z201 z202 => (some (z201, (rn0, z202)))) w0.1 w0.2.1 w0.2.2 (fun q0 q1 q2 => go0 (q0, q1, q2))) fu ((k_1_1, 0, rf0) : Int × Int × (Nat → Int)))
def pcf_laws_markInt64S_L (fu : Nat) (f : Nat) (xs : List (D RT den)) : Option (Out RT den) := none
def pcx_laws_markInt64S_L (fu : Nat) (f : Nat) (xs : List (D RT den)) (ins : List (Ob RT den)) : Option (OutX RT den) := none
def pc_laws_markInt64S_L (fu : Nat) : Pc RT den := ⟨pcf_laws_markInt64S_L fu, fun _ => false, fun _ => false, pcx_laws_markInt64S_L fu⟩
def msk_laws_markInt64S_L (b : Nat) : List Nat := match b with | 0 => [2, 3, 4, 6, 7, 8, 9, 10, 11, 12, 13, 14, 15, 16, 17, 18] | 100000 => [0, 2, 3, 5, 6, 7, 8, 9, 10, 11, 12, 13, 14, 15, 16, 17, 18] | _ => []
def ps_laws_markInt64S_L_0 : List (Pat RT) := [.flat (.os 0), .flat (.int .i64), .flat .dead, .flat .dead, .flat .dead, .flat (.int .i64), .flat .dead, .flat .dead, .flat .dead, .flat .dead, .flat .dead, .flat .dead, .flat .dead, .flat .dead, .flat .dead, .flat .dead, .flat .dead, .flat .dead, .flat .dead]
def os_laws_markInt64S_L_0 : List (OP RT) := [.row true .i64]
def conv_laws_markInt64S_L_0 (r : Raw den ps_laws_markInt64S_L_0 os_laws_markInt64S_L_0) : (Nat × Nat) × (Int × Int × (Nat → Int)) := ((r.1.1, r.2.1.1), (r.1.2.1, r.1.2.2.2.2.2.1, r.2.1.2))
def back_laws_markInt64S_L_0 (c : Nat × Nat) (w : Int × Int × (Nat → Int)) : St RT den := ⟨[(.os 0 c.1), (.int .i64 w.1), .dead, .dead, .dead, (.int .i64 w.2.1), .dead, .dead, .dead, .dead, .dead, .dead, .dead, .dead, .dead, .dead, .dead, .dead, .dead], [(.row true .i64 c.2 w.2.2)]⟩
def Bk_laws_markInt64S_L_0 {ρ : Type} (fu : Nat) (c : Nat × Nat) (k : Ex → St RT den → Option ρ) (w : Int × Int × (Nat → Int)) (go : (Int × Int × (Nat → Int)) → Option ρ) : Option ρ := F_laws_markInt64S_L_B0 fu c.1 c.2 (fun a0 a1 => k (.exit 0) ⟨[.dead, (.int .i64 a0), .dead, .dead, .dead, .dead, .dead, .dead, .dead, .dead, .dead, .dead, .dead, .dead, .dead, .dead, .dead, .dead, .dead], [(.row true .i64 c.2 a1)]⟩) w.1 w.2.1 w.2.2 (fun q0 q1 q2 => go (q0, q1, q2))
def lp_laws_markInt64S_L (fu : Nat) : Lp RT den (Int × (Nat × (Nat → Int))) := fun b s k => match b with | 0 => handle ps_laws_markInt64S_L_0 os_laws_markInt64S_L_0 conv_laws_markInt64S_L_0 (Bk_laws_markInt64S_L_0 fu) fu s k | _ => none
def out_laws_markInt64S_L (d : D RT den) (os : List (Ob RT den)) : Option (Int × (Nat × (Nat → Int))) := match d, os with | .int .i64 a0_0, [.row true .i64 n0 f0] => some (a0_0, (n0, f0)) | _, _ => none
def enc_laws_markInt64S_L (y : Int × (Nat × (Nat → Int))) : D RT den × List (Ob RT den) := ((.int .i64 y.1), [(.row true .i64 y.2.1 y.2.2)])
theorem out_laws_markInt64S_L_enc (d : D RT den) (os : List (Ob RT den)) (y : Int × (Nat × (Nat → Int))) (h : out_laws_markInt64S_L d os = some y) : (unh 1 d).1 = (enc_laws_markInt64S_L y).1 ∧ os ++ (unh 1 d).2 = (enc_laws_markInt64S_L y).2 := by
  unfold out_laws_markInt64S_L at h
  split at h
  · cases h; exact ⟨rfl, rfl⟩
  · cases h
theorem ev_laws_markInt64S_L (fu : Nat) (a_0_0 : Nat) (k_1_1 : Int) (rn0 : Nat) (rf0 : (Nat → Int)) : evFunX E (pc_laws_markInt64S_L fu) msk_laws_markInt64S_L (lp_laws_markInt64S_L fu) out_laws_markInt64S_L 73 [(.os 0 a_0_0), (.int .i64 k_1_1)] [(.row true .i64 rn0 rf0)] = F_laws_markInt64S_L fu a_0_0 k_1_1 rn0 rf0 := by kernel_rfl
noncomputable def body_laws_markInt64S_L : Code := Try.f73.body.getD .skip
noncomputable def lc_laws_markInt64S_L_0 : Code := ((loops 0 body_laws_markInt64S_L).getD 0 (0, .skip)).2
theorem round_laws_markInt64S_L_0 (fu : Nat) (it : St RT den → Option (Int × (Nat × (Nat → Int)))) (k : Ex → St RT den → Option (Int × (Nat × (Nat → Int)))) c w : evCode E (pc_laws_markInt64S_L fu) msk_laws_markInt64S_L (lp_laws_markInt64S_L fu) 0 lc_laws_markInt64S_L_0 (back_laws_markInt64S_L_0 c w) (after (msk_laws_markInt64S_L 0) (msk_laws_markInt64S_L 100000) 1 it k) = Bk_laws_markInt64S_L_0 fu c k w (fun w => it (back_laws_markInt64S_L_0 c w)) := by kernel_rfl
theorem lpok_laws_markInt64S_L_0 (fu : Nat) : ∀ s k r, lp_laws_markInt64S_L fu 0 s k = some r → ∃ fuel, iter (msk_laws_markInt64S_L 0) (msk_laws_markInt64S_L 100000) s.objs.length (evCode E (pc_laws_markInt64S_L fu) msk_laws_markInt64S_L (lp_laws_markInt64S_L fu) 0 lc_laws_markInt64S_L_0) fuel s k = some r :=
  handle_ok (ps := ps_laws_markInt64S_L_0) (os := os_laws_markInt64S_L_0) (conv := conv_laws_markInt64S_L_0) (B := Bk_laws_markInt64S_L_0 fu) (fu := fu) back_laws_markInt64S_L_0 (fun raw => by kernel_rfl) 1 (fun c w => by kernel_rfl) (round_laws_markInt64S_L_0 fu)
theorem lpok_laws_markInt64S_L (fu : Nat) : LpOk E (pc_laws_markInt64S_L fu) msk_laws_markInt64S_L (lp_laws_markInt64S_L fu) (loops 0 body_laws_markInt64S_L) := loop_all 1 (by kernel_rfl) fun i hi => match i, hi with
  | 0, _ => by
    have h : (loops 0 body_laws_markInt64S_L).getD 0 (0, .skip) = (0, lc_laws_markInt64S_L_0) := by kernel_rfl
    rw [h]; exact lpok_laws_markInt64S_L_0 fu
  | i + 1, hi => absurd hi (by omega)
def S_laws_markInt64S_L (fu : Nat) (xs : List (D RT den)) (ins : List (Ob RT den)) : Option (OutX RT den) := match xs, ins with | [.os 0 a0_0, .int .i64 a1_0], [.row true .i64 rn0 rf0] => some ⟨Int × (Nat × (Nat → Int)), F_laws_markInt64S_L fu a0_0 a1_0 rn0 rf0, enc_laws_markInt64S_L⟩ | _, _ => none
theorem hpc_laws_markInt64S_L (fu : Nat) : ∀ f xs o, pcf_laws_markInt64S_L fu f xs = some o → ∀ y, o.x = some y → Good E Try.prog f xs (o.g y) := by
  intro f xs o h
  cases h
theorem hpx_laws_markInt64S_L (fu : Nat) : ∀ f xs ins o, pcx_laws_markInt64S_L fu f xs ins = some o → ∀ y, o.x = some y → GoodX E Try.prog f xs ins (o.g y).1 (o.g y).2 := by
  intro f xs ins o h
  cases h
theorem goodv_laws_markInt64S_L (fu : Nat) (a_0_0 : Nat) (k_1_1 : Int) (rn0 : Nat) (rf0 : (Nat → Int)) (y : Int × (Nat × (Nat → Int))) (hy : F_laws_markInt64S_L fu a_0_0 k_1_1 rn0 rf0 = some y) : GoodX E Try.prog 73 [(.os 0 a_0_0), (.int .i64 k_1_1)] [(.row true .i64 rn0 rf0)] (enc_laws_markInt64S_L y).1 (enc_laws_markInt64S_L y).2 :=
  funX_good E_ok (pc_good (pc := pc_laws_markInt64S_L fu) (hpc_laws_markInt64S_L fu) (hpx_laws_markInt64S_L fu)) (fn := Try.f73) (c := body_laws_markInt64S_L) (out := out_laws_markInt64S_L) (y := y) (by kernel_rfl) (by kernel_rfl) (by kernel_rfl) (lpok_laws_markInt64S_L fu) (by kernel_rfl) (Nat.le_refl _) (fun d os hd => out_laws_markInt64S_L_enc d os _ hd) ((ev_laws_markInt64S_L fu a_0_0 k_1_1 rn0 rf0).trans hy)
theorem good_laws_markInt64S_L (fu : Nat) : ∀ xs ins o, S_laws_markInt64S_L fu xs ins = some o → ∀ y, o.x = some y → GoodX E Try.prog 73 xs ins (o.g y).1 (o.g y).2 := by
  intro xs ins o h y hy
  unfold S_laws_markInt64S_L at h
  split at h
  · rename_i a0_0 a1_0 rn0 rf0
    cases h
    exact goodv_laws_markInt64S_L fu a0_0 a1_0 rn0 rf0 y hy
  · cases h

/-! laws.markNode -/
def F_laws_markNode_L (fu : Nat) (a_0_0 : Int) (a_0_1 : Int) (a_0_2 : Int) (a_0_3 : Int) (a_0_4 : Nat) (a_0_5 : Int) (a_0_6 : Int) (a_0_7 : Nat) (a_0_8 : Nat) (a_0_9 : Nat) (k_1_10 : Int) (rn0 : Nat) (rf0 : (Nat → S_impl_Entry)) (rn1 : Nat) (rf1 : (Nat → Int)) (rn2 : Nat) (rf2 : (Nat → Int)) (rn3 : Nat) (rf3 : (Nat → Int)) : Option (Int × (Nat × (Nat → S_impl_Entry)) × (Nat × (Nat → Int)) × (Nat × (Nat → Int)) × (Nat × (Nat → Int))) :=
  ((F_laws_markEntryS_L fu a_0_4 k_1_10 rn0 rf0).bind fun y200 => ((F_laws_markInt64S_L fu a_0_7 y200.1 rn1 rf1).bind fun y203 => ((F_laws_markInt64S_L fu a_0_8 y203.1 rn2 rf2).bind fun y204 =>
    ((F_laws_markInt64S_L fu a_0_9 y204.1 rn3 rf3).bind fun y205 => (some (y205.1, (y200.2.1, y200.2.2), (y203.2.1, y203.2.2), (y204.2.1, y204.2.2), (y205.2.1, y205.2.2)))))))
def pcf_laws_markNode_L (fu : Nat) (f : Nat) (xs : List (D RT den)) : Option (Out RT den) := none
def pcx_laws_markNode_L (fu : Nat) (f : Nat) (xs : List (D RT den)) (ins : List (Ob RT den)) : Option (OutX RT den) := match f with | 14 => S_laws_markEntryS_L fu xs ins | 73 => S_laws_markInt64S_L fu xs ins | _ => none
def pc_laws_markNode_L (fu : Nat) : Pc RT den := ⟨pcf_laws_markNode_L fu, fun f => match f with | 14 => true | 73 => true | _ => false, fun f => match f with | 14 => true | 73 => true | _ => false, pcx_laws_markNode_L fu⟩
def msk_laws_markNode_L (b : Nat) : List Nat := []
def lp_laws_markNode_L (fu : Nat) : Lp RT den (Int × (Nat × (Nat → S_impl_Entry)) × (Nat × (Nat → Int)) × (Nat × (Nat → Int)) × (Nat × (Nat → Int))) := fun b s k => none
def out_laws_markNode_L (d : D RT den) (os : List (Ob RT den)) : Option (Int × (Nat × (Nat → S_impl_Entry)) × (Nat × (Nat → Int)) × (Nat × (Nat → Int)) × (Nat × (Nat → Int))) := match d, os with | .int .i64 a0_0, [.row true .impl_Entry n0 f0, .row true .i64 n1 f1, .row true .i64 n2 f2, .row true .i64 n3 f3] => some (a0_0, (n0, f0), (n1, f1), (n2, f2), (n3, f3)) | _, _ => none
def enc_laws_markNode_L (y : Int × (Nat × (Nat → S_impl_Entry)) × (Nat × (Nat → Int)) × (Nat × (Nat → Int)) × (Nat × (Nat → Int))) : D RT den × List (Ob RT den) := ((.int .i64 y.1), [(.row true .impl_Entry y.2.1.1 y.2.1.2), (.row true .i64 y.2.2.1.1 y.2.2.1.2), (.row true .i64 y.2.2.2.1.1 y.2.2.2.1.2), (.row true .i64 y.2.2.2.2.1 y.2.2.2.2.2)])
theorem out_laws_markNode_L_enc (d : D RT den) (os : List (Ob RT den)) (y : Int × (Nat × (Nat → S_impl_Entry)) × (Nat × (Nat → Int)) × (Nat × (Nat → Int)) × (Nat × (Nat → Int))) (h : out_laws_markNode_L d os = some y) : (unh 4 d).1 = (enc_laws_markNode_L y).1 ∧ os ++ (unh 4 d).2 = (enc_laws_markNode_L y).2 := by
  unfold out_laws_markNode_L at h
  split at h
  · cases h; exact ⟨rfl, rfl⟩
  · cases h
theorem ev_laws_markNode_L (fu : Nat) (a_0_0 : Int) (a_0_1 : Int) (a_0_2 : Int) (a_0_3 : Int) (a_0_4 : Nat) (a_0_5 : Int) (a_0_6 : Int) (a_0_7 : Nat) (a_0_8 : Nat) (a_0_9 : Nat) (k_1_10 : Int) (rn0 : Nat) (rf0 : (Nat → S_impl_Entry)) (rn1 : Nat) (rf1 : (Nat → Int)) (rn2 : Nat) (rf2 : (Nat → Int)) (rn3 : Nat) (rf3 : (Nat → Int)) : evFunX E (pc_laws_markNode_L fu) msk_laws_markNode_L (lp_laws_markNode_L fu) out_laws_markNode_L 35 [(.agg [(.int .i64 a_0_0), (.int .i64 a_0_1), (.int .i64 a_0_2), (.int .i64 a_0_3), (.os 0 a_0_4), (.int .i64 a_0_5), (.int .i64 a_0_6), (.os 1 a_0_7), (.os 2 a_0_8), (.os 3 a_0_9)]), (.int .i64 k_1_10)] [(.row true .impl_Entry rn0 rf0), (.row true .i64 rn1 rf1), (.row true .i64 rn2 rf2), (.row true .i64 rn3 rf3)] = F_laws_markNode_L fu a_0_0 a_0_1 a_0_2 a_0_3 a_0_4 a_0_5 a_0_6 a_0_7 a_0_8 a_0_9 k_1_10 rn0 rf0 rn1 rf1 rn2 rf2 rn3 rf3 := by kernel_rfl
noncomputable def body_laws_markNode_L : Code := Try.f35.body.getD .skip
theorem lpok_laws_markNode_L (fu : Nat) : LpOk E (pc_laws_markNode_L fu) msk_laws_markNode_L (lp_laws_markNode_L fu) (loops 0 body_laws_markNode_L) := by
  have h : loops 0 body_laws_markNode_L = [] := by kernel_rfl
  rw [h]; intro p hp; cases hp
def S_laws_markNode_L (fu : Nat) (xs : List (D RT den)) (ins : List (Ob RT den)) : Option (OutX RT den) := match xs, ins with | [.agg [.int .i64 a0_0, .int .i64 a0_1, .int .i64 a0_2, .int .i64 a0_3, .os 0 a0_4, .int .i64 a0_5, .int .i64 a0_6, .os 1 a0_7, .os 2 a0_8, .os 3 a0_9], .int .i64 a1_0], [.row true .impl_Entry rn0 rf0, .row true .i64 rn1 rf1, .row true .i64 rn2 rf2, .row true .i64 rn3 rf3] => some ⟨Int × (Nat × (Nat → S_impl_Entry)) × (Nat × (Nat → Int)) × (Nat × (Nat → Int)) × (Nat × (Nat → Int)), F_laws_markNode_L fu a0_0 a0_1 a0_2 a0_3 a0_4 a0_5 a0_6 a0_7 a0_8 a0_9 a1_0 rn0 rf0 rn1 rf1 rn2 rf2 rn3 rf3, enc_laws_markNode_L⟩ | _, _ => none
theorem hpc_laws_markNode_L (fu : Nat) : ∀ f xs o, pcf_laws_markNode_L fu f xs = some o → ∀ y, o.x = some y → Good E Try.prog f xs (o.g y) := by
  intro f xs o h
  cases h
theorem hpx_laws_markNode_L (fu : Nat) : ∀ f xs ins o, pcx_laws_markNode_L fu f xs ins = some o → ∀ y, o.x = some y → GoodX E Try.prog f xs ins (o.g y).1 (o.g y).2 := by
  intro f xs ins o h
  unfold pcx_laws_markNode_L at h
  split at h
  · exact good_laws_markEntryS_L fu xs ins o h
  · exact good_laws_markInt64S_L fu xs ins o h
  · cases h
theorem goodv_laws_markNode_L (fu : Nat) (a_0_0 : Int) (a_0_1 : Int) (a_0_2 : Int) (a_0_3 : Int) (a_0_4 : Nat) (a_0_5 : Int) (a_0_6 : Int) (a_0_7 : Nat) (a_0_8 : Nat) (a_0_9 : Nat) (k_1_10 : Int) (rn0 : Nat) (rf0 : (Nat → S_impl_Entry)) (rn1 : Nat) (rf1 : (Nat → Int)) (rn2 : Nat) (rf2 : (Nat → Int)) (rn3 : Nat) (rf3 : (Nat → Int)) (y : Int × (Nat × (Nat → S_impl_Entry)) × (Nat × (Nat → Int)) × (Nat × (Nat → Int)) × (Nat × (Nat → Int))) (hy : F_laws_markNode_L fu a_0_0 a_0_1 a_0_2 a_0_3 a_0_4 a_0_5 a_0_6 a_0_7 a_0_8 a_0_9 k_1_10 rn0 rf0 rn1 rf1 rn2 rf2 rn3 rf3 = some y) : GoodX E Try.prog 35 [(.agg [(.int .i64 a_0_0), (.int .i64 a_0_1), (.int .i64 a_0_2), (.int .i64 a_0_3), (.os 0 a_0_4), (.int .i64 a_0_5), (.int .i64 a_0_6), (.os 1 a_0_7), (.os 2 a_0_8), (.os 3 a_0_9)]), (.int .i64 k_1_10)] [(.row true .impl_Entry rn0 rf0), (.row true .i64 rn1 rf1), (.row true .i64 rn2 rf2), (.row true .i64 rn3 rf3)] (enc_laws_markNode_L y).1 (enc_laws_markNode_L y).2 :=
  funX_good E_ok (pc_good (pc := pc_laws_markNode_L fu) (hpc_laws_markNode_L fu) (hpx_laws_markNode_L fu)) (fn := Try.f35) (c := body_laws_markNode_L) (out := out_laws_markNode_L) (y := y) (by kernel_rfl) (by kernel_rfl) (by kernel_rfl) (lpok_laws_markNode_L fu) (by kernel_rfl) (Nat.le_refl _) (fun d os hd => out_laws_markNode_L_enc d os _ hd) ((ev_laws_markNode_L fu a_0_0 a_0_1 a_0_2 a_0_3 a_0_4 a_0_5 a_0_6 a_0_7 a_0_8 a_0_9 k_1_10 rn0 rf0 rn1 rf1 rn2 rf2 rn3 rf3).trans hy)
theorem good_laws_markNode_L (fu : Nat) : ∀ xs ins o, S_laws_markNode_L fu xs ins = some o → ∀ y, o.x = some y → GoodX E Try.prog 35 xs ins (o.g y).1 (o.g y).2 := by
  intro xs ins o h y hy
  unfold S_laws_markNode_L at h
  split at h
  · rename_i a0_0 a0_1 a0_2 a0_3 a0_4 a0_5 a0_6 a0_7 a0_8 a0_9 a1_0 rn0 rf0 rn1 rf1 rn2 rf2 rn3 rf3
    cases h
    exact goodv_laws_markNode_L fu a0_0 a0_1 a0_2 a0_3 a0_4 a0_5 a0_6 a0_7 a0_8 a0_9 a1_0 rn0 rf0 rn1 rf1 rn2 rf2 rn3 rf3 y hy
  · cases h

/-! laws.markMailS -/
def F_laws_markMailS_L_B0 {ρ : Type} (fu : Nat) (k1_0 : Int) (i5_1 : Int) (k0 : Option ρ) (go : Unit → Option ρ) : Option ρ :=
  (bif (decide (i5_1 < 0)) then none else k0)
def F_laws_markMailS_L (fu : Nat) (k_1_0 : Int) : Option (Int) :=
  (L (fun w0 go0 => F_laws_markMailS_L_B0 fu k_1_0 0 (some (k_1_0))  go0) fu (() : Unit))
def pcf_laws_markMailS_L (fu : Nat) (f : Nat) (xs : List (D RT den)) : Option (Out RT den) := none
def pcx_laws_markMailS_L (fu : Nat) (f : Nat) (xs : List (D RT den)) (ins : List (Ob RT den)) : Option (OutX RT den) := none
def pc_laws_markMailS_L (fu : Nat) : Pc RT den := ⟨pcf_laws_markMailS_L fu, fun _ => false, fun _ => false, pcx_laws_markMailS_L fu⟩
def msk_laws_markMailS_L (b : Nat) : List Nat := match b with | 0 => [2, 3, 4, 6, 7, 8, 9, 10, 11, 12, 13, 14, 15, 16, 17, 18, 19, 20, 21, 22, 23, 24, 25, 26, 27, 28, 29, 30, 31, 32, 33, 34, 35, 36, 37, 38, 39, 40, 41, 42, 43, 44, 45, 46, 47, 48, 49, 50, 51, 52, 53, 54, 55, 56, 57, 58, 59, 60, 61, 62, 63, 64, 65, 66, 67, 68, 69, 70, 71, 72, 73, 74, 75, 76, 77] | 100000 => [0, 2, 3, 5, 6, 7, 8, 9, 10, 11, 12, 13, 14, 15, 16, 17, 18, 19, 20, 21, 22, 23, 24, 25, 26, 27, 28, 29, 30, 31, 32, 33, 34, 35, 36, 37, 38, 39, 40, 41, 42, 43, 44, 45, 46, 47, 48, 49, 50, 51, 52, 53, 54, 55, 56, 57, 58, 59, 60, 61, 62, 63, 64, 65, 66, 67, 68, 69, 70, 71, 72, 73, 74, 75, 76, 77] | _ => []
def ps_laws_markMailS_L_0 : List (Pat RT) := [.flat (.emp true .impl_Mail), .flat (.int .i64), .flat .dead, .flat .dead, .flat .dead, .flat (.int .i64), .flat .dead, .flat .dead, .flat .dead, .flat .dead, .flat .dead, .flat .dead, .flat .dead, .flat .dead, .flat .dead, .flat .dead, .flat .dead, .flat .dead, .flat .dead, .flat .dead, .flat .dead, .flat .dead, .flat .dead, .flat .dead, .flat .dead, .flat .dead, .flat .dead, .flat .dead, .flat .dead, .flat .dead, .flat .dead, .flat .dead, .flat .dead, .flat .dead, .flat .dead, .flat .dead, .flat .dead, .flat .dead, .flat .dead, .flat .dead, .flat .dead, .flat .dead, .flat .dead, .flat .dead, .flat .dead, .flat .dead, .flat .dead, .flat .dead, .flat .dead, .flat .dead, .flat .dead, .flat .dead, .flat .dead, .flat .dead, .flat .dead, .flat .dead, .flat .dead, .flat .dead, .flat .dead, .flat .dead, .flat .dead, .flat .dead, .flat .dead, .flat .dead, .flat .dead, .flat .dead, .flat .dead, .flat .dead, .flat .dead, .flat .dead, .flat .dead, .flat .dead, .flat .dead, .flat .dead, .flat .dead, .flat .dead, .flat .dead, .flat .dead]
def os_laws_markMailS_L_0 : List (OP RT) := []
def conv_laws_markMailS_L_0 (r : Raw den ps_laws_markMailS_L_0 os_laws_markMailS_L_0) : (Int × Int) × (Unit) := ((r.1.2.1, r.1.2.2.2.2.2.1), ())
def back_laws_markMailS_L_0 (c : Int × Int) (w : Unit) : St RT den := ⟨[(.emp true .impl_Mail), (.int .i64 c.1), .dead, .dead, .dead, (.int .i64 c.2), .dead, .dead, .dead, .dead, .dead, .dead, .dead, .dead, .dead, .dead, .dead, .dead, .dead, .dead, .dead, .dead, .dead, .dead, .dead, .dead, .dead, .dead, .dead, .dead, .dead, .dead, .dead, .dead, .dead, .dead, .dead, .dead, .dead, .dead, .dead, .dead, .dead, .dead, .dead, .dead, .dead, .dead, .dead, .dead, .dead, .dead, .dead, .dead, .dead, .dead, .dead, .dead, .dead, .dead, .dead, .dead, .dead, .dead, .dead, .dead, .dead, .dead, .dead, .dead, .dead, .dead, .dead, .dead, .dead, .dead, .dead, .dead], []⟩
def Bk_laws_markMailS_L_0 {ρ : Type} (fu : Nat) (c : Int × Int) (k : Ex → St RT den → Option ρ) (w : Unit) (go : (Unit) → Option ρ) : Option ρ := F_laws_markMailS_L_B0 fu c.1 c.2 (k (.exit 0) ⟨[.dead, (.int .i64 c.1), .dead, .dead, .dead, .dead, .dead, .dead, .dead, .dead, .dead, .dead, .dead, .dead, .dead, .dead, .dead, .dead, .dead, .dead, .dead, .dead, .dead, .dead, .dead, .dead, .dead, .dead, .dead, .dead, .dead, .dead, .dead, .dead, .dead, .dead, .dead, .dead, .dead, .dead, .dead, .dead, .dead, .dead, .dead, .dead, .dead, .dead, .dead, .dead, .dead, .dead, .dead, .dead, .dead, .dead, .dead, .dead, .dead, .dead, .dead, .dead, .dead, .dead, .dead, .dead, .dead, .dead, .dead, .dead, .dead, .dead, .dead, .dead, .dead, .dead, .dead, .dead], []⟩)  go
def lp_laws_markMailS_L (fu : Nat) : Lp RT den (Int) := fun b s k => match b with | 0 => handle ps_laws_markMailS_L_0 os_laws_markMailS_L_0 conv_laws_markMailS_L_0 (Bk_laws_markMailS_L_0 fu) fu s k | _ => none
def out_laws_markMailS_L (d : D RT den) (os : List (Ob RT den)) : Option (Int) := match d, os with | .int .i64 a0_0, [] => some (a0_0) | _, _ => none
def enc_laws_markMailS_L (y : Int) : D RT den × List (Ob RT den) := ((.int .i64 y), [])
theorem out_laws_markMailS_L_enc (d : D RT den) (os : List (Ob RT den)) (y : Int) (h : out_laws_markMailS_L d os = some y) : (unh 0 d).1 = (enc_laws_markMailS_L y).1 ∧ os ++ (unh 0 d).2 = (enc_laws_markMailS_L y).2 := by
  unfold out_laws_markMailS_L at h
  split at h
  · cases h; exact ⟨rfl, rfl⟩
  · cases h
theorem ev_laws_markMailS_L (fu : Nat) (k_1_0 : Int) : evFunX E (pc_laws_markMailS_L fu) msk_laws_markMailS_L (lp_laws_markMailS_L fu) out_laws_markMailS_L 64 [(.emp true .impl_Mail), (.int .i64 k_1_0)] [] = F_laws_markMailS_L fu k_1_0 := by kernel_rfl
noncomputable def body_laws_markMailS_L : Code := Try.f64.body.getD .skip
noncomputable def lc_laws_markMailS_L_0 : Code := ((loops 0 body_laws_markMailS_L).getD 0 (0, .skip)).2
theorem round_laws_markMailS_L_0 (fu : Nat) (it : St RT den → Option (Int)) (k : Ex → St RT den → Option (Int)) c w : evCode E (pc_laws_markMailS_L fu) msk_laws_markMailS_L (lp_laws_markMailS_L fu) 0 lc_laws_markMailS_L_0 (back_laws_markMailS_L_0 c w) (after (msk_laws_markMailS_L 0) (msk_laws_markMailS_L 100000) 0 it k) = Bk_laws_markMailS_L_0 fu c k w (fun w => it (back_laws_markMailS_L_0 c w)) := by kernel_rfl
theorem lpok_laws_markMailS_L_0 (fu : Nat) : ∀ s k r, lp_laws_markMailS_L fu 0 s k = some r → ∃ fuel, iter (msk_laws_markMailS_L 0) (msk_laws_markMailS_L 100000) s.objs.length (evCode E (pc_laws_markMailS_L fu) msk_laws_markMailS_L (lp_laws_markMailS_L fu) 0 lc_laws_markMailS_L_0) fuel s k = some r :=
  handle_ok (ps := ps_laws_markMailS_L_0) (os := os_laws_markMailS_L_0) (conv := conv_laws_markMailS_L_0) (B := Bk_laws_markMailS_L_0 fu) (fu := fu) back_laws_markMailS_L_0 (fun raw => by kernel_rfl) 0 (fun c w => by kernel_rfl) (round_laws_markMailS_L_0 fu)
theorem lpok_laws_markMailS_L (fu : Nat) : LpOk E (pc_laws_markMailS_L fu) msk_laws_markMailS_L (lp_laws_markMailS_L fu) (loops 0 body_laws_markMailS_L) := loop_all 1 (by kernel_rfl) fun i hi => match i, hi with
  | 0, _ => by
    have h : (loops 0 body_laws_markMailS_L).getD 0 (0, .skip) = (0, lc_laws_markMailS_L_0) := by kernel_rfl
    rw [h]; exact lpok_laws_markMailS_L_0 fu
  | i + 1, hi => absurd hi (by omega)
def S_laws_markMailS_L (fu : Nat) (xs : List (D RT den)) (ins : List (Ob RT den)) : Option (OutX RT den) := match xs, ins with | [.emp true .impl_Mail, .int .i64 a1_0], [] => some ⟨Int, F_laws_markMailS_L fu a1_0, enc_laws_markMailS_L⟩ | _, _ => none
theorem hpc_laws_markMailS_L (fu : Nat) : ∀ f xs o, pcf_laws_markMailS_L fu f xs = some o → ∀ y, o.x = some y → Good E Try.prog f xs (o.g y) := by
  intro f xs o h
  cases h
theorem hpx_laws_markMailS_L (fu : Nat) : ∀ f xs ins o, pcx_laws_markMailS_L fu f xs ins = some o → ∀ y, o.x = some y → GoodX E Try.prog f xs ins (o.g y).1 (o.g y).2 := by
  intro f xs ins o h
  cases h
theorem goodv_laws_markMailS_L (fu : Nat) (k_1_0 : Int) (y : Int) (hy : F_laws_markMailS_L fu k_1_0 = some y) : GoodX E Try.prog 64 [(.emp true .impl_Mail), (.int .i64 k_1_0)] [] (enc_laws_markMailS_L y).1 (enc_laws_markMailS_L y).2 :=
  funX_good E_ok (pc_good (pc := pc_laws_markMailS_L fu) (hpc_laws_markMailS_L fu) (hpx_laws_markMailS_L fu)) (fn := Try.f64) (c := body_laws_markMailS_L) (out := out_laws_markMailS_L) (y := y) (by kernel_rfl) (by kernel_rfl) (by kernel_rfl) (lpok_laws_markMailS_L fu) (by kernel_rfl) (Nat.le_refl _) (fun d os hd => out_laws_markMailS_L_enc d os _ hd) ((ev_laws_markMailS_L fu k_1_0).trans hy)
theorem good_laws_markMailS_L (fu : Nat) : ∀ xs ins o, S_laws_markMailS_L fu xs ins = some o → ∀ y, o.x = some y → GoodX E Try.prog 64 xs ins (o.g y).1 (o.g y).2 := by
  intro xs ins o h y hy
  unfold S_laws_markMailS_L at h
  split at h
  · rename_i a1_0
    cases h
    exact goodv_laws_markMailS_L fu a1_0 y hy
  · cases h

/-! laws.markNodeResult -/
def F_laws_markNodeResult_L (fu : Nat) (a_0_0 : Int) (a_0_1 : Int) (a_0_2 : Int) (a_0_3 : Int) (a_0_4 : Int) (a_0_5 : Nat) (a_0_6 : Int) (a_0_7 : Int) (a_0_8 : Nat) (a_0_9 : Nat) (a_0_10 : Nat) (k_1_11 : Int) (rn0 : Nat) (rf0 : (Nat → S_impl_Entry)) (rn1 : Nat) (rf1 : (Nat → Int)) (rn2 : Nat) (rf2 : (Nat → Int)) (rn3 : Nat) (rf3 : (Nat → Int)) : Option (Int × (Nat × (Nat → S_impl_Entry)) × (Nat × (Nat → Int)) × (Nat × (Nat → Int)) × (Nat × (Nat → Int))) :=
  ((F_laws_markNode_L fu a_0_1 a_0_2 a_0_3 a_0_4 a_0_5 a_0_6 a_0_7 a_0_8 a_0_9 a_0_10 k_1_11 rn0 rf0 rn1 rf1 rn2 rf2 rn3 rf3).bind fun y206 => ((F_laws_markMailS_L fu y206.1).bind fun y207 =>
    (some (y207, (y206.2.1.1, y206.2.1.2), (y206.2.2.1.1, y206.2.2.1.2), (y206.2.2.2.1.1, y206.2.2.2.1.2), (y206.2.2.2.2.1, y206.2.2.2.2.2)))))
def pcf_laws_markNodeResult_L (fu : Nat) (f : Nat) (xs : List (D RT den)) : Option (Out RT den) := none
def pcx_laws_markNodeResult_L (fu : Nat) (f : Nat) (xs : List (D RT den)) (ins : List (Ob RT den)) : Option (OutX RT den) := match f with | 35 => S_laws_markNode_L fu xs ins | 64 => S_laws_markMailS_L fu xs ins | _ => none
def pc_laws_markNodeResult_L (fu : Nat) : Pc RT den := ⟨pcf_laws_markNodeResult_L fu, fun f => match f with | 35 => true | 64 => true | _ => false, fun f => match f with | 35 => true | 64 => true | _ => false, pcx_laws_markNodeResult_L fu⟩
def msk_laws_markNodeResult_L (b : Nat) : List Nat := []
def lp_laws_markNodeResult_L (fu : Nat) : Lp RT den (Int × (Nat × (Nat → S_impl_Entry)) × (Nat × (Nat → Int)) × (Nat × (Nat → Int)) × (Nat × (Nat → Int))) := fun b s k => none
def out_laws_markNodeResult_L (d : D RT den) (os : List (Ob RT den)) : Option (Int × (Nat × (Nat → S_impl_Entry)) × (Nat × (Nat → Int)) × (Nat × (Nat → Int)) × (Nat × (Nat → Int))) := match d, os with | .int .i64 a0_0, [.row true .impl_Entry n0 f0, .row true .i64 n1 f1, .row true .i64 n2 f2, .row true .i64 n3 f3] => some (a0_0, (n0, f0), (n1, f1), (n2, f2), (n3, f3)) | _, _ => none
def enc_laws_markNodeResult_L (y : Int × (Nat × (Nat → S_impl_Entry)) × (Nat × (Nat → Int)) × (Nat × (Nat → Int)) × (Nat × (Nat → Int))) : D RT den × List (Ob RT den) := ((.int .i64 y.1), [(.row true .impl_Entry y.2.1.1 y.2.1.2), (.row true .i64 y.2.2.1.1 y.2.2.1.2), (.row true .i64 y.2.2.2.1.1 y.2.2.2.1.2), (.row true .i64 y.2.2.2.2.1 y.2.2.2.2.2)])
theorem out_laws_markNodeResult_L_enc (d : D RT den) (os : List (Ob RT den)) (y : Int × (Nat × (Nat → S_impl_Entry)) × (Nat × (Nat → Int)) × (Nat × (Nat → Int)) × (Nat × (Nat → Int))) (h : out_laws_markNodeResult_L d os = some y) : (unh 4 d).1 = (enc_laws_markNodeResult_L y).1 ∧ os ++ (unh 4 d).2 = (enc_laws_markNodeResult_L y).2 := by
  unfold out_laws_markNodeResult_L at h
  split at h
  · cases h; exact ⟨rfl, rfl⟩
  · cases h
theorem ev_laws_markNodeResult_L (fu : Nat) (a_0_0 : Int) (a_0_1 : Int) (a_0_2 : Int) (a_0_3 : Int) (a_0_4 : Int) (a_0_5 : Nat) (a_0_6 : Int) (a_0_7 : Int) (a_0_8 : Nat) (a_0_9 : Nat) (a_0_10 : Nat) (k_1_11 : Int) (rn0 : Nat) (rf0 : (Nat → S_impl_Entry)) (rn1 : Nat) (rf1 : (Nat → Int)) (rn2 : Nat) (rf2 : (Nat → Int)) (rn3 : Nat) (rf3 : (Nat → Int)) : evFunX E (pc_laws_markNodeResult_L fu) msk_laws_markNodeResult_L (lp_laws_markNodeResult_L fu) out_laws_markNodeResult_L 28 [(.agg [(.int .i64 a_0_0), (.int .i64 a_0_1), (.int .i64 a_0_2), (.int .i64 a_0_3), (.int .i64 a_0_4), (.os 0 a_0_5), (.int .i64 a_0_6), (.int .i64 a_0_7), (.os 1 a_0_8), (.os 2 a_0_9), (.os 3 a_0_10), (.emp true .impl_Mail)]), (.int .i64 k_1_11)] [(.row true .impl_Entry rn0 rf0), (.row true .i64 rn1 rf1), (.row true .i64 rn2 rf2), (.row true .i64 rn3 rf3)] = F_laws_markNodeResult_L fu a_0_0 a_0_1 a_0_2 a_0_3 a_0_4 a_0_5 a_0_6 a_0_7 a_0_8 a_0_9 a_0_10 k_1_11 rn0 rf0 rn1 rf1 rn2 rf2 rn3 rf3 := by kernel_rfl
noncomputable def body_laws_markNodeResult_L : Code := Try.f28.body.getD .skip
theorem lpok_laws_markNodeResult_L (fu : Nat) : LpOk E (pc_laws_markNodeResult_L fu) msk_laws_markNodeResult_L (lp_laws_markNodeResult_L fu) (loops 0 body_laws_markNodeResult_L) := by
  have h : loops 0 body_laws_markNodeResult_L = [] := by kernel_rfl
  rw [h]; intro p hp; cases hp
def S_laws_markNodeResult_L (fu : Nat) (xs : List (D RT den)) (ins : List (Ob RT den)) : Option (OutX RT den) := match xs, ins with | [.agg [.int .i64 a0_0, .int .i64 a0_1, .int .i64 a0_2, .int .i64 a0_3, .int .i64 a0_4, .os 0 a0_5, .int .i64 a0_6, .int .i64 a0_7, .os 1 a0_8, .os 2 a0_9, .os 3 a0_10, .emp true .impl_Mail], .int .i64 a1_0], [.row true .impl_Entry rn0 rf0, .row true .i64 rn1 rf1, .row true .i64 rn2 rf2, .row true .i64 rn3 rf3] => some ⟨Int × (Nat × (Nat → S_impl_Entry)) × (Nat × (Nat → Int)) × (Nat × (Nat → Int)) × (Nat × (Nat → Int)), F_laws_markNodeResult_L fu a0_0 a0_1 a0_2 a0_3 a0_4 a0_5 a0_6 a0_7 a0_8 a0_9 a0_10 a1_0 rn0 rf0 rn1 rf1 rn2 rf2 rn3 rf3, enc_laws_markNodeResult_L⟩ | _, _ => none
theorem hpc_laws_markNodeResult_L (fu : Nat) : ∀ f xs o, pcf_laws_markNodeResult_L fu f xs = some o → ∀ y, o.x = some y → Good E Try.prog f xs (o.g y) := by
  intro f xs o h
  cases h
theorem hpx_laws_markNodeResult_L (fu : Nat) : ∀ f xs ins o, pcx_laws_markNodeResult_L fu f xs ins = some o → ∀ y, o.x = some y → GoodX E Try.prog f xs ins (o.g y).1 (o.g y).2 := by
  intro f xs ins o h
  unfold pcx_laws_markNodeResult_L at h
  split at h
  · exact good_laws_markNode_L fu xs ins o h
  · exact good_laws_markMailS_L fu xs ins o h
  · cases h
theorem goodv_laws_markNodeResult_L (fu : Nat) (a_0_0 : Int) (a_0_1 : Int) (a_0_2 : Int) (a_0_3 : Int) (a_0_4 : Int) (a_0_5 : Nat) (a_0_6 : Int) (a_0_7 : Int) (a_0_8 : Nat) (a_0_9 : Nat) (a_0_10 : Nat) (k_1_11 : Int) (rn0 : Nat) (rf0 : (Nat → S_impl_Entry)) (rn1 : Nat) (rf1 : (Nat → Int)) (rn2 : Nat) (rf2 : (Nat → Int)) (rn3 : Nat) (rf3 : (Nat → Int)) (y : Int × (Nat × (Nat → S_impl_Entry)) × (Nat × (Nat → Int)) × (Nat × (Nat → Int)) × (Nat × (Nat → Int))) (hy : F_laws_markNodeResult_L fu a_0_0 a_0_1 a_0_2 a_0_3 a_0_4 a_0_5 a_0_6 a_0_7 a_0_8 a_0_9 a_0_10 k_1_11 rn0 rf0 rn1 rf1 rn2 rf2 rn3 rf3 = some y) : GoodX E Try.prog 28 [(.agg [(.int .i64 a_0_0), (.int .i64 a_0_1), (.int .i64 a_0_2), (.int .i64 a_0_3), (.int .i64 a_0_4), (.os 0 a_0_5), (.int .i64 a_0_6), (.int .i64 a_0_7), (.os 1 a_0_8), (.os 2 a_0_9), (.os 3 a_0_10), (.emp true .impl_Mail)]), (.int .i64 k_1_11)] [(.row true .impl_Entry rn0 rf0), (.row true .i64 rn1 rf1), (.row true .i64 rn2 rf2), (.row true .i64 rn3 rf3)] (enc_laws_markNodeResult_L y).1 (enc_laws_markNodeResult_L y).2 :=
  funX_good E_ok (pc_good (pc := pc_laws_markNodeResult_L fu) (hpc_laws_markNodeResult_L fu) (hpx_laws_markNodeResult_L fu)) (fn := Try.f28) (c := body_laws_markNodeResult_L) (out := out_laws_markNodeResult_L) (y := y) (by kernel_rfl) (by kernel_rfl) (by kernel_rfl) (lpok_laws_markNodeResult_L fu) (by kernel_rfl) (Nat.le_refl _) (fun d os hd => out_laws_markNodeResult_L_enc d os _ hd) ((ev_laws_markNodeResult_L fu a_0_0 a_0_1 a_0_2 a_0_3 a_0_4 a_0_5 a_0_6 a_0_7 a_0_8 a_0_9 a_0_10 k_1_11 rn0 rf0 rn1 rf1 rn2 rf2 rn3 rf3).trans hy)
theorem good_laws_markNodeResult_L (fu : Nat) : ∀ xs ins o, S_laws_markNodeResult_L fu xs ins = some o → ∀ y, o.x = some y → GoodX E Try.prog 28 xs ins (o.g y).1 (o.g y).2 := by
  intro xs ins o h y hy
  unfold S_laws_markNodeResult_L at h
  split at h
  · rename_i a0_0 a0_1 a0_2 a0_3 a0_4 a0_5 a0_6 a0_7 a0_8 a0_9 a0_10 a1_0 rn0 rf0 rn1 rf1 rn2 rf2 rn3 rf3
    cases h
    exact goodv_laws_markNodeResult_L fu a0_0 a0_1 a0_2 a0_3 a0_4 a0_5 a0_6 a0_7 a0_8 a0_9 a0_10 a1_0 rn0 rf0 rn1 rf1 rn2 rf2 rn3 rf3 y hy
  · cases h

/-! laws.eqInt64S -/
def F_laws_eqInt64S_B0 {ρ : Type} (fu : Nat) (a0_0 : (Sl Int)) (b1_1 : (Sl Int)) (k0 : Option ρ) (k1 : Option ρ) (i5_2 : Int) (go : Int → Option ρ) : Option ρ :=
  (bif (decide (i5_2 < ((a0_0.n : Nat) : Int))) then ((bif (decide (0 ≤ i5_2) && decide ((Int.toNat i5_2) < a0_0.n)) then some () else none : Option Unit).bind fun _ => ((bif (decide (0 ≤ i5_2) &&
    decide ((Int.toNat i5_2) < b1_1.n)) then some () else none : Option Unit).bind fun _ => (bif ((a0_0.f (Int.toNat i5_2)) != (b1_1.f (Int.toNat i5_2))) then k0 else (go (IntKind.wrap .i64 (i5_2 + 1)))))) else
    k1)
def F_laws_eqInt64S (fu : Nat) (a_0 : (Sl Int)) (b_1 : (Sl Int)) : Option (Bool) :=
  (bif (((a_0.n : Nat) : Int) != ((b_1.n : Nat) : Int)) then (some false) else (L (fun w0 go0 => F_laws_eqInt64S_B0 fu a_0 b_1 (some false) (some true) w0 go0) fu (0 : Int)))
def pcf_laws_eqInt64S (fu : Nat) (f : Nat) (xs : List (D RT den)) : Option (Out RT den) := none
def pcx_laws_eqInt64S (fu : Nat) (f : Nat) (xs : List (D RT den)) (ins : List (Ob RT den)) : Option (OutX RT den) := none
def pc_laws_eqInt64S (fu : Nat) : Pc RT den := ⟨pcf_laws_eqInt64S fu, fun _ => false, fun _ => false, pcx_laws_eqInt64S fu⟩
def msk_laws_eqInt64S (b : Nat) : List Nat := match b with | 0 => [2, 3, 4, 6, 7, 8, 9, 10, 11, 12, 13, 14, 15, 16, 17, 18, 19, 20, 21, 22, 23, 24, 25] | 100000 => [0, 1, 2, 3, 5, 6, 7, 8, 9, 10, 11, 12, 13, 14, 15, 16, 17, 18, 19, 20, 21, 22, 23, 24, 25] | _ => []
def ps_laws_eqInt64S_0 : List (Pat RT) := [.flat (.rs .i64), .flat (.rs .i64), .flat .dead, .flat .dead, .flat .dead, .flat (.int .i64), .flat .dead, .flat .dead, .flat .dead, .flat .dead, .flat .dead, .flat .dead, .flat .dead, .flat .dead, .flat .dead, .flat .dead, .flat .dead, .flat .dead, .flat .dead, .flat .dead, .flat .dead, .flat .dead, .flat .dead, .flat .dead, .flat .dead, .flat .dead]
def os_laws_eqInt64S_0 : List (OP RT) := []
def conv_laws_eqInt64S_0 (r : Raw den ps_laws_eqInt64S_0 os_laws_eqInt64S_0) : ((Sl Int) × (Sl Int)) × (Int) := ((r.1.1, r.1.2.1), r.1.2.2.2.2.2.1)
def back_laws_eqInt64S_0 (c : (Sl Int) × (Sl Int)) (w : Int) : St RT den := ⟨[(.rs c.1.z .i64 c.1.n c.1.f), (.rs c.2.z .i64 c.2.n c.2.f), .dead, .dead, .dead, (.int .i64 w), .dead, .dead, .dead, .dead, .dead, .dead, .dead, .dead, .dead, .dead, .dead, .dead, .dead, .dead, .dead, .dead, .dead, .dead, .dead, .dead], []⟩
def Bk_laws_eqInt64S_0 {ρ : Type} (fu : Nat) (c : (Sl Int) × (Sl Int)) (k : Ex → St RT den → Option ρ) (w : Int) (go : (Int) → Option ρ) : Option ρ := F_laws_eqInt64S_B0 fu c.1 c.2 (k .ret ⟨[.dead, .dead, .dead, .dead, (.bool false), .dead, .dead, .dead, .dead, .dead, .dead, .dead, .dead, .dead, .dead, .dead, .dead, .dead, .dead, .dead, .dead, .dead, .dead, .dead, .dead, .dead], []⟩) (k (.exit 0) ⟨[.dead, .dead, .dead, .dead, .dead, .dead, .dead, .dead, .dead, .dead, .dead, .dead, .dead, .dead, .dead, .dead, .dead, .dead, .dead, .dead, .dead, .dead, .dead, .dead, .dead, .dead], []⟩) w go
def lp_laws_eqInt64S (fu : Nat) : Lp RT den (Bool) := fun b s k => match b with | 0 => handle ps_laws_eqInt64S_0 os_laws_eqInt64S_0 conv_laws_eqInt64S_0 (Bk_laws_eqInt64S_0 fu) fu s k | _ => none
theorem ev_laws_eqInt64S (fu : Nat) (a_0 : (Sl Int)) (b_1 : (Sl Int)) : evFun E (pc_laws_eqInt64S fu) msk_laws_eqInt64S (lp_laws_eqInt64S fu) out_bo 72 [(.rs a_0.z .i64 a_0.n a_0.f), (.rs b_1.z .i64 b_1.n b_1.f)] = F_laws_eqInt64S fu a_0 b_1 := by kernel_rfl
noncomputable def body_laws_eqInt64S : Code := Try.f72.body.getD .skip
noncomputable def lc_laws_eqInt64S_0 : Code := ((loops 0 body_laws_eqInt64S).getD 0 (0, .skip)).2
theorem round_laws_eqInt64S_0 (fu : Nat) (it : St RT den → Option (Bool)) (k : Ex → St RT den → Option (Bool)) c w : evCode E (pc_laws_eqInt64S fu) msk_laws_eqInt64S (lp_laws_eqInt64S fu) 0 lc_laws_eqInt64S_0 (back_laws_eqInt64S_0 c w) (after (msk_laws_eqInt64S 0) (msk_laws_eqInt64S 100000) 0 it k) = Bk_laws_eqInt64S_0 fu c k w (fun w => it (back_laws_eqInt64S_0 c w)) := by kernel_rfl
theorem lpok_laws_eqInt64S_0 (fu : Nat) : ∀ s k r, lp_laws_eqInt64S fu 0 s k = some r → ∃ fuel, iter (msk_laws_eqInt64S 0) (msk_laws_eqInt64S 100000) s.objs.length (evCode E (pc_laws_eqInt64S fu) msk_laws_eqInt64S (lp_laws_eqInt64S fu) 0 lc_laws_eqInt64S_0) fuel s k = some r :=
  handle_ok (ps := ps_laws_eqInt64S_0) (os := os_laws_eqInt64S_0) (conv := conv_laws_eqInt64S_0) (B := Bk_laws_eqInt64S_0 fu) (fu := fu) back_laws_eqInt64S_0 (fun raw => by kernel_rfl) 0 (fun c w => by kernel_rfl) (round_laws_eqInt64S_0 fu)
theorem lpok_laws_eqInt64S (fu : Nat) : LpOk E (pc_laws_eqInt64S fu) msk_laws_eqInt64S (lp_laws_eqInt64S fu) (loops 0 body_laws_eqInt64S) := loop_all 1 (by kernel_rfl) fun i hi => match i, hi with
  | 0, _ => by
    have h : (loops 0 body_laws_eqInt64S).getD 0 (0, .skip) = (0, lc_laws_eqInt64S_0) := by kernel_rfl
    rw [h]; exact lpok_laws_eqInt64S_0 fu
  | i + 1, hi => absurd hi (by omega)
def S_laws_eqInt64S (fu : Nat) (xs : List (D RT den)) : Option (Out RT den) := match xs with | [.rs za0_0 .i64 na0_0 fa0_0, .rs za1_0 .i64 na1_0 fa1_0] => some ⟨Bool, F_laws_eqInt64S fu (⟨za0_0, na0_0, fa0_0⟩ : (Sl Int)) (⟨za1_0, na1_0, fa1_0⟩ : (Sl Int)), enc_bo, fun _ => true⟩ | _ => none
theorem hpc_laws_eqInt64S (fu : Nat) : ∀ f xs o, pcf_laws_eqInt64S fu f xs = some o → ∀ y, o.x = some y → Good E Try.prog f xs (o.g y) := by
  intro f xs o h
  cases h
theorem hpx_laws_eqInt64S (fu : Nat) : ∀ f xs ins o, pcx_laws_eqInt64S fu f xs ins = some o → ∀ y, o.x = some y → GoodX E Try.prog f xs ins (o.g y).1 (o.g y).2 := by
  intro f xs ins o h
  cases h
theorem goodv_laws_eqInt64S (fu : Nat) (a_0 : (Sl Int)) (b_1 : (Sl Int)) (y : Bool) (hy : F_laws_eqInt64S fu a_0 b_1 = some y) : Good E Try.prog 72 [(.rs a_0.z .i64 a_0.n a_0.f), (.rs b_1.z .i64 b_1.n b_1.f)] (enc_bo y) :=
  fun_good E_ok (pc_good (pc := pc_laws_eqInt64S fu) (hpc_laws_eqInt64S fu) (hpx_laws_eqInt64S fu)) (fn := Try.f72) (c := body_laws_eqInt64S) (out := out_bo) (y := y) (by kernel_rfl) (by kernel_rfl) (by kernel_rfl) (lpok_laws_eqInt64S fu) (fun d hd => out_bo_enc d _ hd) ((ev_laws_eqInt64S fu a_0 b_1).trans hy)
theorem good_laws_eqInt64S (fu : Nat) : ∀ xs o, S_laws_eqInt64S fu xs = some o → ∀ y, o.x = some y → Good E Try.prog 72 xs (o.g y) := by
  intro xs o h y hy
  unfold S_laws_eqInt64S at h
  split at h
  · rename_i za0_0 na0_0 fa0_0 za1_0 na1_0 fa1_0
    cases h
    exact goodv_laws_eqInt64S fu (⟨za0_0, na0_0, fa0_0⟩ : (Sl Int)) (⟨za1_0, na1_0, fa1_0⟩ : (Sl Int)) y hy
  · cases h
end Go.Proofs.Ytmdjkdgjmbfegaa.Pc
