/- The functions' evaluated forms, each a proved summary. Conditions: none. -/
import Derived.Test.YtmnbmponjhglcaaPcF6
namespace Go.Proofs.Ytmnbmponjhglcaa.Pc
open Go Go.RowKit Go.Proofs Vm
set_option linter.unusedVariables false
set_option linter.unusedSimpArgs false
set_option maxRecDepth 100000
/-! laws.eqSealS -/
def F_laws_eqSealS_B0 {ρ : Type} (fu : Nat) (a0_0 : (Sl S_impl_Seal)) (b1_1 : (Sl S_impl_Seal)) (k0 : Option ρ) (k1 : Option ρ) (i5_2 : Int) (go : Int → Option ρ) : Option ρ :=
  (bif (decide (i5_2 < ((a0_0.n : Nat) : Int))) then ((bif (decide (0 ≤ i5_2) && decide ((Int.toNat i5_2) < a0_0.n)) then some () else none : Option Unit).bind fun _ => ((bif (decide (0 ≤ i5_2) &&
    decide ((Int.toNat i5_2) < b1_1.n)) then some () else none : Option Unit).bind fun _ => ((F_laws_eqSeal fu (a0_0.f (Int.toNat i5_2)) (b1_1.f (Int.toNat i5_2))).bind fun y438 =>
    (bif (!y438) then k0 else (go (IntKind.wrap .i64 (i5_2 + 1))))))) else k1)
def F_laws_eqSealS (fu : Nat) (a_0 : (Sl S_impl_Seal)) (b_1 : (Sl S_impl_Seal)) : Option (Bool) :=
  (bif (((a_0.n : Nat) : Int) != ((b_1.n : Nat) : Int)) then (some false) else (L (fun w0 go0 => F_laws_eqSealS_B0 fu a_0 b_1 (some false) (some true) w0 go0) fu (0 : Int)))
def pcf_c12 (fu : Nat) (f : Nat) (xs : List (D RT den)) : Option (Out RT den) := match f with | 121 => S_c11 fu xs | _ => none
def pc_c12 (fu : Nat) : Pc RT den := ⟨pcf_c12 fu, fun _ => false, fun _ => false, pcd0, pcx0⟩
def msk_c12 (b : Nat) : List Nat := match b with | 0 => [2, 3, 4, 6, 7, 8, 9, 10, 11, 12, 13, 14, 15, 16, 17, 18, 19, 20, 21, 22, 23, 24, 25, 26] | 100000 => [0, 1, 2, 3, 5, 6, 7, 8, 9, 10, 11, 12, 13, 14, 15, 16, 17, 18, 19, 20, 21, 22, 23, 24, 25, 26] | _ => []
def ps_c12_0 : List (Pat RT) := [.flat (.rs .impl_Seal), .flat (.rs .impl_Seal), .flat .q, .flat .q, .flat .q, .flat (.int .i64), .flat .q, .flat .q, .flat .q, .flat .q, .flat .q, .flat .q, .flat .q, .flat .q, .flat .q, .flat .q, .flat .q, .flat .q, .flat .q, .flat .q, .flat .q, .flat .q, .flat .q, .flat .q, .flat .q, .flat .q, .flat .q]
def os_c12_0 : List (OP RT) := []
def conv_c12_0 (r : Raw den ps_c12_0 os_c12_0) : ((Sl S_impl_Seal) × (Sl S_impl_Seal)) × (Int) := ((r.1.1, r.1.2.1), r.1.2.2.2.2.2.1)
def back_c12_0 (c : (Sl S_impl_Seal) × (Sl S_impl_Seal)) (w : Int) : St RT den := ⟨[(.rs c.1.z .impl_Seal c.1.n c.1.f), (.rs c.2.z .impl_Seal c.2.n c.2.f), .q, .q, .q, (.int .i64 w), .q, .q, .q, .q, .q, .q, .q, .q, .q, .q, .q, .q, .q, .q, .q, .q, .q, .q, .q, .q, .q], []⟩
def Bk_c12_0 {ρ : Type} (fu : Nat) (c : (Sl S_impl_Seal) × (Sl S_impl_Seal)) (k : Ex → St RT den → Option ρ) (w : Int) (go : (Int) → Option ρ) : Option ρ := F_laws_eqSealS_B0 fu c.1 c.2 (k .ret ⟨[.q, .q, .q, .q, (.bool false), .q, .q, .q, .q, .q, .q, .q, .q, .q, .q, .q, .q, .q, .q, .q, .q, .q, .q, .q, .q, .q, .q], []⟩) (k (.exit 0) ⟨[.q, .q, .q, .q, .q, .q, .q, .q, .q, .q, .q, .q, .q, .q, .q, .q, .q, .q, .q, .q, .q, .q, .q, .q, .q, .q, .q], []⟩) w go
def lp_c12 (fu : Nat) : Lp RT den (Bool) := fun b s k => match b with | 0 => handle ps_c12_0 os_c12_0 conv_c12_0 (Bk_c12_0 fu) fu s k | _ => none
theorem ev_c12 (fu : Nat) (a_0 : (Sl S_impl_Seal)) (b_1 : (Sl S_impl_Seal)) : evFun E (pc_c12 fu) msk_c12 (lp_c12 fu) out_bo 54 [(.rs a_0.z .impl_Seal a_0.n a_0.f), (.rs b_1.z .impl_Seal b_1.n b_1.f)] = F_laws_eqSealS fu a_0 b_1 := by kernel_rfl
noncomputable def body_c12 : Code := Try.f54.body.getD .skip
noncomputable def lc_c12_0 : Code := ((loops 0 body_c12).getD 0 (0, .skip)).2
theorem round_c12_0 (fu : Nat) (it : St RT den → Option (Bool)) (k : Ex → St RT den → Option (Bool)) c w : evCode E (pc_c12 fu) msk_c12 (lp_c12 fu) 0 lc_c12_0 (back_c12_0 c w) (after (msk_c12 0) (msk_c12 100000) 0 it k) = Bk_c12_0 fu c k w (fun w => it (back_c12_0 c w)) := by kernel_rfl
theorem lpok_c12_0 (fu : Nat) : ∀ s k r, lp_c12 fu 0 s k = some r → ∃ fuel, iter (msk_c12 0) (msk_c12 100000) s.objs.length (evCode E (pc_c12 fu) msk_c12 (lp_c12 fu) 0 lc_c12_0) fuel s k = some r :=
  handle_ok (ps := ps_c12_0) (os := os_c12_0) (conv := conv_c12_0) (B := Bk_c12_0 fu) (fu := fu) back_c12_0 (fun raw => by kernel_rfl) 0 (fun c w => by kernel_rfl) (round_c12_0 fu)
theorem lpok_c12 (fu : Nat) : LpOk E (pc_c12 fu) msk_c12 (lp_c12 fu) (loops 0 body_c12) := loop_all 1 (by kernel_rfl) fun i hi => match i, hi with
  | 0, _ => by
    have h : (loops 0 body_c12).getD 0 (0, .skip) = (0, lc_c12_0) := by kernel_rfl
    rw [h]; exact lpok_c12_0 fu
  | i + 1, hi => absurd hi (by omega)
def S_c12 (fu : Nat) (xs : List (D RT den)) : Option (Out RT den) := match xs with | [.rs za0_0 .impl_Seal na0_0 fa0_0, .rs za1_0 .impl_Seal na1_0 fa1_0] => some ⟨Bool, F_laws_eqSealS fu (⟨za0_0, na0_0, fa0_0⟩ : (Sl S_impl_Seal)) (⟨za1_0, na1_0, fa1_0⟩ : (Sl S_impl_Seal)), enc_bo, fun _ => true⟩ | _ => none
theorem hpc_c12 (fu : Nat) : ∀ f xs o, pcf_c12 fu f xs = some o → ∀ y, o.x = some y → Good E Try.prog f xs (o.g y) := by
  intro f xs o h
  unfold pcf_c12 at h
  split at h
  · exact good_c11 fu xs o h
  · cases h
theorem goodv_c12 (fu : Nat) (a_0 : (Sl S_impl_Seal)) (b_1 : (Sl S_impl_Seal)) (y : Bool) (hy : F_laws_eqSealS fu a_0 b_1 = some y) : Good E Try.prog 54 [(.rs a_0.z .impl_Seal a_0.n a_0.f), (.rs b_1.z .impl_Seal b_1.n b_1.f)] (enc_bo y) :=
  fun_good E_ok (pc_good (pc := pc_c12 fu) (hpc_c12 fu) hpx0) (fn := Try.f54) (c := body_c12) (out := out_bo) (y := y) (by kernel_rfl) (by kernel_rfl) (by kernel_rfl) (lpok_c12 fu) (fun d hd => out_bo_enc d _ hd) ((ev_c12 fu a_0 b_1).trans hy)
theorem good_c12 (fu : Nat) : ∀ xs o, S_c12 fu xs = some o → ∀ y, o.x = some y → Good E Try.prog 54 xs (o.g y) := by
  intro xs o h y hy
  unfold S_c12 at h
  split at h
  · rename_i za0_0 na0_0 fa0_0 za1_0 na1_0 fa1_0
    cases h
    exact goodv_c12 fu (⟨za0_0, na0_0, fa0_0⟩ : (Sl S_impl_Seal)) (⟨za1_0, na1_0, fa1_0⟩ : (Sl S_impl_Seal)) y hy
  · cases h

/-! laws.eqCluster -/
def F_laws_eqCluster (fu : Nat) (a_0 : S_impl_Cluster) (b_1 : S_impl_Cluster) : Option (Bool) :=
  ((F_laws_eqNodeS fu a_0.Nodes b_1.Nodes).bind fun y426 => (bif (!y426) then (some false) else ((F_laws_eqMailS fu a_0.Mails b_1.Mails).bind fun y427 => (bif (!y427) then (some false) else
    ((F_laws_eqWonS fu a_0.Wins b_1.Wins).bind fun y428 => (bif (!y428) then (some false) else ((F_laws_eqSealS fu a_0.Seals b_1.Seals).bind fun y429 => (bif (!y429) then (some false) else
    (some true)))))))))
def pcf_c13 (fu : Nat) (f : Nat) (xs : List (D RT den)) : Option (Out RT den) := match f with | 51 => S_c6 fu xs | 52 => S_c8 fu xs | 53 => S_c10 fu xs | 54 => S_c12 fu xs | _ => none
def pc_c13 (fu : Nat) : Pc RT den := ⟨pcf_c13 fu, fun _ => false, fun _ => false, pcd0, pcx0⟩
def msk_c13 (b : Nat) : List Nat := []
def lp_c13 (fu : Nat) : Lp RT den (Bool) := fun b s k => none
theorem ev_c13 (fu : Nat) (a_0 : S_impl_Cluster) (b_1 : S_impl_Cluster) : evFun E (pc_c13 fu) msk_c13 (lp_c13 fu) out_bo 12 [(.agg [(.rs a_0.Nodes.z .impl_Node a_0.Nodes.n a_0.Nodes.f), (.rs a_0.Mails.z .impl_Mail a_0.Mails.n a_0.Mails.f), (.rs a_0.Wins.z .impl_Won a_0.Wins.n a_0.Wins.f), (.rs a_0.Seals.z .impl_Seal a_0.Seals.n a_0.Seals.f)]), (.agg [(.rs b_1.Nodes.z .impl_Node b_1.Nodes.n b_1.Nodes.f), (.rs b_1.Mails.z .impl_Mail b_1.Mails.n b_1.Mails.f), (.rs b_1.Wins.z .impl_Won b_1.Wins.n b_1.Wins.f), (.rs b_1.Seals.z .impl_Seal b_1.Seals.n b_1.Seals.f)])] = F_laws_eqCluster fu a_0 b_1 := by kernel_rfl
noncomputable def body_c13 : Code := Try.f12.body.getD .skip
theorem lpok_c13 (fu : Nat) : LpOk E (pc_c13 fu) msk_c13 (lp_c13 fu) (loops 0 body_c13) := by
  have h : loops 0 body_c13 = [] := by kernel_rfl
  rw [h]; intro p hp; cases hp
def S_c13 (fu : Nat) (xs : List (D RT den)) : Option (Out RT den) := match xs with | [.agg [.rs za0_1 .impl_Node na0_1 fa0_1, .rs za0_2 .impl_Mail na0_2 fa0_2, .rs za0_3 .impl_Won na0_3 fa0_3, .rs za0_4 .impl_Seal na0_4 fa0_4], .agg [.rs za1_1 .impl_Node na1_1 fa1_1, .rs za1_2 .impl_Mail na1_2 fa1_2, .rs za1_3 .impl_Won na1_3 fa1_3, .rs za1_4 .impl_Seal na1_4 fa1_4]] => some ⟨Bool, F_laws_eqCluster fu (⟨(⟨za0_1, na0_1, fa0_1⟩ : (Sl S_impl_Node)), (⟨za0_2, na0_2, fa0_2⟩ : (Sl S_impl_Mail)), (⟨za0_3, na0_3, fa0_3⟩ : (Sl S_impl_Won)), (⟨za0_4, na0_4, fa0_4⟩ : (Sl S_impl_Seal))⟩ : S_impl_Cluster) (⟨(⟨za1_1, na1_1, fa1_1⟩ : (Sl S_impl_Node)), (⟨za1_2, na1_2, fa1_2⟩ : (Sl S_impl_Mail)), (⟨za1_3, na1_3, fa1_3⟩ : (Sl S_impl_Won)), (⟨za1_4, na1_4, fa1_4⟩ : (Sl S_impl_Seal))⟩ : S_impl_Cluster), enc_bo, fun _ => true⟩ | _ => none
theorem hpc_c13 (fu : Nat) : ∀ f xs o, pcf_c13 fu f xs = some o → ∀ y, o.x = some y → Good E Try.prog f xs (o.g y) := by
  intro f xs o h
  unfold pcf_c13 at h
  split at h
  · exact good_c6 fu xs o h
  · exact good_c8 fu xs o h
  · exact good_c10 fu xs o h
  · exact good_c12 fu xs o h
  · cases h
theorem goodv_c13 (fu : Nat) (a_0 : S_impl_Cluster) (b_1 : S_impl_Cluster) (y : Bool) (hy : F_laws_eqCluster fu a_0 b_1 = some y) : Good E Try.prog 12 [(.agg [(.rs a_0.Nodes.z .impl_Node a_0.Nodes.n a_0.Nodes.f), (.rs a_0.Mails.z .impl_Mail a_0.Mails.n a_0.Mails.f), (.rs a_0.Wins.z .impl_Won a_0.Wins.n a_0.Wins.f), (.rs a_0.Seals.z .impl_Seal a_0.Seals.n a_0.Seals.f)]), (.agg [(.rs b_1.Nodes.z .impl_Node b_1.Nodes.n b_1.Nodes.f), (.rs b_1.Mails.z .impl_Mail b_1.Mails.n b_1.Mails.f), (.rs b_1.Wins.z .impl_Won b_1.Wins.n b_1.Wins.f), (.rs b_1.Seals.z .impl_Seal b_1.Seals.n b_1.Seals.f)])] (enc_bo y) :=
  fun_good E_ok (pc_good (pc := pc_c13 fu) (hpc_c13 fu) hpx0) (fn := Try.f12) (c := body_c13) (out := out_bo) (y := y) (by kernel_rfl) (by kernel_rfl) (by kernel_rfl) (lpok_c13 fu) (fun d hd => out_bo_enc d _ hd) ((ev_c13 fu a_0 b_1).trans hy)
theorem good_c13 (fu : Nat) : ∀ xs o, S_c13 fu xs = some o → ∀ y, o.x = some y → Good E Try.prog 12 xs (o.g y) := by
  intro xs o h y hy
  unfold S_c13 at h
  split at h
  · rename_i za0_1 na0_1 fa0_1 za0_2 na0_2 fa0_2 za0_3 na0_3 fa0_3 za0_4 na0_4 fa0_4 za1_1 na1_1 fa1_1 za1_2 na1_2 fa1_2 za1_3 na1_3 fa1_3 za1_4 na1_4 fa1_4
    cases h
    exact goodv_c13 fu (⟨(⟨za0_1, na0_1, fa0_1⟩ : (Sl S_impl_Node)), (⟨za0_2, na0_2, fa0_2⟩ : (Sl S_impl_Mail)), (⟨za0_3, na0_3, fa0_3⟩ : (Sl S_impl_Won)), (⟨za0_4, na0_4, fa0_4⟩ : (Sl S_impl_Seal))⟩ : S_impl_Cluster) (⟨(⟨za1_1, na1_1, fa1_1⟩ : (Sl S_impl_Node)), (⟨za1_2, na1_2, fa1_2⟩ : (Sl S_impl_Mail)), (⟨za1_3, na1_3, fa1_3⟩ : (Sl S_impl_Won)), (⟨za1_4, na1_4, fa1_4⟩ : (Sl S_impl_Seal))⟩ : S_impl_Cluster) y hy
  · cases h

/-! laws.heldEntryS -/
def F_laws_heldEntryS_B0 {ρ : Type} (fu : Nat) (a0_0 : (Sl S_impl_Entry)) (k0 : Int → Option ρ) (k1 : Int → Option ρ) (k1_1 : Int) (i5_2 : Int) (go : Int → Int → Option ρ) : Option ρ :=
  (bif (decide (i5_2 < ((a0_0.n : Nat) : Int))) then ((bif (decide (0 ≤ i5_2) && decide ((Int.toNat i5_2) < a0_0.n)) then some () else none : Option Unit).bind fun _ => (bif ((a0_0.f (Int.toNat i5_2)).Term != k1_1) then
    (k0 k1_1) else ((bif (decide (0 ≤ i5_2) && decide ((Int.toNat i5_2) < a0_0.n)) then some () else none : Option Unit).bind fun _ => (bif ((a0_0.f (Int.toNat i5_2)).Client != (IntKind.wrap .i64 (k1_1 + 1))) then
    (k0 (IntKind.wrap .i64 (k1_1 + 1))) else ((bif (decide (0 ≤ i5_2) && decide ((Int.toNat i5_2) < a0_0.n)) then some () else none : Option Unit).bind fun _ => (bif ((a0_0.f (Int.toNat i5_2)).Seq != (IntKind.wrap .i64 ((IntKind.wrap .i64 (k1_1 + 1)) + 1))) then
    (k0 (IntKind.wrap .i64 ((IntKind.wrap .i64 (k1_1 + 1)) + 1))) else ((bif (decide (0 ≤ i5_2) && decide ((Int.toNat i5_2) < a0_0.n)) then some () else none : Option Unit).bind fun _ =>
    (bif ((a0_0.f (Int.toNat i5_2)).Cmd.Kind != (IntKind.wrap .i64 ((IntKind.wrap .i64 ((IntKind.wrap .i64 (k1_1 + 1)) + 1)) + 1))) then (k0 (IntKind.wrap .i64 ((IntKind.wrap .i64 ((IntKind.wrap .i64 (k1_1 + 1)) + 1)) + 1))) else
    ((bif (decide (0 ≤ i5_2) && decide ((Int.toNat i5_2) < a0_0.n)) then some () else none : Option Unit).bind fun _ => (bif ((a0_0.f (Int.toNat i5_2)).Cmd.Expect != (IntKind.wrap .i64 ((IntKind.wrap .i64 ((IntKind.wrap .i64 ((IntKind.wrap .i64 (k1_1 + 1)) + 1)) + 1)) + 1))) then
    (k0 (IntKind.wrap .i64 ((IntKind.wrap .i64 ((IntKind.wrap .i64 ((IntKind.wrap .i64 (k1_1 + 1)) + 1)) + 1)) + 1))) else ((bif (decide (0 ≤ i5_2) && decide ((Int.toNat i5_2) < a0_0.n)) then
    some () else none : Option Unit).bind fun _ => (bif ((a0_0.f (Int.toNat i5_2)).Cmd.Name != (IntKind.wrap .i64 ((IntKind.wrap .i64 ((IntKind.wrap .i64 ((IntKind.wrap .i64 ((IntKind.wrap .i64 (k1_1 + 1)) + 1)) + 1)) + 1)) + 1))) then
    (k0 (IntKind.wrap .i64 ((IntKind.wrap .i64 ((IntKind.wrap .i64 ((IntKind.wrap .i64 ((IntKind.wrap .i64 (k1_1 + 1)) + 1)) + 1)) + 1)) + 1))) else ((bif (decide (0 ≤ i5_2) &&
    decide ((Int.toNat i5_2) < a0_0.n)) then some () else none : Option Unit).bind fun _ => (bif ((a0_0.f (Int.toNat i5_2)).Cmd.Addr != (IntKind.wrap .i64 ((IntKind.wrap .i64 ((IntKind.wrap .i64 ((IntKind.wrap .i64 ((IntKind.wrap .i64 ((IntKind.wrap .i64 (k1_1 + 1)) + 1)) + 1)) + 1)) + 1)) + 1))) then
    (k0 (IntKind.wrap .i64 ((IntKind.wrap .i64 ((IntKind.wrap .i64 ((IntKind.wrap .i64 ((IntKind.wrap .i64 ((IntKind.wrap .i64 (k1_1 + 1)) + 1)) + 1)) + 1)) + 1)) + 1))) else ((bif (decide (0 ≤ i5_2) &&
    decide ((Int.toNat i5_2) < a0_0.n)) then some () else none : Option Unit).bind fun _ => (bif ((a0_0.f (Int.toNat i5_2)).Cmd.Number != (IntKind.wrap .i64 ((IntKind.wrap .i64 ((IntKind.wrap .i64 ((IntKind.wrap .i64 ((IntKind.wrap .i64 ((IntKind.wrap .i64 ((IntKind.wrap .i64 (k1_1 + 1)) + 1)) + 1)) + 1)) + 1)) + 1)) + 1))) then
    (k0 (IntKind.wrap .i64 ((IntKind.wrap .i64 ((IntKind.wrap .i64 ((IntKind.wrap .i64 ((IntKind.wrap .i64 ((IntKind.wrap .i64 ((IntKind.wrap .i64 (k1_1 + 1)) + 1)) + 1)) + 1)) + 1)) + 1)) + 1))) else
    ((bif (decide (0 ≤ i5_2) && decide ((Int.toNat i5_2) < a0_0.n)) then some () else none : Option Unit).bind fun _ => (bif ((a0_0.f (Int.toNat i5_2)).Cmd.Proto != (IntKind.wrap .i64 ((IntKind.wrap .i64 ((IntKind.wrap .i64 ((IntKind.wrap .i64 ((IntKind.wrap .i64 ((IntKind.wrap .i64 ((IntKind.wrap .i64 ((IntKind.wrap .i64 (k1_1 + 1)) + 1)) + 1)) + 1)) + 1)) + 1)) + 1)) + 1))) then
    (k0 (IntKind.wrap .i64 ((IntKind.wrap .i64 ((IntKind.wrap .i64 ((IntKind.wrap .i64 ((IntKind.wrap .i64 ((IntKind.wrap .i64 ((IntKind.wrap .i64 ((IntKind.wrap .i64 (k1_1 + 1)) + 1)) + 1)) + 1)) + 1)) + 1)) + 1)) + 1))) else
    (go (IntKind.wrap .i64 ((IntKind.wrap .i64 ((IntKind.wrap .i64 ((IntKind.wrap .i64 ((IntKind.wrap .i64 ((IntKind.wrap .i64 ((IntKind.wrap .i64 ((IntKind.wrap .i64 ((IntKind.wrap .i64 (k1_1 + 1)) + 1)) + 1)) + 1)) + 1)) + 1)) + 1)) + 1)) + 1)) (IntKind.wrap .i64 (i5_2 + 1))))))))))))))))))))) else
    (k1 k1_1))
def F_laws_heldEntryS (fu : Nat) (a_0 : (Sl S_impl_Entry)) (k_1 : Int) : Option (Int) :=
  (L (fun w0 go0 => F_laws_heldEntryS_B0 fu a_0 (fun z441 => (some (-1))) (fun z442 => (some z442)) w0.1 w0.2 (fun q0 q1 => go0 (q0, q1))) fu ((k_1, 0) : Int × Int))
def pc_c14 (fu : Nat) : Pc RT den := ⟨pcf0, fun _ => false, fun _ => false, pcd0, pcx0⟩
def msk_c14 (b : Nat) : List Nat := match b with | 0 => [2, 3, 4, 6, 7, 8, 9, 10, 11, 12, 13, 14, 15, 16, 17, 18, 19, 20, 21, 22, 23, 24, 25, 26, 27, 28, 29, 30, 31, 32, 33, 34, 35, 36, 37, 38, 39, 40, 41, 42, 43, 44, 45, 46, 47, 48, 49, 50, 51, 52, 53, 54, 55, 56, 57, 58, 59, 60, 61, 62, 63, 64, 65, 66, 67, 68, 69, 70, 71, 72, 73, 74, 75, 76, 77, 78, 79, 80, 81, 82, 83, 84, 85, 86, 87, 88, 89, 90, 91, 92, 93, 94, 95, 96, 97, 98, 99] | 100000 => [0, 2, 3, 5, 6, 7, 8, 9, 10, 11, 12, 13, 14, 15, 16, 17, 18, 19, 20, 21, 22, 23, 24, 25, 26, 27, 28, 29, 30, 31, 32, 33, 34, 35, 36, 37, 38, 39, 40, 41, 42, 43, 44, 45, 46, 47, 48, 49, 50, 51, 52, 53, 54, 55, 56, 57, 58, 59, 60, 61, 62, 63, 64, 65, 66, 67, 68, 69, 70, 71, 72, 73, 74, 75, 76, 77, 78, 79, 80, 81, 82, 83, 84, 85, 86, 87, 88, 89, 90, 91, 92, 93, 94, 95, 96, 97, 98, 99] | _ => []
def ps_c14_0 : List (Pat RT) := [.flat (.rs .impl_Entry), .flat (.int .i64), .flat .q, .flat .q, .flat .q, .flat (.int .i64), .flat .q, .flat .q, .flat .q, .flat .q, .flat .q, .flat .q, .flat .q, .flat .q, .flat .q, .flat .q, .flat .q, .flat .q, .flat .q, .flat .q, .flat .q, .flat .q, .flat .q, .flat .q, .flat .q, .flat .q, .flat .q, .flat .q, .flat .q, .flat .q, .flat .q, .flat .q, .flat .q, .flat .q, .flat .q, .flat .q, .flat .q, .flat .q, .flat .q, .flat .q, .flat .q, .flat .q, .flat .q, .flat .q, .flat .q, .flat .q, .flat .q, .flat .q, .flat .q, .flat .q, .flat .q, .flat .q, .flat .q, .flat .q, .flat .q, .flat .q, .flat .q, .flat .q, .flat .q, .flat .q, .flat .q, .flat .q, .flat .q, .flat .q, .flat .q, .flat .q, .flat .q, .flat .q, .flat .q, .flat .q, .flat .q, .flat .q, .flat .q, .flat .q, .flat .q, .flat .q, .flat .q, .flat .q, .flat .q, .flat .q, .flat .q, .flat .q, .flat .q, .flat .q, .flat .q, .flat .q, .flat .q, .flat .q, .flat .q, .flat .q, .flat .q, .flat .q, .flat .q, .flat .q, .flat .q, .flat .q, .flat .q, .flat .q, .flat .q, .flat .q]
def os_c14_0 : List (OP RT) := []
def conv_c14_0 (r : Raw den ps_c14_0 os_c14_0) : ((Sl S_impl_Entry)) × (Int × Int) := (r.1.1, (r.1.2.1, r.1.2.2.2.2.2.1))
def back_c14_0 (c : (Sl S_impl_Entry)) (w : Int × Int) : St RT den := ⟨[(.rs c.z .impl_Entry c.n c.f), (.int .i64 w.1), .q, .q, .q, (.int .i64 w.2), .q, .q, .q, .q, .q, .q, .q, .q, .q, .q, .q, .q, .q, .q, .q, .q, .q, .q, .q, .q, .q, .q, .q, .q, .q, .q, .q, .q, .q, .q, .q, .q, .q, .q, .q, .q, .q, .q, .q, .q, .q, .q, .q, .q, .q, .q, .q, .q, .q, .q, .q, .q, .q, .q, .q, .q, .q, .q, .q, .q, .q, .q, .q, .q, .q, .q, .q, .q, .q, .q, .q, .q, .q, .q, .q, .q, .q, .q, .q, .q, .q, .q, .q, .q, .q, .q, .q, .q, .q, .q, .q, .q, .q, .q], []⟩
def Bk_c14_0 {ρ : Type} (fu : Nat) (c : (Sl S_impl_Entry)) (k : Ex → St RT den → Option ρ) (w : Int × Int) (go : (Int × Int) → Option ρ) : Option ρ := F_laws_heldEntryS_B0 fu c (fun a0 => k .ret ⟨[.q, (.int .i64 a0), .q, .q, (.int .i64 (-1)), .q, .q, .q, .q, .q, .q, .q, .q, .q, .q, .q, .q, .q, .q, .q, .q, .q, .q, .q, .q, .q, .q, .q, .q, .q, .q, .q, .q, .q, .q, .q, .q, .q, .q, .q, .q, .q, .q, .q, .q, .q, .q, .q, .q, .q, .q, .q, .q, .q, .q, .q, .q, .q, .q, .q, .q, .q, .q, .q, .q, .q, .q, .q, .q, .q, .q, .q, .q, .q, .q, .q, .q, .q, .q, .q, .q, .q, .q, .q, .q, .q, .q, .q, .q, .q, .q, .q, .q, .q, .q, .q, .q, .q, .q, .q], []⟩) (fun a0 => k (.exit 0) ⟨[.q, (.int .i64 a0), .q, .q, .q, .q, .q, .q, .q, .q, .q, .q, .q, .q, .q, .q, .q, .q, .q, .q, .q, .q, .q, .q, .q, .q, .q, .q, .q, .q, .q, .q, .q, .q, .q, .q, .q, .q, .q, .q, .q, .q, .q, .q, .q, .q, .q, .q, .q, .q, .q, .q, .q, .q, .q, .q, .q, .q, .q, .q, .q, .q, .q, .q, .q, .q, .q, .q, .q, .q, .q, .q, .q, .q, .q, .q, .q, .q, .q, .q, .q, .q, .q, .q, .q, .q, .q, .q, .q, .q, .q, .q, .q, .q, .q, .q, .q, .q, .q, .q], []⟩) w.1 w.2 (fun q0 q1 => go (q0, q1))
def lp_c14 (fu : Nat) : Lp RT den (Int) := fun b s k => match b with | 0 => handle ps_c14_0 os_c14_0 conv_c14_0 (Bk_c14_0 fu) fu s k | _ => none
theorem ev_c14 (fu : Nat) (a_0 : (Sl S_impl_Entry)) (k_1 : Int) : evFun E (pc_c14 fu) msk_c14 (lp_c14 fu) out_i64 60 [(.rs a_0.z .impl_Entry a_0.n a_0.f), (.int .i64 k_1)] = F_laws_heldEntryS fu a_0 k_1 := by kernel_rfl
noncomputable def body_c14 : Code := Try.f60.body.getD .skip
noncomputable def lc_c14_0 : Code := ((loops 0 body_c14).getD 0 (0, .skip)).2
theorem round_c14_0 (fu : Nat) (it : St RT den → Option (Int)) (k : Ex → St RT den → Option (Int)) c w : evCode E (pc_c14 fu) msk_c14 (lp_c14 fu) 0 lc_c14_0 (back_c14_0 c w) (after (msk_c14 0) (msk_c14 100000) 0 it k) = Bk_c14_0 fu c k w (fun w => it (back_c14_0 c w)) := by kernel_rfl
theorem lpok_c14_0 (fu : Nat) : ∀ s k r, lp_c14 fu 0 s k = some r → ∃ fuel, iter (msk_c14 0) (msk_c14 100000) s.objs.length (evCode E (pc_c14 fu) msk_c14 (lp_c14 fu) 0 lc_c14_0) fuel s k = some r :=
  handle_ok (ps := ps_c14_0) (os := os_c14_0) (conv := conv_c14_0) (B := Bk_c14_0 fu) (fu := fu) back_c14_0 (fun raw => by kernel_rfl) 0 (fun c w => by kernel_rfl) (round_c14_0 fu)
theorem lpok_c14 (fu : Nat) : LpOk E (pc_c14 fu) msk_c14 (lp_c14 fu) (loops 0 body_c14) := loop_all 1 (by kernel_rfl) fun i hi => match i, hi with
  | 0, _ => by
    have h : (loops 0 body_c14).getD 0 (0, .skip) = (0, lc_c14_0) := by kernel_rfl
    rw [h]; exact lpok_c14_0 fu
  | i + 1, hi => absurd hi (by omega)
def S_c14 (fu : Nat) (xs : List (D RT den)) : Option (Out RT den) := match xs with | [.rs za0_0 .impl_Entry na0_0 fa0_0, .int .i64 a1_0] => some ⟨Int, F_laws_heldEntryS fu (⟨za0_0, na0_0, fa0_0⟩ : (Sl S_impl_Entry)) a1_0, enc_i64, fun _ => true⟩ | _ => none
theorem goodv_c14 (fu : Nat) (a_0 : (Sl S_impl_Entry)) (k_1 : Int) (y : Int) (hy : F_laws_heldEntryS fu a_0 k_1 = some y) : Good E Try.prog 60 [(.rs a_0.z .impl_Entry a_0.n a_0.f), (.int .i64 k_1)] (enc_i64 y) :=
  fun_good E_ok (pc_good (pc := pc_c14 fu) hpc0 hpx0) (fn := Try.f60) (c := body_c14) (out := out_i64) (y := y) (by kernel_rfl) (by kernel_rfl) (by kernel_rfl) (lpok_c14 fu) (fun d hd => out_i64_enc d _ hd) ((ev_c14 fu a_0 k_1).trans hy)
theorem good_c14 (fu : Nat) : ∀ xs o, S_c14 fu xs = some o → ∀ y, o.x = some y → Good E Try.prog 60 xs (o.g y) := by
  intro xs o h y hy
  unfold S_c14 at h
  split at h
  · rename_i za0_0 na0_0 fa0_0 a1_0
    cases h
    exact goodv_c14 fu (⟨za0_0, na0_0, fa0_0⟩ : (Sl S_impl_Entry)) a1_0 y hy
  · cases h

/-! laws.heldEntriesResult -/
def F_laws_heldEntriesResult (fu : Nat) (a_0 : S_impl_EntriesResult) (k_1 : Int) : Option (Int) :=
  ((F_laws_heldEntryS fu a_0.Entries k_1).bind fun y440 => (bif (decide (y440 < 0)) then (some (-1)) else (some y440)))
def pcf_c15 (fu : Nat) (f : Nat) (xs : List (D RT den)) : Option (Out RT den) := match f with | 60 => S_c14 fu xs | _ => none
def pc_c15 (fu : Nat) : Pc RT den := ⟨pcf_c15 fu, fun _ => false, fun _ => false, pcd0, pcx0⟩
def msk_c15 (b : Nat) : List Nat := []
def lp_c15 (fu : Nat) : Lp RT den (Int) := fun b s k => none
theorem ev_c15 (fu : Nat) (a_0 : S_impl_EntriesResult) (k_1 : Int) : evFun E (pc_c15 fu) msk_c15 (lp_c15 fu) out_i64 15 [(.agg [(.int .i64 a_0.Code), (.rs a_0.Entries.z .impl_Entry a_0.Entries.n a_0.Entries.f)]), (.int .i64 k_1)] = F_laws_heldEntriesResult fu a_0 k_1 := by kernel_rfl
noncomputable def body_c15 : Code := Try.f15.body.getD .skip
theorem lpok_c15 (fu : Nat) : LpOk E (pc_c15 fu) msk_c15 (lp_c15 fu) (loops 0 body_c15) := by
  have h : loops 0 body_c15 = [] := by kernel_rfl
  rw [h]; intro p hp; cases hp
def S_c15 (fu : Nat) (xs : List (D RT den)) : Option (Out RT den) := match xs with | [.agg [.int .i64 a0_1, .rs za0_2 .impl_Entry na0_2 fa0_2], .int .i64 a1_0] => some ⟨Int, F_laws_heldEntriesResult fu (⟨a0_1, (⟨za0_2, na0_2, fa0_2⟩ : (Sl S_impl_Entry))⟩ : S_impl_EntriesResult) a1_0, enc_i64, fun _ => true⟩ | _ => none
theorem hpc_c15 (fu : Nat) : ∀ f xs o, pcf_c15 fu f xs = some o → ∀ y, o.x = some y → Good E Try.prog f xs (o.g y) := by
  intro f xs o h
  unfold pcf_c15 at h
  split at h
  · exact good_c14 fu xs o h
  · cases h
theorem goodv_c15 (fu : Nat) (a_0 : S_impl_EntriesResult) (k_1 : Int) (y : Int) (hy : F_laws_heldEntriesResult fu a_0 k_1 = some y) : Good E Try.prog 15 [(.agg [(.int .i64 a_0.Code), (.rs a_0.Entries.z .impl_Entry a_0.Entries.n a_0.Entries.f)]), (.int .i64 k_1)] (enc_i64 y) :=
  fun_good E_ok (pc_good (pc := pc_c15 fu) (hpc_c15 fu) hpx0) (fn := Try.f15) (c := body_c15) (out := out_i64) (y := y) (by kernel_rfl) (by kernel_rfl) (by kernel_rfl) (lpok_c15 fu) (fun d hd => out_i64_enc d _ hd) ((ev_c15 fu a_0 k_1).trans hy)
theorem good_c15 (fu : Nat) : ∀ xs o, S_c15 fu xs = some o → ∀ y, o.x = some y → Good E Try.prog 15 xs (o.g y) := by
  intro xs o h y hy
  unfold S_c15 at h
  split at h
  · rename_i a0_1 za0_2 na0_2 fa0_2 a1_0
    cases h
    exact goodv_c15 fu (⟨a0_1, (⟨za0_2, na0_2, fa0_2⟩ : (Sl S_impl_Entry))⟩ : S_impl_EntriesResult) a1_0 y hy
  · cases h

/-! laws.FnExactAgreedOf -/
def F_laws_FnExactAgreedOf (fu : Nat) (aC_0 : S_laws_Cluster) : Option (Bool) :=
  ((F_laws_szCluster fu aC_0 1048576).bind fun y1 => (bif (decide (y1 < 0)) then (some true) else ((F_laws_toCluster_U fu aC_0).bind fun y40 => ((F_spec_AgreedOf_H fu (⟨(⟨none,
    y40.1, y40.2.2.2.2.2.1⟩ : (Sl S_impl_Node)), (⟨none, y40.2.1, y40.2.2.2.2.2.2.2.1⟩ : (Sl S_impl_Mail)), (⟨none, y40.2.2.1, y40.2.2.2.2.2.2.2.2.2.1⟩ : (Sl S_impl_Won)), (⟨none,
    y40.2.2.2.1, y40.2.2.2.2.2.2.2.2.2.2.2⟩ : (Sl S_impl_Seal))⟩ : S_impl_Cluster)).bind fun y162 => ((F_laws_toCluster_U fu aC_0).bind fun y163 => ((F_impl_AgreedOf_H fu (⟨(⟨none,
    y163.1, y163.2.2.2.2.2.1⟩ : (Sl S_impl_Node)), (⟨none, y163.2.1, y163.2.2.2.2.2.2.2.1⟩ : (Sl S_impl_Mail)), (⟨none, y163.2.2.1, y163.2.2.2.2.2.2.2.2.2.1⟩ : (Sl S_impl_Won)),
    (⟨none, y163.2.2.2.1, y163.2.2.2.2.2.2.2.2.2.2.2⟩ : (Sl S_impl_Seal))⟩ : S_impl_Cluster)).bind fun y371 => ((F_laws_eqEntriesResult fu (⟨y371.Code, (⟨none, y371.Entries.n,
    y371.Entries.f⟩ : (Sl S_impl_Entry))⟩ : S_impl_EntriesResult) (⟨y162.Code, (⟨none, y162.Entries.n, y162.Entries.f⟩ : (Sl S_impl_Entry))⟩ : S_impl_EntriesResult)).bind fun y372 =>
    (bif (!y372) then (some false) else ((F_laws_toCluster_U fu aC_0).bind fun y373 => ((F_laws_eqCluster fu (⟨(⟨none, y163.1, y163.2.2.2.2.2.1⟩ : (Sl S_impl_Node)), (⟨none,
    y163.2.1, y163.2.2.2.2.2.2.2.1⟩ : (Sl S_impl_Mail)), (⟨none, y163.2.2.1, y163.2.2.2.2.2.2.2.2.2.1⟩ : (Sl S_impl_Won)), (⟨none, y163.2.2.2.1, y163.2.2.2.2.2.2.2.2.2.2.2⟩ : (Sl S_impl_Seal))⟩ : S_impl_Cluster) (⟨(⟨none,
    y373.1, y373.2.2.2.2.2.1⟩ : (Sl S_impl_Node)), (⟨none, y373.2.1, y373.2.2.2.2.2.2.2.1⟩ : (Sl S_impl_Mail)), (⟨none, y373.2.2.1, y373.2.2.2.2.2.2.2.2.2.1⟩ : (Sl S_impl_Won)),
    (⟨none, y373.2.2.2.1, y373.2.2.2.2.2.2.2.2.2.2.2⟩ : (Sl S_impl_Seal))⟩ : S_impl_Cluster)).bind fun y374 => (bif (!y374) then (some false) else ((F_laws_markCluster_U fu y163.1 y163.2.1 y163.2.2.1 y163.2.2.2.1 1 y163.2.2.2.2.1 y163.2.2.2.2.1 y163.2.2.2.2.2.1 y163.2.2.2.2.2.2.1 y163.2.2.2.2.2.2.1 y163.2.2.2.2.2.2.2.1 y163.2.2.2.2.2.2.2.2.1 y163.2.2.2.2.2.2.2.2.2.1 y163.2.2.2.2.2.2.2.2.2.2.1 y163.2.2.2.2.2.2.2.2.2.2.2).bind fun y396 =>
    (((bif (decide (y396.1 < 0)) then (some true) else ((F_laws_eqEntriesResult fu (⟨y371.Code, (⟨none, y371.Entries.n, y371.Entries.f⟩ : (Sl S_impl_Entry))⟩ : S_impl_EntriesResult) (⟨y162.Code,
    (⟨none, y162.Entries.n, y162.Entries.f⟩ : (Sl S_impl_Entry))⟩ : S_impl_EntriesResult)).bind fun y397 => (some (!y397)))) : Option Bool).bind fun m398 => (bif m398 then (some false) else
    ((F_laws_markEntriesResult_L fu y371.Code y371.Entries.n 1 y371.Entries.n y371.Entries.f).bind fun y402 => ((F_laws_heldEntriesResult fu (⟨y371.Code, (⟨none, y371.Entries.n,
    y402.2.2⟩ : (Sl S_impl_Entry))⟩ : S_impl_EntriesResult) 1).bind fun y403 => (bif (decide (y403 < 0)) then (some false) else (bif (y403 != y402.1) then (some false) else
    ((F_laws_toCluster_U fu aC_0).bind fun y404 => ((F_impl_AgreedOf_H fu (⟨(⟨none, y404.1, y404.2.2.2.2.2.1⟩ : (Sl S_impl_Node)), (⟨none, y404.2.1, y404.2.2.2.2.2.2.2.1⟩ : (Sl S_impl_Mail)),
    (⟨none, y404.2.2.1, y404.2.2.2.2.2.2.2.2.2.1⟩ : (Sl S_impl_Won)), (⟨none, y404.2.2.2.1, y404.2.2.2.2.2.2.2.2.2.2.2⟩ : (Sl S_impl_Seal))⟩ : S_impl_Cluster)).bind fun y405 =>
    ((F_laws_eqEntriesResult fu (⟨y405.Code, (⟨none, y405.Entries.n, y405.Entries.f⟩ : (Sl S_impl_Entry))⟩ : S_impl_EntriesResult) (⟨y162.Code, (⟨none, y162.Entries.n,
    y162.Entries.f⟩ : (Sl S_impl_Entry))⟩ : S_impl_EntriesResult)).bind fun y406 => (bif (!y406) then (some false) else ((F_laws_heldEntriesResult fu (⟨y371.Code, (⟨none,
    y371.Entries.n, y402.2.2⟩ : (Sl S_impl_Entry))⟩ : S_impl_EntriesResult) 1).bind fun y407 => (bif (decide (y407 < 0)) then (some false) else (bif (y407 != y402.1) then (some false) else
    (some true))))))))))))))))))))))))))
def pcf_c16 (fu : Nat) (f : Nat) (xs : List (D RT den)) : Option (Out RT den) := match f with | 7 => S_b39 fu xs | 11 => S_c3 fu xs | 12 => S_c13 fu xs | 15 => S_c15 fu xs | _ => none
def pcx_c16 (fu : Nat) (f : Nat) (xs : List (D RT den)) (ins : List (Ob RT den)) : Option (OutX RT den) := match f with | 8 => S_a34 fu xs ins | 9 => S_a12 fu xs ins | 10 => S_b21 fu xs ins | 13 => S_b28 fu xs ins | 14 => S_b30 fu xs ins | _ => none
def pcd_c16 : Nat → Bool := fun f => match f with | 9 => true | 13 => true | _ => false
def pc_c16 (fu : Nat) : Pc RT den := ⟨pcf_c16 fu, fun f => match f with | 8 => true | 9 => true | 10 => true | 13 => true | 14 => true | _ => false, fun f => match f with | 13 => true | 14 => true | _ => false, pcd_c16, pcx_c16 fu⟩
def msk_c16 (b : Nat) : List Nat := match b with | 200014 => [42] | _ => []
def lp_c16 (fu : Nat) : Lp RT den (Bool) := fun b s k => none
theorem ev_c16 (fu : Nat) (aC_0 : S_laws_Cluster) : evFun E (pc_c16 fu) msk_c16 (lp_c16 fu) out_bo 3 [(.agg [(.rs aC_0.Nodes.z .laws_Node aC_0.Nodes.n aC_0.Nodes.f), (.rs aC_0.Mails.z .laws_Mail aC_0.Mails.n aC_0.Mails.f), (.rs aC_0.Wins.z .impl_Won aC_0.Wins.n aC_0.Wins.f), (.rs aC_0.Seals.z .laws_Seal aC_0.Seals.n aC_0.Seals.f)])] = F_laws_FnExactAgreedOf fu aC_0 := by kernel_rfl
noncomputable def body_c16 : Code := Try.f3.body.getD .skip
theorem lpok_c16 (fu : Nat) : LpOk E (pc_c16 fu) msk_c16 (lp_c16 fu) (loops 0 body_c16) := by
  have h : loops 0 body_c16 = [] := by kernel_rfl
  rw [h]; intro p hp; cases hp
def S_c16 (fu : Nat) (xs : List (D RT den)) : Option (Out RT den) := match xs with | [.agg [.rs za0_1 .laws_Node na0_1 fa0_1, .rs za0_2 .laws_Mail na0_2 fa0_2, .rs za0_3 .impl_Won na0_3 fa0_3, .rs za0_4 .laws_Seal na0_4 fa0_4]] => some ⟨Bool, F_laws_FnExactAgreedOf fu (⟨(⟨za0_1, na0_1, fa0_1⟩ : (Sl S_laws_Node)), (⟨za0_2, na0_2, fa0_2⟩ : (Sl S_laws_Mail)), (⟨za0_3, na0_3, fa0_3⟩ : (Sl S_impl_Won)), (⟨za0_4, na0_4, fa0_4⟩ : (Sl S_laws_Seal))⟩ : S_laws_Cluster), enc_bo, fun _ => true⟩ | _ => none
theorem hpc_c16 (fu : Nat) : ∀ f xs o, pcf_c16 fu f xs = some o → ∀ y, o.x = some y → Good E Try.prog f xs (o.g y) := by
  intro f xs o h
  unfold pcf_c16 at h
  split at h
  · exact good_b39 fu xs o h
  · exact good_c3 fu xs o h
  · exact good_c13 fu xs o h
  · exact good_c15 fu xs o h
  · cases h
theorem hpx_c16 (fu : Nat) : ∀ f xs ins o, pcx_c16 fu f xs ins = some o → ∀ y, o.x = some y → GoodXD E Try.prog (pcd_c16 f) f xs ins (o.g y).1 (o.g y).2 := by
  intro f xs ins o h
  unfold pcx_c16 at h
  split at h
  · exact good_a34 fu xs ins o h
  · exact good_a12 fu xs ins o h
  · exact good_b21 fu xs ins o h
  · exact good_b28 fu xs ins o h
  · exact good_b30 fu xs ins o h
  · cases h
theorem goodv_c16 (fu : Nat) (aC_0 : S_laws_Cluster) (y : Bool) (hy : F_laws_FnExactAgreedOf fu aC_0 = some y) : Good E Try.prog 3 [(.agg [(.rs aC_0.Nodes.z .laws_Node aC_0.Nodes.n aC_0.Nodes.f), (.rs aC_0.Mails.z .laws_Mail aC_0.Mails.n aC_0.Mails.f), (.rs aC_0.Wins.z .impl_Won aC_0.Wins.n aC_0.Wins.f), (.rs aC_0.Seals.z .laws_Seal aC_0.Seals.n aC_0.Seals.f)])] (enc_bo y) :=
  fun_good E_ok (pc_good (pc := pc_c16 fu) (hpc_c16 fu) (hpx_c16 fu)) (fn := Try.f3) (c := body_c16) (out := out_bo) (y := y) (by kernel_rfl) (by kernel_rfl) (by kernel_rfl) (lpok_c16 fu) (fun d hd => out_bo_enc d _ hd) ((ev_c16 fu aC_0).trans hy)
theorem good_c16 (fu : Nat) : ∀ xs o, S_c16 fu xs = some o → ∀ y, o.x = some y → Good E Try.prog 3 xs (o.g y) := by
  intro xs o h y hy
  unfold S_c16 at h
  split at h
  · rename_i za0_1 na0_1 fa0_1 za0_2 na0_2 fa0_2 za0_3 na0_3 fa0_3 za0_4 na0_4 fa0_4
    cases h
    exact goodv_c16 fu (⟨(⟨za0_1, na0_1, fa0_1⟩ : (Sl S_laws_Node)), (⟨za0_2, na0_2, fa0_2⟩ : (Sl S_laws_Mail)), (⟨za0_3, na0_3, fa0_3⟩ : (Sl S_impl_Won)), (⟨za0_4, na0_4, fa0_4⟩ : (Sl S_laws_Seal))⟩ : S_laws_Cluster) y hy
  · cases h
end Go.Proofs.Ytmnbmponjhglcaa.Pc
