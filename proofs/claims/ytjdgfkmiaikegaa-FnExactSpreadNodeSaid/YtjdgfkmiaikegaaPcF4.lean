/- The functions' evaluated forms, each a proved summary. Conditions: none. -/
import Derived.Test.YtjdgfkmiaikegaaPcF3
namespace Go.Proofs.Ytjdgfkmiaikegaa.Pc
open Go Go.RowKit Go.Proofs Vm
set_option linter.unusedVariables false
set_option linter.unusedSimpArgs false
set_option maxRecDepth 100000
/-! laws.eqMail -/
def F_laws_eqMail (fu : Nat) (a_0 : S_impl_Mail) (b_1 : S_impl_Mail) : Option (Bool) :=
  (bif (a_0.Kind != b_1.Kind) then (some false) else (bif (a_0.From != b_1.From) then (some false) else (bif (a_0.To != b_1.To) then (some false) else (bif (a_0.Term != b_1.Term) then
    (some false) else (bif (a_0.Index != b_1.Index) then (some false) else (bif (a_0.Last != b_1.Last) then (some false) else (bif (a_0.Commit != b_1.Commit) then (some false) else
    (bif (!(a_0.Ok == b_1.Ok)) then (some false) else ((F_laws_eqEntryS fu a_0.Entries b_1.Entries).bind fun y299 => (bif (!y299) then (some false) else (some true)))))))))))
def pcf_b29 (fu : Nat) (f : Nat) (xs : List (D RT den)) : Option (Out RT den) := match f with | 39 => S_b26 fu xs | _ => none
def pc_b29 (fu : Nat) : Pc RT den := ⟨pcf_b29 fu, fun _ => false, fun _ => false, pcd0, pcd0, pcx0⟩
def msk_b29 (b : Nat) : List Nat := []
def lp_b29 (fu : Nat) : Lp RT den (Bool) := ⟨fun b s k => none, inl0⟩
theorem ev_b29 (fu : Nat) (a_0 : S_impl_Mail) (b_1 : S_impl_Mail) : evFun E (pc_b29 fu) msk_b29 (lp_b29 fu) out_bo 77 [(.agg [(.int .i64 a_0.Kind), (.int .i64 a_0.From), (.int .i64 a_0.To), (.int .i64 a_0.Term), (.int .i64 a_0.Index), (.int .i64 a_0.Last), (.int .i64 a_0.Commit), (.bool a_0.Ok), (.rs a_0.Entries.z .impl_Entry a_0.Entries.n a_0.Entries.f)]), (.agg [(.int .i64 b_1.Kind), (.int .i64 b_1.From), (.int .i64 b_1.To), (.int .i64 b_1.Term), (.int .i64 b_1.Index), (.int .i64 b_1.Last), (.int .i64 b_1.Commit), (.bool b_1.Ok), (.rs b_1.Entries.z .impl_Entry b_1.Entries.n b_1.Entries.f)])] = F_laws_eqMail fu a_0 b_1 := by kernel_rfl
noncomputable def body_b29 : Code := Try.f77.body.getD .skip
theorem lpok_b29 (fu : Nat) : LpOk E (pc_b29 fu) 0 msk_b29 (lp_b29 fu) (loops 0 body_b29) := lp_nil (loop_nil (by kernel_rfl)) (by kernel_rfl)
def S_b29 (fu : Nat) (xs : List (D RT den)) : Option (Out RT den) := match xs with | [.agg [.int .i64 a0_1, .int .i64 a0_2, .int .i64 a0_3, .int .i64 a0_4, .int .i64 a0_5, .int .i64 a0_6, .int .i64 a0_7, .bool a0_8, .rs za0_9 .impl_Entry na0_9 fa0_9], .agg [.int .i64 a1_1, .int .i64 a1_2, .int .i64 a1_3, .int .i64 a1_4, .int .i64 a1_5, .int .i64 a1_6, .int .i64 a1_7, .bool a1_8, .rs za1_9 .impl_Entry na1_9 fa1_9]] => some ⟨Bool, F_laws_eqMail fu (⟨a0_1, a0_2, a0_3, a0_4, a0_5, a0_6, a0_7, a0_8, (⟨za0_9, na0_9, fa0_9⟩ : (Sl S_impl_Entry))⟩ : S_impl_Mail) (⟨a1_1, a1_2, a1_3, a1_4, a1_5, a1_6, a1_7, a1_8, (⟨za1_9, na1_9, fa1_9⟩ : (Sl S_impl_Entry))⟩ : S_impl_Mail), enc_bo, fun _ => true⟩ | _ => none
theorem hpc_b29 (fu : Nat) : ∀ f xs o, pcf_b29 fu f xs = some o → ∀ y, o.x = some y → Good E Try.prog f xs (o.g y) := by
  intro f xs o h
  unfold pcf_b29 at h
  split at h
  · exact good_b26 fu xs o h
  · cases h
theorem goodv_b29 (fu : Nat) (a_0 : S_impl_Mail) (b_1 : S_impl_Mail) (y : Bool) (hy : F_laws_eqMail fu a_0 b_1 = some y) : Good E Try.prog 77 [(.agg [(.int .i64 a_0.Kind), (.int .i64 a_0.From), (.int .i64 a_0.To), (.int .i64 a_0.Term), (.int .i64 a_0.Index), (.int .i64 a_0.Last), (.int .i64 a_0.Commit), (.bool a_0.Ok), (.rs a_0.Entries.z .impl_Entry a_0.Entries.n a_0.Entries.f)]), (.agg [(.int .i64 b_1.Kind), (.int .i64 b_1.From), (.int .i64 b_1.To), (.int .i64 b_1.Term), (.int .i64 b_1.Index), (.int .i64 b_1.Last), (.int .i64 b_1.Commit), (.bool b_1.Ok), (.rs b_1.Entries.z .impl_Entry b_1.Entries.n b_1.Entries.f)])] (enc_bo y) :=
  fun_good E_ok (pc_good (pc := pc_b29 fu) (hpc_b29 fu) hpx0) (fn := Try.f77) (c := body_b29) (out := out_bo) (y := y) (by kernel_rfl) (by kernel_rfl) (by kernel_rfl) (lpok_b29 fu) (fun d hd => out_bo_enc d _ hd) ((ev_b29 fu a_0 b_1).trans hy)
theorem good_b29 (fu : Nat) : ∀ xs o, S_b29 fu xs = some o → ∀ y, o.x = some y → Good E Try.prog 77 xs (o.g y) := by
  intro xs o h y hy
  unfold S_b29 at h
  split at h
  · rename_i a0_1 a0_2 a0_3 a0_4 a0_5 a0_6 a0_7 a0_8 za0_9 na0_9 fa0_9 a1_1 a1_2 a1_3 a1_4 a1_5 a1_6 a1_7 a1_8 za1_9 na1_9 fa1_9
    cases h
    exact goodv_b29 fu (⟨a0_1, a0_2, a0_3, a0_4, a0_5, a0_6, a0_7, a0_8, (⟨za0_9, na0_9, fa0_9⟩ : (Sl S_impl_Entry))⟩ : S_impl_Mail) (⟨a1_1, a1_2, a1_3, a1_4, a1_5, a1_6, a1_7, a1_8, (⟨za1_9, na1_9, fa1_9⟩ : (Sl S_impl_Entry))⟩ : S_impl_Mail) y hy
  · cases h

/-! laws.eqMailS -/
def F_laws_eqMailS_B0 {ρ : Type} (fu : Nat) (a0_0 : (Sl S_impl_Mail)) (b1_1 : (Sl S_impl_Mail)) (k0 : Option ρ) (k1 : Option ρ) (i5_2 : Int) (go : Int → Option ρ) : Option ρ :=
  (bif (decide (i5_2 < ((a0_0.n : Nat) : Int))) then ((bif (decide (0 ≤ i5_2) && decide ((Int.toNat i5_2) < a0_0.n)) then some () else none : Option Unit).bind fun _ => ((bif (decide (0 ≤ i5_2) &&
    decide ((Int.toNat i5_2) < b1_1.n)) then some () else none : Option Unit).bind fun _ => ((F_laws_eqMail fu (a0_0.f (Int.toNat i5_2)) (b1_1.f (Int.toNat i5_2))).bind fun y298 =>
    (bif (!y298) then k0 else (go (IntKind.wrap .i64 (i5_2 + 1))))))) else k1)
def F_laws_eqMailS (fu : Nat) (a_0 : (Sl S_impl_Mail)) (b_1 : (Sl S_impl_Mail)) : Option (Bool) :=
  (bif (((a_0.n : Nat) : Int) != ((b_1.n : Nat) : Int)) then (some false) else (L (fun w0 go0 => F_laws_eqMailS_B0 fu a_0 b_1 (some false) (some true) w0 go0) fu (0 : Int)))
def pcf_b30 (fu : Nat) (f : Nat) (xs : List (D RT den)) : Option (Out RT den) := match f with | 77 => S_b29 fu xs | _ => none
def pc_b30 (fu : Nat) : Pc RT den := ⟨pcf_b30 fu, fun _ => false, fun _ => false, pcd0, pcd0, pcx0⟩
def msk_b30 (b : Nat) : List Nat := match b with | 0 => [2, 3, 4, 6, 7, 8, 9, 10, 11, 12, 13, 14, 15, 16, 17, 18, 19, 20, 21, 22, 23, 24, 25, 26] | 100000 => [0, 1, 2, 3, 5, 6, 7, 8, 9, 10, 11, 12, 13, 14, 15, 16, 17, 18, 19, 20, 21, 22, 23, 24, 25, 26] | _ => []
def ps_b30_0 : List (Pat RT) := [.flat (.rs .impl_Mail), .flat (.rs .impl_Mail), .flat .q, .flat .q, .flat .q, .flat (.int .i64), .flat .q, .flat .q, .flat .q, .flat .q, .flat .q, .flat .q, .flat .q, .flat .q, .flat .q, .flat .q, .flat .q, .flat .q, .flat .q, .flat .q, .flat .q, .flat .q, .flat .q, .flat .q, .flat .q, .flat .q, .flat .q]
def os_b30_0 : List (OP RT) := []
def conv_b30_0 (r : Raw den ps_b30_0 os_b30_0) : ((Sl S_impl_Mail) × (Sl S_impl_Mail)) × (Int) := ((r.1.1, r.1.2.1), r.1.2.2.2.2.2.1)
def back_b30_0 (c : (Sl S_impl_Mail) × (Sl S_impl_Mail)) (w : Int) : St RT den := ⟨[(.rs c.1.z .impl_Mail c.1.n c.1.f), (.rs c.2.z .impl_Mail c.2.n c.2.f), .q, .q, .q, (.int .i64 w), .q, .q, .q, .q, .q, .q, .q, .q, .q, .q, .q, .q, .q, .q, .q, .q, .q, .q, .q, .q, .q], []⟩
def Bk_b30_0 {ρ : Type} (fu : Nat) (c : (Sl S_impl_Mail) × (Sl S_impl_Mail)) (k : Ex → St RT den → Option ρ) (w : Int) (go : (Int) → Option ρ) : Option ρ := F_laws_eqMailS_B0 fu c.1 c.2 (k .ret ⟨[.q, .q, .q, .q, (.bool false), .q, .q, .q, .q, .q, .q, .q, .q, .q, .q, .q, .q, .q, .q, .q, .q, .q, .q, .q, .q, .q, .q], []⟩) (k (.exit 0) ⟨[.q, .q, .q, .q, .q, .q, .q, .q, .q, .q, .q, .q, .q, .q, .q, .q, .q, .q, .q, .q, .q, .q, .q, .q, .q, .q, .q], []⟩) w go
def lp_b30 (fu : Nat) : Lp RT den (Bool) := ⟨fun b s k => match b with | 0 => handle ps_b30_0 os_b30_0 conv_b30_0 (Bk_b30_0 fu) fu s k | _ => none, inl0⟩
theorem ev_b30 (fu : Nat) (a_0 : (Sl S_impl_Mail)) (b_1 : (Sl S_impl_Mail)) : evFun E (pc_b30 fu) msk_b30 (lp_b30 fu) out_bo 38 [(.rs a_0.z .impl_Mail a_0.n a_0.f), (.rs b_1.z .impl_Mail b_1.n b_1.f)] = F_laws_eqMailS fu a_0 b_1 := by kernel_rfl
noncomputable def body_b30 : Code := Try.f38.body.getD .skip
noncomputable def lc_b30_0 : Code := ((loops 0 body_b30).getD 0 (0, .skip)).2
theorem round_b30_0 (fu : Nat) (it : St RT den → Option (Bool)) (k : Ex → St RT den → Option (Bool)) c w : evCode E (pc_b30 fu) msk_b30 (lp_b30 fu) 0 lc_b30_0 (back_b30_0 c w) (after (msk_b30 0) (msk_b30 100000) 0 it k) = Bk_b30_0 fu c k w (fun w => it (back_b30_0 c w)) := by kernel_rfl
theorem lpok_b30_0 (fu : Nat) : ∀ s k r, (lp_b30 fu).lp 0 s k = some r → ∃ fuel, iter (msk_b30 0) (msk_b30 100000) s.objs.length (evCode E (pc_b30 fu) msk_b30 (lp_b30 fu) 0 lc_b30_0) fuel s k = some r :=
  handle_ok (ps := ps_b30_0) (os := os_b30_0) (conv := conv_b30_0) (B := Bk_b30_0 fu) (fu := fu) back_b30_0 (fun raw => by kernel_rfl) 0 (fun c w => by kernel_rfl) (round_b30_0 fu)
theorem lpok_b30 (fu : Nat) : LpOk E (pc_b30 fu) 0 msk_b30 (lp_b30 fu) (loops 0 body_b30) := lp_nil (loop_all 1 (by kernel_rfl) fun i hi => match i, hi with
  | 0, _ => by
    have h : (loops 0 body_b30).getD 0 (0, .skip) = (0, lc_b30_0) := by kernel_rfl
    rw [h]; exact lpok_b30_0 fu
  | i + 1, hi => absurd hi (by omega)) (by kernel_rfl)
def S_b30 (fu : Nat) (xs : List (D RT den)) : Option (Out RT den) := match xs with | [.rs za0_0 .impl_Mail na0_0 fa0_0, .rs za1_0 .impl_Mail na1_0 fa1_0] => some ⟨Bool, F_laws_eqMailS fu (⟨za0_0, na0_0, fa0_0⟩ : (Sl S_impl_Mail)) (⟨za1_0, na1_0, fa1_0⟩ : (Sl S_impl_Mail)), enc_bo, fun _ => true⟩ | _ => none
theorem hpc_b30 (fu : Nat) : ∀ f xs o, pcf_b30 fu f xs = some o → ∀ y, o.x = some y → Good E Try.prog f xs (o.g y) := by
  intro f xs o h
  unfold pcf_b30 at h
  split at h
  · exact good_b29 fu xs o h
  · cases h
theorem goodv_b30 (fu : Nat) (a_0 : (Sl S_impl_Mail)) (b_1 : (Sl S_impl_Mail)) (y : Bool) (hy : F_laws_eqMailS fu a_0 b_1 = some y) : Good E Try.prog 38 [(.rs a_0.z .impl_Mail a_0.n a_0.f), (.rs b_1.z .impl_Mail b_1.n b_1.f)] (enc_bo y) :=
  fun_good E_ok (pc_good (pc := pc_b30 fu) (hpc_b30 fu) hpx0) (fn := Try.f38) (c := body_b30) (out := out_bo) (y := y) (by kernel_rfl) (by kernel_rfl) (by kernel_rfl) (lpok_b30 fu) (fun d hd => out_bo_enc d _ hd) ((ev_b30 fu a_0 b_1).trans hy)
theorem good_b30 (fu : Nat) : ∀ xs o, S_b30 fu xs = some o → ∀ y, o.x = some y → Good E Try.prog 38 xs (o.g y) := by
  intro xs o h y hy
  unfold S_b30 at h
  split at h
  · rename_i za0_0 na0_0 fa0_0 za1_0 na1_0 fa1_0
    cases h
    exact goodv_b30 fu (⟨za0_0, na0_0, fa0_0⟩ : (Sl S_impl_Mail)) (⟨za1_0, na1_0, fa1_0⟩ : (Sl S_impl_Mail)) y hy
  · cases h

/-! laws.eqNodeResult -/
def F_laws_eqNodeResult (fu : Nat) (a_0 : S_impl_NodeResult) (b_1 : S_impl_NodeResult) : Option (Bool) :=
  (bif (a_0.Code != b_1.Code) then (some false) else ((F_laws_eqNode fu a_0.Node b_1.Node).bind fun y290 => (bif (!y290) then (some false) else ((F_laws_eqMailS fu a_0.Send b_1.Send).bind fun y291 =>
    (bif (!y291) then (some false) else (some true))))))
def pcf_b31 (fu : Nat) (f : Nat) (xs : List (D RT den)) : Option (Out RT den) := match f with | 11 => S_b28 fu xs | 38 => S_b30 fu xs | _ => none
def pc_b31 (fu : Nat) : Pc RT den := ⟨pcf_b31 fu, fun _ => false, fun _ => false, pcd0, pcd0, pcx0⟩
def msk_b31 (b : Nat) : List Nat := []
def lp_b31 (fu : Nat) : Lp RT den (Bool) := ⟨fun b s k => none, inl0⟩
theorem ev_b31 (fu : Nat) (a_0 : S_impl_NodeResult) (b_1 : S_impl_NodeResult) : evFun E (pc_b31 fu) msk_b31 (lp_b31 fu) out_bo 10 [(.agg [(.int .i64 a_0.Code), (.int .i64 a_0.Node.Id), (.int .i64 a_0.Node.Peers), (.int .i64 a_0.Node.Term), (.int .i64 a_0.Node.Voted), (.rs a_0.Node.Log.z .impl_Entry a_0.Node.Log.n a_0.Node.Log.f), (.int .i64 a_0.Node.Role), (.int .i64 a_0.Node.Commit), (.rs a_0.Node.Votes.z .i64 a_0.Node.Votes.n a_0.Node.Votes.f), (.rs a_0.Node.Next.z .i64 a_0.Node.Next.n a_0.Node.Next.f), (.rs a_0.Node.Match.z .i64 a_0.Node.Match.n a_0.Node.Match.f), (.rs a_0.Send.z .impl_Mail a_0.Send.n a_0.Send.f)]), (.agg [(.int .i64 b_1.Code), (.int .i64 b_1.Node.Id), (.int .i64 b_1.Node.Peers), (.int .i64 b_1.Node.Term), (.int .i64 b_1.Node.Voted), (.rs b_1.Node.Log.z .impl_Entry b_1.Node.Log.n b_1.Node.Log.f), (.int .i64 b_1.Node.Role), (.int .i64 b_1.Node.Commit), (.rs b_1.Node.Votes.z .i64 b_1.Node.Votes.n b_1.Node.Votes.f), (.rs b_1.Node.Next.z .i64 b_1.Node.Next.n b_1.Node.Next.f), (.rs b_1.Node.Match.z .i64 b_1.Node.Match.n b_1.Node.Match.f), (.rs b_1.Send.z .impl_Mail b_1.Send.n b_1.Send.f)])] = F_laws_eqNodeResult fu a_0 b_1 := by kernel_rfl
noncomputable def body_b31 : Code := Try.f10.body.getD .skip
theorem lpok_b31 (fu : Nat) : LpOk E (pc_b31 fu) 0 msk_b31 (lp_b31 fu) (loops 0 body_b31) := lp_nil (loop_nil (by kernel_rfl)) (by kernel_rfl)
def S_b31 (fu : Nat) (xs : List (D RT den)) : Option (Out RT den) := match xs with | [.agg [.int .i64 a0_1, .int .i64 a0_3, .int .i64 a0_4, .int .i64 a0_5, .int .i64 a0_6, .rs za0_7 .impl_Entry na0_7 fa0_7, .int .i64 a0_8, .int .i64 a0_9, .rs za0_10 .i64 na0_10 fa0_10, .rs za0_11 .i64 na0_11 fa0_11, .rs za0_12 .i64 na0_12 fa0_12, .rs za0_13 .impl_Mail na0_13 fa0_13], .agg [.int .i64 a1_1, .int .i64 a1_3, .int .i64 a1_4, .int .i64 a1_5, .int .i64 a1_6, .rs za1_7 .impl_Entry na1_7 fa1_7, .int .i64 a1_8, .int .i64 a1_9, .rs za1_10 .i64 na1_10 fa1_10, .rs za1_11 .i64 na1_11 fa1_11, .rs za1_12 .i64 na1_12 fa1_12, .rs za1_13 .impl_Mail na1_13 fa1_13]] => some ⟨Bool, F_laws_eqNodeResult fu (⟨a0_1, (⟨a0_3, a0_4, a0_5, a0_6, (⟨za0_7, na0_7, fa0_7⟩ : (Sl S_impl_Entry)), a0_8, a0_9, (⟨za0_10, na0_10, fa0_10⟩ : (Sl Int)), (⟨za0_11, na0_11, fa0_11⟩ : (Sl Int)), (⟨za0_12, na0_12, fa0_12⟩ : (Sl Int))⟩ : S_impl_Node), (⟨za0_13, na0_13, fa0_13⟩ : (Sl S_impl_Mail))⟩ : S_impl_NodeResult) (⟨a1_1, (⟨a1_3, a1_4, a1_5, a1_6, (⟨za1_7, na1_7, fa1_7⟩ : (Sl S_impl_Entry)), a1_8, a1_9, (⟨za1_10, na1_10, fa1_10⟩ : (Sl Int)), (⟨za1_11, na1_11, fa1_11⟩ : (Sl Int)), (⟨za1_12, na1_12, fa1_12⟩ : (Sl Int))⟩ : S_impl_Node), (⟨za1_13, na1_13, fa1_13⟩ : (Sl S_impl_Mail))⟩ : S_impl_NodeResult), enc_bo, fun _ => true⟩ | _ => none
theorem hpc_b31 (fu : Nat) : ∀ f xs o, pcf_b31 fu f xs = some o → ∀ y, o.x = some y → Good E Try.prog f xs (o.g y) := by
  intro f xs o h
  unfold pcf_b31 at h
  split at h
  · exact good_b28 fu xs o h
  · exact good_b30 fu xs o h
  · cases h
theorem goodv_b31 (fu : Nat) (a_0 : S_impl_NodeResult) (b_1 : S_impl_NodeResult) (y : Bool) (hy : F_laws_eqNodeResult fu a_0 b_1 = some y) : Good E Try.prog 10 [(.agg [(.int .i64 a_0.Code), (.int .i64 a_0.Node.Id), (.int .i64 a_0.Node.Peers), (.int .i64 a_0.Node.Term), (.int .i64 a_0.Node.Voted), (.rs a_0.Node.Log.z .impl_Entry a_0.Node.Log.n a_0.Node.Log.f), (.int .i64 a_0.Node.Role), (.int .i64 a_0.Node.Commit), (.rs a_0.Node.Votes.z .i64 a_0.Node.Votes.n a_0.Node.Votes.f), (.rs a_0.Node.Next.z .i64 a_0.Node.Next.n a_0.Node.Next.f), (.rs a_0.Node.Match.z .i64 a_0.Node.Match.n a_0.Node.Match.f), (.rs a_0.Send.z .impl_Mail a_0.Send.n a_0.Send.f)]), (.agg [(.int .i64 b_1.Code), (.int .i64 b_1.Node.Id), (.int .i64 b_1.Node.Peers), (.int .i64 b_1.Node.Term), (.int .i64 b_1.Node.Voted), (.rs b_1.Node.Log.z .impl_Entry b_1.Node.Log.n b_1.Node.Log.f), (.int .i64 b_1.Node.Role), (.int .i64 b_1.Node.Commit), (.rs b_1.Node.Votes.z .i64 b_1.Node.Votes.n b_1.Node.Votes.f), (.rs b_1.Node.Next.z .i64 b_1.Node.Next.n b_1.Node.Next.f), (.rs b_1.Node.Match.z .i64 b_1.Node.Match.n b_1.Node.Match.f), (.rs b_1.Send.z .impl_Mail b_1.Send.n b_1.Send.f)])] (enc_bo y) :=
  fun_good E_ok (pc_good (pc := pc_b31 fu) (hpc_b31 fu) hpx0) (fn := Try.f10) (c := body_b31) (out := out_bo) (y := y) (by kernel_rfl) (by kernel_rfl) (by kernel_rfl) (lpok_b31 fu) (fun d hd => out_bo_enc d _ hd) ((ev_b31 fu a_0 b_1).trans hy)
theorem good_b31 (fu : Nat) : ∀ xs o, S_b31 fu xs = some o → ∀ y, o.x = some y → Good E Try.prog 10 xs (o.g y) := by
  intro xs o h y hy
  unfold S_b31 at h
  split at h
  · rename_i a0_1 a0_3 a0_4 a0_5 a0_6 za0_7 na0_7 fa0_7 a0_8 a0_9 za0_10 na0_10 fa0_10 za0_11 na0_11 fa0_11 za0_12 na0_12 fa0_12 za0_13 na0_13 fa0_13 a1_1 a1_3 a1_4 a1_5 a1_6 za1_7 na1_7 fa1_7 a1_8 a1_9 za1_10 na1_10 fa1_10 za1_11 na1_11 fa1_11 za1_12 na1_12 fa1_12 za1_13 na1_13 fa1_13
    cases h
    exact goodv_b31 fu (⟨a0_1, (⟨a0_3, a0_4, a0_5, a0_6, (⟨za0_7, na0_7, fa0_7⟩ : (Sl S_impl_Entry)), a0_8, a0_9, (⟨za0_10, na0_10, fa0_10⟩ : (Sl Int)), (⟨za0_11, na0_11, fa0_11⟩ : (Sl Int)), (⟨za0_12, na0_12, fa0_12⟩ : (Sl Int))⟩ : S_impl_Node), (⟨za0_13, na0_13, fa0_13⟩ : (Sl S_impl_Mail))⟩ : S_impl_NodeResult) (⟨a1_1, (⟨a1_3, a1_4, a1_5, a1_6, (⟨za1_7, na1_7, fa1_7⟩ : (Sl S_impl_Entry)), a1_8, a1_9, (⟨za1_10, na1_10, fa1_10⟩ : (Sl Int)), (⟨za1_11, na1_11, fa1_11⟩ : (Sl Int)), (⟨za1_12, na1_12, fa1_12⟩ : (Sl Int))⟩ : S_impl_Node), (⟨za1_13, na1_13, fa1_13⟩ : (Sl S_impl_Mail))⟩ : S_impl_NodeResult) y hy
  · cases h

/-! laws.heldEntryS -/
def F_laws_heldEntryS_B0 {ρ : Type} (fu : Nat) (a0_0 : (Sl S_impl_Entry)) (k0 : Int → Option ρ) (k1 : Int → Option ρ) (k1_1 : Int) (i5_2 : Int) (go : Int → Int → Option ρ) : Option ρ :=
  (bif (decide (i5_2 < ((a0_0.n : Nat) : Int))) then ((bif (decide (0 ≤ i5_2) && decide ((Int.toNat i5_2) < a0_0.n)) then some () else none : Option Unit).bind fun _ => (bif ((a0_0.f (Int.toNat i5_2)).Term != k1_1) then
    (k0 k1_1) else ((bif (decide (0 ≤ i5_2) && decide ((Int.toNat i5_2) < a0_0.n)) then some () else none : Option Unit).bind fun _ => (bif ((a0_0.f (Int.toNat i5_2)).Client != (IntKind.wrap .i64 (k1_1 + 1))) then
    (k0 (IntKind.wrap .i64 (k1_1 + 1))) else ((bif (decide (0 ≤ i5_2) && decide ((Int.toNat i5_2) < a0_0.n)) then some () else none : Option Unit).bind fun _ => (bif ((a0_0.f (Int.toNat i5_2)).Seq != (IntKind.wrap .i64 ((IntKind.wrap .i64 (k1_1 + 1)) + 1))) then
    (k0 (IntKind.wrap .i64 ((IntKind.wrap .i64 (k1_1 + 1)) + 1))) else ((bif (decide (0 ≤ i5_2) && decide ((Int.toNat i5_2) < a0_0.n)) then some () else none : Option Unit).bind fun _ =>
    (bif ((a0_0.f (Int.toNat i5_2)).Cmd.Kind != (IntKind.wrap .i64 ((IntKind.wrap .i64 ((IntKind.wrap .i64 (k1_1 + 1)) + 1)) + 1))) then (k0 (IntKind.wrap .i64 ((IntKind.wrap .i64 ((IntKind.wrap .i64 (k1_1 + 1)) + 1)) + 1))) else
    ((bif (decide (0 ≤ i5_2) && decide ((Int.toNat i5_2) < a0_0.n)) then some () else none : Option Unit).bind fun _ => (bif ((a0_0.f (Int.toNat i5_2)).Cmd.Expect != (IntKind.wrap .i64 ((IntKind.wrap .i64 ((IntKind.wrap .i64 ((IntKind.wrap .i64 (k1_1 + 1)) + 1)) + 1)) + 1))) then
    (k0 (IntKind.wrap .i64 ((IntKind.wrap .i64 ((IntKind.wrap .i64 ((IntKind.wrap .i64 (k1_1 + 1)) + 1)) + 1)) + 1))) else ((bif (decide (0 ≤ i5_2) && decide ((Int.toNat i5_2) < a0_0.n)) then
    some () else none : Option Unit).bind fun _ => (bif ((a0_0.f (Int.toNat i5_2)).Cmd.Name != (IntKind.wrap .i64 ((IntKind.wrap .i64 ((IntKind.wrap .i64 ((IntKind.wrap .i64 ((IntKind.wrap .i64 (k1_1 + 1)) + 1)) + 1)) + 1)) + 1))) then
    (k0 (IntKind.wrap .i64 ((IntKind.wrap .i64 ((IntKind.wrap .i64 ((IntKind.wrap .i64 ((IntKind.wrap .i64 (k1_1 + 1)) + 1)) + 1)) + 1)) + 1))) else ((bif (decide (0 ≤ i5_2) &&
    decide ((Int.toNat i5_2) < a0_0.n)) then some () else none : Option Unit).bind fun _ => (bif ((a0_0.f (Int.toNat i5_2)).Cmd.Addr != (IntKind.wrap .i64 ((IntKind.wrap .i64 ((IntKind.wrap .i64 ((IntKind.wrap .i64 ((IntKind.wrap .i64 ((IntKind.wrap .i64 (k1_1 + 1)) + 1)) + 1)) + 1)) + 1)) + 1))) then
    (k0 (IntKind.wrap .i64 ((IntKind.wrap .i64 ((IntKind.wrap .i64 ((IntKind.wrap .i64 ((IntKind.wrap .i64 ((IntKind.wrap .i64 (k1_1 + 1)) + 1)) + 1)) + 1)) + 1)) + 1))) else ((bif (decide (0 ≤ i5_2) &&
    decide ((Int.toNat i5_2) < a0_0.n)) then some () else none : Option Unit).bind fun _ => (bif ((a0_0.f (Int.toNat i5_2)).Cmd.Number != (IntKind.wrap .i64 ((IntKind.wrap .i64 ((IntKind.wrap .i64 ((IntKind.wrap .i64 ((IntKind.wrap .i64 ((IntKind.wrap .i64 ((IntKind.wrap .i64 (k1_1 + 1)) + 1)) + 1)) + 1)) + 1)) + 1)) + 1))) then
    (k0 (IntKind.wrap .i64 ((IntKind.wrap .i64 ((IntKind.wrap .i64 ((IntKind.wrap .i64 ((IntKind.wrap .i64 ((IntKind.wrap .i64 ((IntKind.wrap .i64 (k1_1 + 1)) + 1)) + 1)) + 1)) + 1)) + 1)) + 1))) else
    ((bif (decide (0 ≤ i5_2) && decide ((Int.toNat i5_2) < a0_0.n)) then some () else none : Option Unit).bind fun _ => (bif ((a0_0.f (Int.toNat i5_2)).Cmd.Proto != (IntKind.wrap .i64 ((IntKind.wrap .i64 ((IntKind.wrap .i64 ((IntKind.wrap .i64 ((IntKind.wrap .i64 ((IntKind.wrap .i64 ((IntKind.wrap .i64 ((IntKind.wrap .i64 (k1_1 + 1)) + 1)) + 1)) + 1)) + 1)) + 1)) + 1)) + 1))) then
    (k0 (IntKind.wrap .i64 ((IntKind.wrap .i64 ((IntKind.wrap .i64 ((IntKind.wrap .i64 ((IntKind.wrap .i64 ((IntKind.wrap .i64 ((IntKind.wrap .i64 ((IntKind.wrap .i64 (k1_1 + 1)) + 1)) + 1)) + 1)) + 1)) + 1)) + 1)) + 1))) else
    (go (IntKind.wrap .i64 ((IntKind.wrap .i64 ((IntKind.wrap .i64 ((IntKind.wrap .i64 ((IntKind.wrap .i64 ((IntKind.wrap .i64 ((IntKind.wrap .i64 ((IntKind.wrap .i64 ((IntKind.wrap .i64 (k1_1 + 1)) + 1)) + 1)) + 1)) + 1)) + 1)) + 1)) + 1)) + 1)) (IntKind.wrap .i64 (i5_2 + 1))))))))))))))))))))) else
    (k1 k1_1))
def F_laws_heldEntryS (fu : Nat) (a_0 : (Sl S_impl_Entry)) (k_1 : Int) : Option (Int) :=
  (L (fun w0 go0 => F_laws_heldEntryS_B0 fu a_0 (fun z306 => (some (-1))) (fun z307 => (some z307)) w0.1 w0.2 (fun q0 q1 => go0 (q0, q1))) fu ((k_1, 0) : Int × Int))
def pc_b32 (fu : Nat) : Pc RT den := ⟨pcf0, fun _ => false, fun _ => false, pcd0, pcd0, pcx0⟩
def msk_b32 (b : Nat) : List Nat := match b with | 0 => [2, 3, 4, 6, 7, 8, 9, 10, 11, 12, 13, 14, 15, 16, 17, 18, 19, 20, 21, 22, 23, 24, 25, 26, 27, 28, 29, 30, 31, 32, 33, 34, 35, 36, 37, 38, 39, 40, 41, 42, 43, 44, 45, 46, 47, 48, 49, 50, 51, 52, 53, 54, 55, 56, 57, 58, 59, 60, 61, 62, 63, 64, 65, 66, 67, 68, 69, 70, 71, 72, 73, 74, 75, 76, 77, 78, 79, 80, 81, 82, 83, 84, 85, 86, 87, 88, 89, 90, 91, 92, 93, 94, 95, 96, 97, 98, 99] | 100000 => [0, 2, 3, 5, 6, 7, 8, 9, 10, 11, 12, 13, 14, 15, 16, 17, 18, 19, 20, 21, 22, 23, 24, 25, 26, 27, 28, 29, 30, 31, 32, 33, 34, 35, 36, 37, 38, 39, 40, 41, 42, 43, 44, 45, 46, 47, 48, 49, 50, 51, 52, 53, 54, 55, 56, 57, 58, 59, 60, 61, 62, 63, 64, 65, 66, 67, 68, 69, 70, 71, 72, 73, 74, 75, 76, 77, 78, 79, 80, 81, 82, 83, 84, 85, 86, 87, 88, 89, 90, 91, 92, 93, 94, 95, 96, 97, 98, 99] | _ => []
def ps_b32_0 : List (Pat RT) := [.flat (.rs .impl_Entry), .flat (.int .i64), .flat .q, .flat .q, .flat .q, .flat (.int .i64), .flat .q, .flat .q, .flat .q, .flat .q, .flat .q, .flat .q, .flat .q, .flat .q, .flat .q, .flat .q, .flat .q, .flat .q, .flat .q, .flat .q, .flat .q, .flat .q, .flat .q, .flat .q, .flat .q, .flat .q, .flat .q, .flat .q, .flat .q, .flat .q, .flat .q, .flat .q, .flat .q, .flat .q, .flat .q, .flat .q, .flat .q, .flat .q, .flat .q, .flat .q, .flat .q, .flat .q, .flat .q, .flat .q, .flat .q, .flat .q, .flat .q, .flat .q, .flat .q, .flat .q, .flat .q, .flat .q, .flat .q, .flat .q, .flat .q, .flat .q, .flat .q, .flat .q, .flat .q, .flat .q, .flat .q, .flat .q, .flat .q, .flat .q, .flat .q, .flat .q, .flat .q, .flat .q, .flat .q, .flat .q, .flat .q, .flat .q, .flat .q, .flat .q, .flat .q, .flat .q, .flat .q, .flat .q, .flat .q, .flat .q, .flat .q, .flat .q, .flat .q, .flat .q, .flat .q, .flat .q, .flat .q, .flat .q, .flat .q, .flat .q, .flat .q, .flat .q, .flat .q, .flat .q, .flat .q, .flat .q, .flat .q, .flat .q, .flat .q, .flat .q]
def os_b32_0 : List (OP RT) := []
def conv_b32_0 (r : Raw den ps_b32_0 os_b32_0) : ((Sl S_impl_Entry)) × (Int × Int) := (r.1.1, (r.1.2.1, r.1.2.2.2.2.2.1))
def back_b32_0 (c : (Sl S_impl_Entry)) (w : Int × Int) : St RT den := ⟨[(.rs c.z .impl_Entry c.n c.f), (.int .i64 w.1), .q, .q, .q, (.int .i64 w.2), .q, .q, .q, .q, .q, .q, .q, .q, .q, .q, .q, .q, .q, .q, .q, .q, .q, .q, .q, .q, .q, .q, .q, .q, .q, .q, .q, .q, .q, .q, .q, .q, .q, .q, .q, .q, .q, .q, .q, .q, .q, .q, .q, .q, .q, .q, .q, .q, .q, .q, .q, .q, .q, .q, .q, .q, .q, .q, .q, .q, .q, .q, .q, .q, .q, .q, .q, .q, .q, .q, .q, .q, .q, .q, .q, .q, .q, .q, .q, .q, .q, .q, .q, .q, .q, .q, .q, .q, .q, .q, .q, .q, .q, .q], []⟩
def Bk_b32_0 {ρ : Type} (fu : Nat) (c : (Sl S_impl_Entry)) (k : Ex → St RT den → Option ρ) (w : Int × Int) (go : (Int × Int) → Option ρ) : Option ρ := F_laws_heldEntryS_B0 fu c (fun a0 => k .ret ⟨[.q, (.int .i64 a0), .q, .q, (.int .i64 (-1)), .q, .q, .q, .q, .q, .q, .q, .q, .q, .q, .q, .q, .q, .q, .q, .q, .q, .q, .q, .q, .q, .q, .q, .q, .q, .q, .q, .q, .q, .q, .q, .q, .q, .q, .q, .q, .q, .q, .q, .q, .q, .q, .q, .q, .q, .q, .q, .q, .q, .q, .q, .q, .q, .q, .q, .q, .q, .q, .q, .q, .q, .q, .q, .q, .q, .q, .q, .q, .q, .q, .q, .q, .q, .q, .q, .q, .q, .q, .q, .q, .q, .q, .q, .q, .q, .q, .q, .q, .q, .q, .q, .q, .q, .q, .q], []⟩) (fun a0 => k (.exit 0) ⟨[.q, (.int .i64 a0), .q, .q, .q, .q, .q, .q, .q, .q, .q, .q, .q, .q, .q, .q, .q, .q, .q, .q, .q, .q, .q, .q, .q, .q, .q, .q, .q, .q, .q, .q, .q, .q, .q, .q, .q, .q, .q, .q, .q, .q, .q, .q, .q, .q, .q, .q, .q, .q, .q, .q, .q, .q, .q, .q, .q, .q, .q, .q, .q, .q, .q, .q, .q, .q, .q, .q, .q, .q, .q, .q, .q, .q, .q, .q, .q, .q, .q, .q, .q, .q, .q, .q, .q, .q, .q, .q, .q, .q, .q, .q, .q, .q, .q, .q, .q, .q, .q, .q], []⟩) w.1 w.2 (fun q0 q1 => go (q0, q1))
def lp_b32 (fu : Nat) : Lp RT den (Int) := ⟨fun b s k => match b with | 0 => handle ps_b32_0 os_b32_0 conv_b32_0 (Bk_b32_0 fu) fu s k | _ => none, inl0⟩
theorem ev_b32 (fu : Nat) (a_0 : (Sl S_impl_Entry)) (k_1 : Int) : evFun E (pc_b32 fu) msk_b32 (lp_b32 fu) out_i64 79 [(.rs a_0.z .impl_Entry a_0.n a_0.f), (.int .i64 k_1)] = F_laws_heldEntryS fu a_0 k_1 := by kernel_rfl
noncomputable def body_b32 : Code := Try.f79.body.getD .skip
noncomputable def lc_b32_0 : Code := ((loops 0 body_b32).getD 0 (0, .skip)).2
theorem round_b32_0 (fu : Nat) (it : St RT den → Option (Int)) (k : Ex → St RT den → Option (Int)) c w : evCode E (pc_b32 fu) msk_b32 (lp_b32 fu) 0 lc_b32_0 (back_b32_0 c w) (after (msk_b32 0) (msk_b32 100000) 0 it k) = Bk_b32_0 fu c k w (fun w => it (back_b32_0 c w)) := by kernel_rfl
theorem lpok_b32_0 (fu : Nat) : ∀ s k r, (lp_b32 fu).lp 0 s k = some r → ∃ fuel, iter (msk_b32 0) (msk_b32 100000) s.objs.length (evCode E (pc_b32 fu) msk_b32 (lp_b32 fu) 0 lc_b32_0) fuel s k = some r :=
  handle_ok (ps := ps_b32_0) (os := os_b32_0) (conv := conv_b32_0) (B := Bk_b32_0 fu) (fu := fu) back_b32_0 (fun raw => by kernel_rfl) 0 (fun c w => by kernel_rfl) (round_b32_0 fu)
theorem lpok_b32 (fu : Nat) : LpOk E (pc_b32 fu) 0 msk_b32 (lp_b32 fu) (loops 0 body_b32) := lp_nil (loop_all 1 (by kernel_rfl) fun i hi => match i, hi with
  | 0, _ => by
    have h : (loops 0 body_b32).getD 0 (0, .skip) = (0, lc_b32_0) := by kernel_rfl
    rw [h]; exact lpok_b32_0 fu
  | i + 1, hi => absurd hi (by omega)) (by kernel_rfl)
def S_b32 (fu : Nat) (xs : List (D RT den)) : Option (Out RT den) := match xs with | [.rs za0_0 .impl_Entry na0_0 fa0_0, .int .i64 a1_0] => some ⟨Int, F_laws_heldEntryS fu (⟨za0_0, na0_0, fa0_0⟩ : (Sl S_impl_Entry)) a1_0, enc_i64, fun _ => true⟩ | _ => none
theorem goodv_b32 (fu : Nat) (a_0 : (Sl S_impl_Entry)) (k_1 : Int) (y : Int) (hy : F_laws_heldEntryS fu a_0 k_1 = some y) : Good E Try.prog 79 [(.rs a_0.z .impl_Entry a_0.n a_0.f), (.int .i64 k_1)] (enc_i64 y) :=
  fun_good E_ok (pc_good (pc := pc_b32 fu) hpc0 hpx0) (fn := Try.f79) (c := body_b32) (out := out_i64) (y := y) (by kernel_rfl) (by kernel_rfl) (by kernel_rfl) (lpok_b32 fu) (fun d hd => out_i64_enc d _ hd) ((ev_b32 fu a_0 k_1).trans hy)
theorem good_b32 (fu : Nat) : ∀ xs o, S_b32 fu xs = some o → ∀ y, o.x = some y → Good E Try.prog 79 xs (o.g y) := by
  intro xs o h y hy
  unfold S_b32 at h
  split at h
  · rename_i za0_0 na0_0 fa0_0 a1_0
    cases h
    exact goodv_b32 fu (⟨za0_0, na0_0, fa0_0⟩ : (Sl S_impl_Entry)) a1_0 y hy
  · cases h

/-! laws.heldInt64S -/
def F_laws_heldInt64S_B0 {ρ : Type} (fu : Nat) (a0_0 : (Sl Int)) (k0 : Int → Option ρ) (k1 : Int → Option ρ) (k1_1 : Int) (i5_2 : Int) (go : Int → Int → Option ρ) : Option ρ :=
  (bif (decide (i5_2 < ((a0_0.n : Nat) : Int))) then ((bif (decide (0 ≤ i5_2) && decide ((Int.toNat i5_2) < a0_0.n)) then some () else none : Option Unit).bind fun _ => (bif ((a0_0.f (Int.toNat i5_2)) != k1_1) then
    (k0 k1_1) else (go (IntKind.wrap .i64 (k1_1 + 1)) (IntKind.wrap .i64 (i5_2 + 1))))) else (k1 k1_1))
def F_laws_heldInt64S (fu : Nat) (a_0 : (Sl Int)) (k_1 : Int) : Option (Int) :=
  (L (fun w0 go0 => F_laws_heldInt64S_B0 fu a_0 (fun z308 => (some (-1))) (fun z309 => (some z309)) w0.1 w0.2 (fun q0 q1 => go0 (q0, q1))) fu ((k_1, 0) : Int × Int))
def pc_b33 (fu : Nat) : Pc RT den := ⟨pcf0, fun _ => false, fun _ => false, pcd0, pcd0, pcx0⟩
def msk_b33 (b : Nat) : List Nat := match b with | 0 => [2, 3, 4, 6, 7, 8, 9, 10, 11, 12, 13, 14, 15, 16, 17, 18, 19, 20] | 100000 => [0, 2, 3, 5, 6, 7, 8, 9, 10, 11, 12, 13, 14, 15, 16, 17, 18, 19, 20] | _ => []
def ps_b33_0 : List (Pat RT) := [.flat (.rs .i64), .flat (.int .i64), .flat .q, .flat .q, .flat .q, .flat (.int .i64), .flat .q, .flat .q, .flat .q, .flat .q, .flat .q, .flat .q, .flat .q, .flat .q, .flat .q, .flat .q, .flat .q, .flat .q, .flat .q, .flat .q, .flat .q]
def os_b33_0 : List (OP RT) := []
def conv_b33_0 (r : Raw den ps_b33_0 os_b33_0) : ((Sl Int)) × (Int × Int) := (r.1.1, (r.1.2.1, r.1.2.2.2.2.2.1))
def back_b33_0 (c : (Sl Int)) (w : Int × Int) : St RT den := ⟨[(.rs c.z .i64 c.n c.f), (.int .i64 w.1), .q, .q, .q, (.int .i64 w.2), .q, .q, .q, .q, .q, .q, .q, .q, .q, .q, .q, .q, .q, .q, .q], []⟩
def Bk_b33_0 {ρ : Type} (fu : Nat) (c : (Sl Int)) (k : Ex → St RT den → Option ρ) (w : Int × Int) (go : (Int × Int) → Option ρ) : Option ρ := F_laws_heldInt64S_B0 fu c (fun a0 => k .ret ⟨[.q, (.int .i64 a0), .q, .q, (.int .i64 (-1)), .q, .q, .q, .q, .q, .q, .q, .q, .q, .q, .q, .q, .q, .q, .q, .q], []⟩) (fun a0 => k (.exit 0) ⟨[.q, (.int .i64 a0), .q, .q, .q, .q, .q, .q, .q, .q, .q, .q, .q, .q, .q, .q, .q, .q, .q, .q, .q], []⟩) w.1 w.2 (fun q0 q1 => go (q0, q1))
def lp_b33 (fu : Nat) : Lp RT den (Int) := ⟨fun b s k => match b with | 0 => handle ps_b33_0 os_b33_0 conv_b33_0 (Bk_b33_0 fu) fu s k | _ => none, inl0⟩
theorem ev_b33 (fu : Nat) (a_0 : (Sl Int)) (k_1 : Int) : evFun E (pc_b33 fu) msk_b33 (lp_b33 fu) out_i64 80 [(.rs a_0.z .i64 a_0.n a_0.f), (.int .i64 k_1)] = F_laws_heldInt64S fu a_0 k_1 := by kernel_rfl
noncomputable def body_b33 : Code := Try.f80.body.getD .skip
noncomputable def lc_b33_0 : Code := ((loops 0 body_b33).getD 0 (0, .skip)).2
theorem round_b33_0 (fu : Nat) (it : St RT den → Option (Int)) (k : Ex → St RT den → Option (Int)) c w : evCode E (pc_b33 fu) msk_b33 (lp_b33 fu) 0 lc_b33_0 (back_b33_0 c w) (after (msk_b33 0) (msk_b33 100000) 0 it k) = Bk_b33_0 fu c k w (fun w => it (back_b33_0 c w)) := by kernel_rfl
theorem lpok_b33_0 (fu : Nat) : ∀ s k r, (lp_b33 fu).lp 0 s k = some r → ∃ fuel, iter (msk_b33 0) (msk_b33 100000) s.objs.length (evCode E (pc_b33 fu) msk_b33 (lp_b33 fu) 0 lc_b33_0) fuel s k = some r :=
  handle_ok (ps := ps_b33_0) (os := os_b33_0) (conv := conv_b33_0) (B := Bk_b33_0 fu) (fu := fu) back_b33_0 (fun raw => by kernel_rfl) 0 (fun c w => by kernel_rfl) (round_b33_0 fu)
theorem lpok_b33 (fu : Nat) : LpOk E (pc_b33 fu) 0 msk_b33 (lp_b33 fu) (loops 0 body_b33) := lp_nil (loop_all 1 (by kernel_rfl) fun i hi => match i, hi with
  | 0, _ => by
    have h : (loops 0 body_b33).getD 0 (0, .skip) = (0, lc_b33_0) := by kernel_rfl
    rw [h]; exact lpok_b33_0 fu
  | i + 1, hi => absurd hi (by omega)) (by kernel_rfl)
def S_b33 (fu : Nat) (xs : List (D RT den)) : Option (Out RT den) := match xs with | [.rs za0_0 .i64 na0_0 fa0_0, .int .i64 a1_0] => some ⟨Int, F_laws_heldInt64S fu (⟨za0_0, na0_0, fa0_0⟩ : (Sl Int)) a1_0, enc_i64, fun _ => true⟩ | _ => none
theorem goodv_b33 (fu : Nat) (a_0 : (Sl Int)) (k_1 : Int) (y : Int) (hy : F_laws_heldInt64S fu a_0 k_1 = some y) : Good E Try.prog 80 [(.rs a_0.z .i64 a_0.n a_0.f), (.int .i64 k_1)] (enc_i64 y) :=
  fun_good E_ok (pc_good (pc := pc_b33 fu) hpc0 hpx0) (fn := Try.f80) (c := body_b33) (out := out_i64) (y := y) (by kernel_rfl) (by kernel_rfl) (by kernel_rfl) (lpok_b33 fu) (fun d hd => out_i64_enc d _ hd) ((ev_b33 fu a_0 k_1).trans hy)
theorem good_b33 (fu : Nat) : ∀ xs o, S_b33 fu xs = some o → ∀ y, o.x = some y → Good E Try.prog 80 xs (o.g y) := by
  intro xs o h y hy
  unfold S_b33 at h
  split at h
  · rename_i za0_0 na0_0 fa0_0 a1_0
    cases h
    exact goodv_b33 fu (⟨za0_0, na0_0, fa0_0⟩ : (Sl Int)) a1_0 y hy
  · cases h

/-! laws.heldNode -/
def F_laws_heldNode (fu : Nat) (a_0 : S_impl_Node) (k_1 : Int) : Option (Int) :=
  ((F_laws_heldEntryS fu a_0.Log k_1).bind fun y302 => (bif (decide (y302 < 0)) then (some (-1)) else ((F_laws_heldInt64S fu a_0.Votes y302).bind fun y303 => (bif (decide (y303 < 0)) then
    (some (-1)) else ((F_laws_heldInt64S fu a_0.Next y303).bind fun y304 => (bif (decide (y304 < 0)) then (some (-1)) else ((F_laws_heldInt64S fu a_0.Match y304).bind fun y305 =>
    (bif (decide (y305 < 0)) then (some (-1)) else (some y305)))))))))
def pcf_b34 (fu : Nat) (f : Nat) (xs : List (D RT den)) : Option (Out RT den) := match f with | 79 => S_b32 fu xs | 80 => S_b33 fu xs | _ => none
def pc_b34 (fu : Nat) : Pc RT den := ⟨pcf_b34 fu, fun _ => false, fun _ => false, pcd0, pcd0, pcx0⟩
def msk_b34 (b : Nat) : List Nat := []
def lp_b34 (fu : Nat) : Lp RT den (Int) := ⟨fun b s k => none, inl0⟩
theorem ev_b34 (fu : Nat) (a_0 : S_impl_Node) (k_1 : Int) : evFun E (pc_b34 fu) msk_b34 (lp_b34 fu) out_i64 44 [(.agg [(.int .i64 a_0.Id), (.int .i64 a_0.Peers), (.int .i64 a_0.Term), (.int .i64 a_0.Voted), (.rs a_0.Log.z .impl_Entry a_0.Log.n a_0.Log.f), (.int .i64 a_0.Role), (.int .i64 a_0.Commit), (.rs a_0.Votes.z .i64 a_0.Votes.n a_0.Votes.f), (.rs a_0.Next.z .i64 a_0.Next.n a_0.Next.f), (.rs a_0.Match.z .i64 a_0.Match.n a_0.Match.f)]), (.int .i64 k_1)] = F_laws_heldNode fu a_0 k_1 := by kernel_rfl
noncomputable def body_b34 : Code := Try.f44.body.getD .skip
theorem lpok_b34 (fu : Nat) : LpOk E (pc_b34 fu) 0 msk_b34 (lp_b34 fu) (loops 0 body_b34) := lp_nil (loop_nil (by kernel_rfl)) (by kernel_rfl)
def S_b34 (fu : Nat) (xs : List (D RT den)) : Option (Out RT den) := match xs with | [.agg [.int .i64 a0_1, .int .i64 a0_2, .int .i64 a0_3, .int .i64 a0_4, .rs za0_5 .impl_Entry na0_5 fa0_5, .int .i64 a0_6, .int .i64 a0_7, .rs za0_8 .i64 na0_8 fa0_8, .rs za0_9 .i64 na0_9 fa0_9, .rs za0_10 .i64 na0_10 fa0_10], .int .i64 a1_0] => some ⟨Int, F_laws_heldNode fu (⟨a0_1, a0_2, a0_3, a0_4, (⟨za0_5, na0_5, fa0_5⟩ : (Sl S_impl_Entry)), a0_6, a0_7, (⟨za0_8, na0_8, fa0_8⟩ : (Sl Int)), (⟨za0_9, na0_9, fa0_9⟩ : (Sl Int)), (⟨za0_10, na0_10, fa0_10⟩ : (Sl Int))⟩ : S_impl_Node) a1_0, enc_i64, fun _ => true⟩ | _ => none
theorem hpc_b34 (fu : Nat) : ∀ f xs o, pcf_b34 fu f xs = some o → ∀ y, o.x = some y → Good E Try.prog f xs (o.g y) := by
  intro f xs o h
  unfold pcf_b34 at h
  split at h
  · exact good_b32 fu xs o h
  · exact good_b33 fu xs o h
  · cases h
theorem goodv_b34 (fu : Nat) (a_0 : S_impl_Node) (k_1 : Int) (y : Int) (hy : F_laws_heldNode fu a_0 k_1 = some y) : Good E Try.prog 44 [(.agg [(.int .i64 a_0.Id), (.int .i64 a_0.Peers), (.int .i64 a_0.Term), (.int .i64 a_0.Voted), (.rs a_0.Log.z .impl_Entry a_0.Log.n a_0.Log.f), (.int .i64 a_0.Role), (.int .i64 a_0.Commit), (.rs a_0.Votes.z .i64 a_0.Votes.n a_0.Votes.f), (.rs a_0.Next.z .i64 a_0.Next.n a_0.Next.f), (.rs a_0.Match.z .i64 a_0.Match.n a_0.Match.f)]), (.int .i64 k_1)] (enc_i64 y) :=
  fun_good E_ok (pc_good (pc := pc_b34 fu) (hpc_b34 fu) hpx0) (fn := Try.f44) (c := body_b34) (out := out_i64) (y := y) (by kernel_rfl) (by kernel_rfl) (by kernel_rfl) (lpok_b34 fu) (fun d hd => out_i64_enc d _ hd) ((ev_b34 fu a_0 k_1).trans hy)
theorem good_b34 (fu : Nat) : ∀ xs o, S_b34 fu xs = some o → ∀ y, o.x = some y → Good E Try.prog 44 xs (o.g y) := by
  intro xs o h y hy
  unfold S_b34 at h
  split at h
  · rename_i a0_1 a0_2 a0_3 a0_4 za0_5 na0_5 fa0_5 a0_6 a0_7 za0_8 na0_8 fa0_8 za0_9 na0_9 fa0_9 za0_10 na0_10 fa0_10 a1_0
    cases h
    exact goodv_b34 fu (⟨a0_1, a0_2, a0_3, a0_4, (⟨za0_5, na0_5, fa0_5⟩ : (Sl S_impl_Entry)), a0_6, a0_7, (⟨za0_8, na0_8, fa0_8⟩ : (Sl Int)), (⟨za0_9, na0_9, fa0_9⟩ : (Sl Int)), (⟨za0_10, na0_10, fa0_10⟩ : (Sl Int))⟩ : S_impl_Node) a1_0 y hy
  · cases h

/-! laws.heldMailS -/
def F_laws_heldMailS_B0 {ρ : Type} (fu : Nat) (a0_0 : (Sl S_impl_Mail)) (k0 : Int → Option ρ) (k1 : Int → Option ρ) (k1_1 : Int) (i5_2 : Int) (go : Int → Int → Option ρ) : Option ρ :=
  (bif (decide (i5_2 < ((a0_0.n : Nat) : Int))) then ((bif (decide (0 ≤ i5_2) && decide ((Int.toNat i5_2) < a0_0.n)) then some () else none : Option Unit).bind fun _ => (bif ((a0_0.f (Int.toNat i5_2)).Kind != k1_1) then
    (k0 k1_1) else ((bif (decide (0 ≤ i5_2) && decide ((Int.toNat i5_2) < a0_0.n)) then some () else none : Option Unit).bind fun _ => (bif ((a0_0.f (Int.toNat i5_2)).From != (IntKind.wrap .i64 (k1_1 + 1))) then
    (k0 (IntKind.wrap .i64 (k1_1 + 1))) else ((bif (decide (0 ≤ i5_2) && decide ((Int.toNat i5_2) < a0_0.n)) then some () else none : Option Unit).bind fun _ => (bif ((a0_0.f (Int.toNat i5_2)).To != (IntKind.wrap .i64 ((IntKind.wrap .i64 (k1_1 + 1)) + 1))) then
    (k0 (IntKind.wrap .i64 ((IntKind.wrap .i64 (k1_1 + 1)) + 1))) else ((bif (decide (0 ≤ i5_2) && decide ((Int.toNat i5_2) < a0_0.n)) then some () else none : Option Unit).bind fun _ =>
    (bif ((a0_0.f (Int.toNat i5_2)).Term != (IntKind.wrap .i64 ((IntKind.wrap .i64 ((IntKind.wrap .i64 (k1_1 + 1)) + 1)) + 1))) then (k0 (IntKind.wrap .i64 ((IntKind.wrap .i64 ((IntKind.wrap .i64 (k1_1 + 1)) + 1)) + 1))) else
    ((bif (decide (0 ≤ i5_2) && decide ((Int.toNat i5_2) < a0_0.n)) then some () else none : Option Unit).bind fun _ => (bif ((a0_0.f (Int.toNat i5_2)).Index != (IntKind.wrap .i64 ((IntKind.wrap .i64 ((IntKind.wrap .i64 ((IntKind.wrap .i64 (k1_1 + 1)) + 1)) + 1)) + 1))) then
    (k0 (IntKind.wrap .i64 ((IntKind.wrap .i64 ((IntKind.wrap .i64 ((IntKind.wrap .i64 (k1_1 + 1)) + 1)) + 1)) + 1))) else ((bif (decide (0 ≤ i5_2) && decide ((Int.toNat i5_2) < a0_0.n)) then
    some () else none : Option Unit).bind fun _ => (bif ((a0_0.f (Int.toNat i5_2)).Last != (IntKind.wrap .i64 ((IntKind.wrap .i64 ((IntKind.wrap .i64 ((IntKind.wrap .i64 ((IntKind.wrap .i64 (k1_1 + 1)) + 1)) + 1)) + 1)) + 1))) then
    (k0 (IntKind.wrap .i64 ((IntKind.wrap .i64 ((IntKind.wrap .i64 ((IntKind.wrap .i64 ((IntKind.wrap .i64 (k1_1 + 1)) + 1)) + 1)) + 1)) + 1))) else ((bif (decide (0 ≤ i5_2) &&
    decide ((Int.toNat i5_2) < a0_0.n)) then some () else none : Option Unit).bind fun _ => (bif ((a0_0.f (Int.toNat i5_2)).Commit != (IntKind.wrap .i64 ((IntKind.wrap .i64 ((IntKind.wrap .i64 ((IntKind.wrap .i64 ((IntKind.wrap .i64 ((IntKind.wrap .i64 (k1_1 + 1)) + 1)) + 1)) + 1)) + 1)) + 1))) then
    (k0 (IntKind.wrap .i64 ((IntKind.wrap .i64 ((IntKind.wrap .i64 ((IntKind.wrap .i64 ((IntKind.wrap .i64 ((IntKind.wrap .i64 (k1_1 + 1)) + 1)) + 1)) + 1)) + 1)) + 1))) else ((bif (decide (0 ≤ i5_2) &&
    decide ((Int.toNat i5_2) < a0_0.n)) then some () else none : Option Unit).bind fun _ => (bif (!((a0_0.f (Int.toNat i5_2)).Ok == ((Int.tmod (IntKind.wrap .i64 ((IntKind.wrap .i64 ((IntKind.wrap .i64 ((IntKind.wrap .i64 ((IntKind.wrap .i64 ((IntKind.wrap .i64 ((IntKind.wrap .i64 (k1_1 + 1)) + 1)) + 1)) + 1)) + 1)) + 1)) + 1)) 3) == 0))) then
    (k0 (IntKind.wrap .i64 ((IntKind.wrap .i64 ((IntKind.wrap .i64 ((IntKind.wrap .i64 ((IntKind.wrap .i64 ((IntKind.wrap .i64 ((IntKind.wrap .i64 (k1_1 + 1)) + 1)) + 1)) + 1)) + 1)) + 1)) + 1))) else
    ((bif (decide (0 ≤ i5_2) && decide ((Int.toNat i5_2) < a0_0.n)) then some () else none : Option Unit).bind fun _ => ((F_laws_heldEntryS fu (a0_0.f (Int.toNat i5_2)).Entries (IntKind.wrap .i64 ((IntKind.wrap .i64 ((IntKind.wrap .i64 ((IntKind.wrap .i64 ((IntKind.wrap .i64 ((IntKind.wrap .i64 ((IntKind.wrap .i64 ((IntKind.wrap .i64 (k1_1 + 1)) + 1)) + 1)) + 1)) + 1)) + 1)) + 1)) + 1))).bind fun y310 =>
    (bif (decide (y310 < 0)) then (k0 y310) else (go y310 (IntKind.wrap .i64 (i5_2 + 1)))))))))))))))))))))) else (k1 k1_1))
def F_laws_heldMailS (fu : Nat) (a_0 : (Sl S_impl_Mail)) (k_1 : Int) : Option (Int) :=
  (L (fun w0 go0 => F_laws_heldMailS_B0 fu a_0 (fun z311 => (some (-1))) (fun z312 => (some z312)) w0.1 w0.2 (fun q0 q1 => go0 (q0, q1))) fu ((k_1, 0) : Int × Int))
def pcf_b35 (fu : Nat) (f : Nat) (xs : List (D RT den)) : Option (Out RT den) := match f with | 79 => S_b32 fu xs | _ => none
def pc_b35 (fu : Nat) : Pc RT den := ⟨pcf_b35 fu, fun _ => false, fun _ => false, pcd0, pcd0, pcx0⟩
def msk_b35 (b : Nat) : List Nat := match b with | 0 => [2, 3, 4, 6, 7, 8, 9, 10, 11, 12, 13, 14, 15, 16, 17, 18, 19, 20, 21, 22, 23, 24, 25, 26, 27, 28, 29, 30, 31, 32, 33, 34, 35, 36, 37, 38, 39, 40, 41, 42, 43, 44, 45, 46, 47, 48, 49, 50, 51, 52, 53, 54, 55, 56, 57, 58, 59, 60, 61, 62, 63, 64, 65, 66, 67, 68, 69, 70, 71, 72, 73, 74, 75, 76, 77, 78, 79, 80, 81, 82, 83, 84, 85, 86, 87, 88, 89, 90, 91, 92, 93, 94, 95] | 100000 => [0, 2, 3, 5, 6, 7, 8, 9, 10, 11, 12, 13, 14, 15, 16, 17, 18, 19, 20, 21, 22, 23, 24, 25, 26, 27, 28, 29, 30, 31, 32, 33, 34, 35, 36, 37, 38, 39, 40, 41, 42, 43, 44, 45, 46, 47, 48, 49, 50, 51, 52, 53, 54, 55, 56, 57, 58, 59, 60, 61, 62, 63, 64, 65, 66, 67, 68, 69, 70, 71, 72, 73, 74, 75, 76, 77, 78, 79, 80, 81, 82, 83, 84, 85, 86, 87, 88, 89, 90, 91, 92, 93, 94, 95] | _ => []
def ps_b35_0 : List (Pat RT) := [.flat (.rs .impl_Mail), .flat (.int .i64), .flat .q, .flat .q, .flat .q, .flat (.int .i64), .flat .q, .flat .q, .flat .q, .flat .q, .flat .q, .flat .q, .flat .q, .flat .q, .flat .q, .flat .q, .flat .q, .flat .q, .flat .q, .flat .q, .flat .q, .flat .q, .flat .q, .flat .q, .flat .q, .flat .q, .flat .q, .flat .q, .flat .q, .flat .q, .flat .q, .flat .q, .flat .q, .flat .q, .flat .q, .flat .q, .flat .q, .flat .q, .flat .q, .flat .q, .flat .q, .flat .q, .flat .q, .flat .q, .flat .q, .flat .q, .flat .q, .flat .q, .flat .q, .flat .q, .flat .q, .flat .q, .flat .q, .flat .q, .flat .q, .flat .q, .flat .q, .flat .q, .flat .q, .flat .q, .flat .q, .flat .q, .flat .q, .flat .q, .flat .q, .flat .q, .flat .q, .flat .q, .flat .q, .flat .q, .flat .q, .flat .q, .flat .q, .flat .q, .flat .q, .flat .q, .flat .q, .flat .q, .flat .q, .flat .q, .flat .q, .flat .q, .flat .q, .flat .q, .flat .q, .flat .q, .flat .q, .flat .q, .flat .q, .flat .q, .flat .q, .flat .q, .flat .q, .flat .q, .flat .q, .flat .q]
def os_b35_0 : List (OP RT) := []
def conv_b35_0 (r : Raw den ps_b35_0 os_b35_0) : ((Sl S_impl_Mail)) × (Int × Int) := (r.1.1, (r.1.2.1, r.1.2.2.2.2.2.1))
def back_b35_0 (c : (Sl S_impl_Mail)) (w : Int × Int) : St RT den := ⟨[(.rs c.z .impl_Mail c.n c.f), (.int .i64 w.1), .q, .q, .q, (.int .i64 w.2), .q, .q, .q, .q, .q, .q, .q, .q, .q, .q, .q, .q, .q, .q, .q, .q, .q, .q, .q, .q, .q, .q, .q, .q, .q, .q, .q, .q, .q, .q, .q, .q, .q, .q, .q, .q, .q, .q, .q, .q, .q, .q, .q, .q, .q, .q, .q, .q, .q, .q, .q, .q, .q, .q, .q, .q, .q, .q, .q, .q, .q, .q, .q, .q, .q, .q, .q, .q, .q, .q, .q, .q, .q, .q, .q, .q, .q, .q, .q, .q, .q, .q, .q, .q, .q, .q, .q, .q, .q, .q], []⟩
def Bk_b35_0 {ρ : Type} (fu : Nat) (c : (Sl S_impl_Mail)) (k : Ex → St RT den → Option ρ) (w : Int × Int) (go : (Int × Int) → Option ρ) : Option ρ := F_laws_heldMailS_B0 fu c (fun a0 => k .ret ⟨[.q, (.int .i64 a0), .q, .q, (.int .i64 (-1)), .q, .q, .q, .q, .q, .q, .q, .q, .q, .q, .q, .q, .q, .q, .q, .q, .q, .q, .q, .q, .q, .q, .q, .q, .q, .q, .q, .q, .q, .q, .q, .q, .q, .q, .q, .q, .q, .q, .q, .q, .q, .q, .q, .q, .q, .q, .q, .q, .q, .q, .q, .q, .q, .q, .q, .q, .q, .q, .q, .q, .q, .q, .q, .q, .q, .q, .q, .q, .q, .q, .q, .q, .q, .q, .q, .q, .q, .q, .q, .q, .q, .q, .q, .q, .q, .q, .q, .q, .q, .q, .q], []⟩) (fun a0 => k (.exit 0) ⟨[.q, (.int .i64 a0), .q, .q, .q, .q, .q, .q, .q, .q, .q, .q, .q, .q, .q, .q, .q, .q, .q, .q, .q, .q, .q, .q, .q, .q, .q, .q, .q, .q, .q, .q, .q, .q, .q, .q, .q, .q, .q, .q, .q, .q, .q, .q, .q, .q, .q, .q, .q, .q, .q, .q, .q, .q, .q, .q, .q, .q, .q, .q, .q, .q, .q, .q, .q, .q, .q, .q, .q, .q, .q, .q, .q, .q, .q, .q, .q, .q, .q, .q, .q, .q, .q, .q, .q, .q, .q, .q, .q, .q, .q, .q, .q, .q, .q, .q], []⟩) w.1 w.2 (fun q0 q1 => go (q0, q1))
def lp_b35 (fu : Nat) : Lp RT den (Int) := ⟨fun b s k => match b with | 0 => handle ps_b35_0 os_b35_0 conv_b35_0 (Bk_b35_0 fu) fu s k | _ => none, inl0⟩
theorem ev_b35 (fu : Nat) (a_0 : (Sl S_impl_Mail)) (k_1 : Int) : evFun E (pc_b35 fu) msk_b35 (lp_b35 fu) out_i64 45 [(.rs a_0.z .impl_Mail a_0.n a_0.f), (.int .i64 k_1)] = F_laws_heldMailS fu a_0 k_1 := by kernel_rfl
noncomputable def body_b35 : Code := Try.f45.body.getD .skip
noncomputable def lc_b35_0 : Code := ((loops 0 body_b35).getD 0 (0, .skip)).2
theorem round_b35_0 (fu : Nat) (it : St RT den → Option (Int)) (k : Ex → St RT den → Option (Int)) c w : evCode E (pc_b35 fu) msk_b35 (lp_b35 fu) 0 lc_b35_0 (back_b35_0 c w) (after (msk_b35 0) (msk_b35 100000) 0 it k) = Bk_b35_0 fu c k w (fun w => it (back_b35_0 c w)) := by kernel_rfl
theorem lpok_b35_0 (fu : Nat) : ∀ s k r, (lp_b35 fu).lp 0 s k = some r → ∃ fuel, iter (msk_b35 0) (msk_b35 100000) s.objs.length (evCode E (pc_b35 fu) msk_b35 (lp_b35 fu) 0 lc_b35_0) fuel s k = some r :=
  handle_ok (ps := ps_b35_0) (os := os_b35_0) (conv := conv_b35_0) (B := Bk_b35_0 fu) (fu := fu) back_b35_0 (fun raw => by kernel_rfl) 0 (fun c w => by kernel_rfl) (round_b35_0 fu)
theorem lpok_b35 (fu : Nat) : LpOk E (pc_b35 fu) 0 msk_b35 (lp_b35 fu) (loops 0 body_b35) := lp_nil (loop_all 1 (by kernel_rfl) fun i hi => match i, hi with
  | 0, _ => by
    have h : (loops 0 body_b35).getD 0 (0, .skip) = (0, lc_b35_0) := by kernel_rfl
    rw [h]; exact lpok_b35_0 fu
  | i + 1, hi => absurd hi (by omega)) (by kernel_rfl)
def S_b35 (fu : Nat) (xs : List (D RT den)) : Option (Out RT den) := match xs with | [.rs za0_0 .impl_Mail na0_0 fa0_0, .int .i64 a1_0] => some ⟨Int, F_laws_heldMailS fu (⟨za0_0, na0_0, fa0_0⟩ : (Sl S_impl_Mail)) a1_0, enc_i64, fun _ => true⟩ | _ => none
theorem hpc_b35 (fu : Nat) : ∀ f xs o, pcf_b35 fu f xs = some o → ∀ y, o.x = some y → Good E Try.prog f xs (o.g y) := by
  intro f xs o h
  unfold pcf_b35 at h
  split at h
  · exact good_b32 fu xs o h
  · cases h
theorem goodv_b35 (fu : Nat) (a_0 : (Sl S_impl_Mail)) (k_1 : Int) (y : Int) (hy : F_laws_heldMailS fu a_0 k_1 = some y) : Good E Try.prog 45 [(.rs a_0.z .impl_Mail a_0.n a_0.f), (.int .i64 k_1)] (enc_i64 y) :=
  fun_good E_ok (pc_good (pc := pc_b35 fu) (hpc_b35 fu) hpx0) (fn := Try.f45) (c := body_b35) (out := out_i64) (y := y) (by kernel_rfl) (by kernel_rfl) (by kernel_rfl) (lpok_b35 fu) (fun d hd => out_i64_enc d _ hd) ((ev_b35 fu a_0 k_1).trans hy)
theorem good_b35 (fu : Nat) : ∀ xs o, S_b35 fu xs = some o → ∀ y, o.x = some y → Good E Try.prog 45 xs (o.g y) := by
  intro xs o h y hy
  unfold S_b35 at h
  split at h
  · rename_i za0_0 na0_0 fa0_0 a1_0
    cases h
    exact goodv_b35 fu (⟨za0_0, na0_0, fa0_0⟩ : (Sl S_impl_Mail)) a1_0 y hy
  · cases h

/-! laws.heldNodeResult -/
def F_laws_heldNodeResult (fu : Nat) (a_0 : S_impl_NodeResult) (k_1 : Int) : Option (Int) :=
  ((F_laws_heldNode fu a_0.Node k_1).bind fun y300 => (bif (decide (y300 < 0)) then (some (-1)) else ((F_laws_heldMailS fu a_0.Send y300).bind fun y301 => (bif (decide (y301 < 0)) then
    (some (-1)) else (some y301)))))
def pcf_b36 (fu : Nat) (f : Nat) (xs : List (D RT den)) : Option (Out RT den) := match f with | 44 => S_b34 fu xs | 45 => S_b35 fu xs | _ => none
def pc_b36 (fu : Nat) : Pc RT den := ⟨pcf_b36 fu, fun _ => false, fun _ => false, pcd0, pcd0, pcx0⟩
def msk_b36 (b : Nat) : List Nat := []
def lp_b36 (fu : Nat) : Lp RT den (Int) := ⟨fun b s k => none, inl0⟩
theorem ev_b36 (fu : Nat) (a_0 : S_impl_NodeResult) (k_1 : Int) : evFun E (pc_b36 fu) msk_b36 (lp_b36 fu) out_i64 14 [(.agg [(.int .i64 a_0.Code), (.int .i64 a_0.Node.Id), (.int .i64 a_0.Node.Peers), (.int .i64 a_0.Node.Term), (.int .i64 a_0.Node.Voted), (.rs a_0.Node.Log.z .impl_Entry a_0.Node.Log.n a_0.Node.Log.f), (.int .i64 a_0.Node.Role), (.int .i64 a_0.Node.Commit), (.rs a_0.Node.Votes.z .i64 a_0.Node.Votes.n a_0.Node.Votes.f), (.rs a_0.Node.Next.z .i64 a_0.Node.Next.n a_0.Node.Next.f), (.rs a_0.Node.Match.z .i64 a_0.Node.Match.n a_0.Node.Match.f), (.rs a_0.Send.z .impl_Mail a_0.Send.n a_0.Send.f)]), (.int .i64 k_1)] = F_laws_heldNodeResult fu a_0 k_1 := by kernel_rfl
noncomputable def body_b36 : Code := Try.f14.body.getD .skip
theorem lpok_b36 (fu : Nat) : LpOk E (pc_b36 fu) 0 msk_b36 (lp_b36 fu) (loops 0 body_b36) := lp_nil (loop_nil (by kernel_rfl)) (by kernel_rfl)
def S_b36 (fu : Nat) (xs : List (D RT den)) : Option (Out RT den) := match xs with | [.agg [.int .i64 a0_1, .int .i64 a0_3, .int .i64 a0_4, .int .i64 a0_5, .int .i64 a0_6, .rs za0_7 .impl_Entry na0_7 fa0_7, .int .i64 a0_8, .int .i64 a0_9, .rs za0_10 .i64 na0_10 fa0_10, .rs za0_11 .i64 na0_11 fa0_11, .rs za0_12 .i64 na0_12 fa0_12, .rs za0_13 .impl_Mail na0_13 fa0_13], .int .i64 a1_0] => some ⟨Int, F_laws_heldNodeResult fu (⟨a0_1, (⟨a0_3, a0_4, a0_5, a0_6, (⟨za0_7, na0_7, fa0_7⟩ : (Sl S_impl_Entry)), a0_8, a0_9, (⟨za0_10, na0_10, fa0_10⟩ : (Sl Int)), (⟨za0_11, na0_11, fa0_11⟩ : (Sl Int)), (⟨za0_12, na0_12, fa0_12⟩ : (Sl Int))⟩ : S_impl_Node), (⟨za0_13, na0_13, fa0_13⟩ : (Sl S_impl_Mail))⟩ : S_impl_NodeResult) a1_0, enc_i64, fun _ => true⟩ | _ => none
theorem hpc_b36 (fu : Nat) : ∀ f xs o, pcf_b36 fu f xs = some o → ∀ y, o.x = some y → Good E Try.prog f xs (o.g y) := by
  intro f xs o h
  unfold pcf_b36 at h
  split at h
  · exact good_b34 fu xs o h
  · exact good_b35 fu xs o h
  · cases h
theorem goodv_b36 (fu : Nat) (a_0 : S_impl_NodeResult) (k_1 : Int) (y : Int) (hy : F_laws_heldNodeResult fu a_0 k_1 = some y) : Good E Try.prog 14 [(.agg [(.int .i64 a_0.Code), (.int .i64 a_0.Node.Id), (.int .i64 a_0.Node.Peers), (.int .i64 a_0.Node.Term), (.int .i64 a_0.Node.Voted), (.rs a_0.Node.Log.z .impl_Entry a_0.Node.Log.n a_0.Node.Log.f), (.int .i64 a_0.Node.Role), (.int .i64 a_0.Node.Commit), (.rs a_0.Node.Votes.z .i64 a_0.Node.Votes.n a_0.Node.Votes.f), (.rs a_0.Node.Next.z .i64 a_0.Node.Next.n a_0.Node.Next.f), (.rs a_0.Node.Match.z .i64 a_0.Node.Match.n a_0.Node.Match.f), (.rs a_0.Send.z .impl_Mail a_0.Send.n a_0.Send.f)]), (.int .i64 k_1)] (enc_i64 y) :=
  fun_good E_ok (pc_good (pc := pc_b36 fu) (hpc_b36 fu) hpx0) (fn := Try.f14) (c := body_b36) (out := out_i64) (y := y) (by kernel_rfl) (by kernel_rfl) (by kernel_rfl) (lpok_b36 fu) (fun d hd => out_i64_enc d _ hd) ((ev_b36 fu a_0 k_1).trans hy)
theorem good_b36 (fu : Nat) : ∀ xs o, S_b36 fu xs = some o → ∀ y, o.x = some y → Good E Try.prog 14 xs (o.g y) := by
  intro xs o h y hy
  unfold S_b36 at h
  split at h
  · rename_i a0_1 a0_3 a0_4 a0_5 a0_6 za0_7 na0_7 fa0_7 a0_8 a0_9 za0_10 na0_10 fa0_10 za0_11 na0_11 fa0_11 za0_12 na0_12 fa0_12 za0_13 na0_13 fa0_13 a1_0
    cases h
    exact goodv_b36 fu (⟨a0_1, (⟨a0_3, a0_4, a0_5, a0_6, (⟨za0_7, na0_7, fa0_7⟩ : (Sl S_impl_Entry)), a0_8, a0_9, (⟨za0_10, na0_10, fa0_10⟩ : (Sl Int)), (⟨za0_11, na0_11, fa0_11⟩ : (Sl Int)), (⟨za0_12, na0_12, fa0_12⟩ : (Sl Int))⟩ : S_impl_Node), (⟨za0_13, na0_13, fa0_13⟩ : (Sl S_impl_Mail))⟩ : S_impl_NodeResult) a1_0 y hy
  · cases h

/-! laws.FnExactSpreadNode -/
def F_laws_FnExactSpreadNode (fu : Nat) (aN_0 : S_laws_Node) : Option (Bool) :=
  ((F_laws_szNode fu aN_0 1048576).bind fun y1 => (bif (decide (y1 < 0)) then (some true) else ((F_laws_toNode_H fu aN_0).bind fun y17 => ((F_spec_SpreadNode_U fu (⟨y17.Id,
    y17.Peers, y17.Term, y17.Voted, (⟨none, y17.Log.n, y17.Log.f⟩ : (Sl S_impl_Entry)), y17.Role, y17.Commit, (⟨none, y17.Votes.n, y17.Votes.f⟩ : (Sl Int)), (⟨none, y17.Next.n,
    y17.Next.f⟩ : (Sl Int)), (⟨none, y17.Match.n, y17.Match.f⟩ : (Sl Int))⟩ : S_impl_Node)).bind fun y120 => ((F_laws_toNode_H fu aN_0).bind fun y121 => ((F_impl_SpreadNode_U fu (⟨y121.Id,
    y121.Peers, y121.Term, y121.Voted, (⟨none, y121.Log.n, y121.Log.f⟩ : (Sl S_impl_Entry)), y121.Role, y121.Commit, (⟨none, y121.Votes.n, y121.Votes.f⟩ : (Sl Int)), (⟨none,
    y121.Next.n, y121.Next.f⟩ : (Sl Int)), (⟨none, y121.Match.n, y121.Match.f⟩ : (Sl Int))⟩ : S_impl_Node)).bind fun y252 => ((F_laws_eqNodeResult fu (⟨y252.1, (⟨y252.2.1,
    y252.2.2.1, y252.2.2.2.1, y252.2.2.2.2.1, (⟨none, y252.2.2.2.2.2.1, y252.2.2.2.2.2.2.2.2.2.2.2.2.2.1⟩ : (Sl S_impl_Entry)), y252.2.2.2.2.2.2.1, y252.2.2.2.2.2.2.2.1, (⟨none,
    y252.2.2.2.2.2.2.2.2.1, y252.2.2.2.2.2.2.2.2.2.2.2.2.2.2.2.1⟩ : (Sl Int)), (⟨none, y252.2.2.2.2.2.2.2.2.2.1, y252.2.2.2.2.2.2.2.2.2.2.2.2.2.2.2.2.2.1⟩ : (Sl Int)), (⟨none,
    y252.2.2.2.2.2.2.2.2.2.2.1, y252.2.2.2.2.2.2.2.2.2.2.2.2.2.2.2.2.2.2.2.1⟩ : (Sl Int))⟩ : S_impl_Node), (⟨none, y252.2.2.2.2.2.2.2.2.2.2.2.1,
    y252.2.2.2.2.2.2.2.2.2.2.2.2.2.2.2.2.2.2.2.2.2⟩ : (Sl S_impl_Mail))⟩ : S_impl_NodeResult) (⟨y120.1, (⟨y120.2.1, y120.2.2.1, y120.2.2.2.1, y120.2.2.2.2.1, (⟨none,
    y120.2.2.2.2.2.1, y120.2.2.2.2.2.2.2.2.2.2.2.2.2.1⟩ : (Sl S_impl_Entry)), y120.2.2.2.2.2.2.1, y120.2.2.2.2.2.2.2.1, (⟨none, y120.2.2.2.2.2.2.2.2.1,
    y120.2.2.2.2.2.2.2.2.2.2.2.2.2.2.2.1⟩ : (Sl Int)), (⟨none, y120.2.2.2.2.2.2.2.2.2.1, y120.2.2.2.2.2.2.2.2.2.2.2.2.2.2.2.2.2.1⟩ : (Sl Int)), (⟨none, y120.2.2.2.2.2.2.2.2.2.2.1,
    y120.2.2.2.2.2.2.2.2.2.2.2.2.2.2.2.2.2.2.2.1⟩ : (Sl Int))⟩ : S_impl_Node), (⟨none, y120.2.2.2.2.2.2.2.2.2.2.2.1, y120.2.2.2.2.2.2.2.2.2.2.2.2.2.2.2.2.2.2.2.2.2⟩ : (Sl S_impl_Mail))⟩ : S_impl_NodeResult)).bind fun y253 =>
    (bif (!y253) then (some false) else ((F_laws_toNode_H fu aN_0).bind fun y254 => ((F_laws_eqNode fu (⟨y121.Id, y121.Peers, y121.Term, y121.Voted, (⟨none, y121.Log.n, y121.Log.f⟩ : (Sl S_impl_Entry)),
    y121.Role, y121.Commit, (⟨none, y121.Votes.n, y121.Votes.f⟩ : (Sl Int)), (⟨none, y121.Next.n, y121.Next.f⟩ : (Sl Int)), (⟨none, y121.Match.n, y121.Match.f⟩ : (Sl Int))⟩ : S_impl_Node) (⟨y254.Id,
    y254.Peers, y254.Term, y254.Voted, (⟨none, y254.Log.n, y254.Log.f⟩ : (Sl S_impl_Entry)), y254.Role, y254.Commit, (⟨none, y254.Votes.n, y254.Votes.f⟩ : (Sl Int)), (⟨none,
    y254.Next.n, y254.Next.f⟩ : (Sl Int)), (⟨none, y254.Match.n, y254.Match.f⟩ : (Sl Int))⟩ : S_impl_Node)).bind fun y255 => (bif (!y255) then (some false) else ((F_laws_markNode_L fu y121.Id y121.Peers y121.Term y121.Voted y121.Log.n y121.Role y121.Commit y121.Votes.n y121.Next.n y121.Match.n 1 y121.Log.n y121.Log.f y121.Votes.n y121.Votes.f y121.Next.n y121.Next.f y121.Match.n y121.Match.f).bind fun y264 =>
    (((bif (decide (y264.1 < 0)) then (some true) else ((F_laws_eqNodeResult fu (⟨y252.1, (⟨y252.2.1, y252.2.2.1, y252.2.2.2.1, y252.2.2.2.2.1, (⟨none, y252.2.2.2.2.2.1,
    y252.2.2.2.2.2.2.2.2.2.2.2.2.2.1⟩ : (Sl S_impl_Entry)), y252.2.2.2.2.2.2.1, y252.2.2.2.2.2.2.2.1, (⟨none, y252.2.2.2.2.2.2.2.2.1, y252.2.2.2.2.2.2.2.2.2.2.2.2.2.2.2.1⟩ : (Sl Int)),
    (⟨none, y252.2.2.2.2.2.2.2.2.2.1, y252.2.2.2.2.2.2.2.2.2.2.2.2.2.2.2.2.2.1⟩ : (Sl Int)), (⟨none, y252.2.2.2.2.2.2.2.2.2.2.1, y252.2.2.2.2.2.2.2.2.2.2.2.2.2.2.2.2.2.2.2.1⟩ : (Sl Int))⟩ : S_impl_Node),
    (⟨none, y252.2.2.2.2.2.2.2.2.2.2.2.1, y252.2.2.2.2.2.2.2.2.2.2.2.2.2.2.2.2.2.2.2.2.2⟩ : (Sl S_impl_Mail))⟩ : S_impl_NodeResult) (⟨y120.1, (⟨y120.2.1, y120.2.2.1, y120.2.2.2.1,
    y120.2.2.2.2.1, (⟨none, y120.2.2.2.2.2.1, y120.2.2.2.2.2.2.2.2.2.2.2.2.2.1⟩ : (Sl S_impl_Entry)), y120.2.2.2.2.2.2.1, y120.2.2.2.2.2.2.2.1, (⟨none, y120.2.2.2.2.2.2.2.2.1,
    y120.2.2.2.2.2.2.2.2.2.2.2.2.2.2.2.1⟩ : (Sl Int)), (⟨none, y120.2.2.2.2.2.2.2.2.2.1, y120.2.2.2.2.2.2.2.2.2.2.2.2.2.2.2.2.2.1⟩ : (Sl Int)), (⟨none, y120.2.2.2.2.2.2.2.2.2.2.1,
    y120.2.2.2.2.2.2.2.2.2.2.2.2.2.2.2.2.2.2.2.1⟩ : (Sl Int))⟩ : S_impl_Node), (⟨none, y120.2.2.2.2.2.2.2.2.2.2.2.1, y120.2.2.2.2.2.2.2.2.2.2.2.2.2.2.2.2.2.2.2.2.2⟩ : (Sl S_impl_Mail))⟩ : S_impl_NodeResult)).bind fun y265 =>
    (some (!y265)))) : Option Bool).bind fun m266 => (bif m266 then (some false) else ((F_laws_markNodeResult_U fu y252.1 y252.2.1 y252.2.2.1 y252.2.2.2.1 y252.2.2.2.2.1 y252.2.2.2.2.2.1 y252.2.2.2.2.2.2.1 y252.2.2.2.2.2.2.2.1 y252.2.2.2.2.2.2.2.2.1 y252.2.2.2.2.2.2.2.2.2.1 y252.2.2.2.2.2.2.2.2.2.2.1 y252.2.2.2.2.2.2.2.2.2.2.2.1 1 y252.2.2.2.2.2.2.2.2.2.2.2.2.1 y252.2.2.2.2.2.2.2.2.2.2.2.2.2.1 y252.2.2.2.2.2.2.2.2.2.2.2.2.2.2.1 y252.2.2.2.2.2.2.2.2.2.2.2.2.2.2.2.1 y252.2.2.2.2.2.2.2.2.2.2.2.2.2.2.2.2.1 y252.2.2.2.2.2.2.2.2.2.2.2.2.2.2.2.2.2.1 y252.2.2.2.2.2.2.2.2.2.2.2.2.2.2.2.2.2.2.1 y252.2.2.2.2.2.2.2.2.2.2.2.2.2.2.2.2.2.2.2.1 y252.2.2.2.2.2.2.2.2.2.2.2.2.2.2.2.2.2.2.2.2.1 y252.2.2.2.2.2.2.2.2.2.2.2.2.2.2.2.2.2.2.2.2.1 y252.2.2.2.2.2.2.2.2.2.2.2.2.2.2.2.2.2.2.2.2.2).bind fun y280 =>
    ((F_laws_heldNodeResult fu (⟨y252.1, (⟨y252.2.1, y252.2.2.1, y252.2.2.2.1, y252.2.2.2.2.1, (⟨none, y252.2.2.2.2.2.1, y280.2.2.1⟩ : (Sl S_impl_Entry)), y252.2.2.2.2.2.2.1,
    y252.2.2.2.2.2.2.2.1, (⟨none, y252.2.2.2.2.2.2.2.2.1, y280.2.2.2.2.1⟩ : (Sl Int)), (⟨none, y252.2.2.2.2.2.2.2.2.2.1, y280.2.2.2.2.2.2.1⟩ : (Sl Int)), (⟨none,
    y252.2.2.2.2.2.2.2.2.2.2.1, y280.2.2.2.2.2.2.2.2.1⟩ : (Sl Int))⟩ : S_impl_Node), (⟨none, y252.2.2.2.2.2.2.2.2.2.2.2.1, y280.2.2.2.2.2.2.2.2.2.2.2⟩ : (Sl S_impl_Mail))⟩ : S_impl_NodeResult) 1).bind fun y281 =>
    (bif (decide (y281 < 0)) then (some false) else (bif (y281 != y280.1) then (some false) else ((F_laws_toNode_H fu aN_0).bind fun y282 => ((F_impl_SpreadNode_U fu (⟨y282.Id,
    y282.Peers, y282.Term, y282.Voted, (⟨none, y282.Log.n, y282.Log.f⟩ : (Sl S_impl_Entry)), y282.Role, y282.Commit, (⟨none, y282.Votes.n, y282.Votes.f⟩ : (Sl Int)), (⟨none,
    y282.Next.n, y282.Next.f⟩ : (Sl Int)), (⟨none, y282.Match.n, y282.Match.f⟩ : (Sl Int))⟩ : S_impl_Node)).bind fun y283 => ((F_laws_eqNodeResult fu (⟨y283.1, (⟨y283.2.1,
    y283.2.2.1, y283.2.2.2.1, y283.2.2.2.2.1, (⟨none, y283.2.2.2.2.2.1, y283.2.2.2.2.2.2.2.2.2.2.2.2.2.1⟩ : (Sl S_impl_Entry)), y283.2.2.2.2.2.2.1, y283.2.2.2.2.2.2.2.1, (⟨none,
    y283.2.2.2.2.2.2.2.2.1, y283.2.2.2.2.2.2.2.2.2.2.2.2.2.2.2.1⟩ : (Sl Int)), (⟨none, y283.2.2.2.2.2.2.2.2.2.1, y283.2.2.2.2.2.2.2.2.2.2.2.2.2.2.2.2.2.1⟩ : (Sl Int)), (⟨none,
    y283.2.2.2.2.2.2.2.2.2.2.1, y283.2.2.2.2.2.2.2.2.2.2.2.2.2.2.2.2.2.2.2.1⟩ : (Sl Int))⟩ : S_impl_Node), (⟨none, y283.2.2.2.2.2.2.2.2.2.2.2.1,
    y283.2.2.2.2.2.2.2.2.2.2.2.2.2.2.2.2.2.2.2.2.2⟩ : (Sl S_impl_Mail))⟩ : S_impl_NodeResult) (⟨y120.1, (⟨y120.2.1, y120.2.2.1, y120.2.2.2.1, y120.2.2.2.2.1, (⟨none,
    y120.2.2.2.2.2.1, y120.2.2.2.2.2.2.2.2.2.2.2.2.2.1⟩ : (Sl S_impl_Entry)), y120.2.2.2.2.2.2.1, y120.2.2.2.2.2.2.2.1, (⟨none, y120.2.2.2.2.2.2.2.2.1,
    y120.2.2.2.2.2.2.2.2.2.2.2.2.2.2.2.1⟩ : (Sl Int)), (⟨none, y120.2.2.2.2.2.2.2.2.2.1, y120.2.2.2.2.2.2.2.2.2.2.2.2.2.2.2.2.2.1⟩ : (Sl Int)), (⟨none, y120.2.2.2.2.2.2.2.2.2.2.1,
    y120.2.2.2.2.2.2.2.2.2.2.2.2.2.2.2.2.2.2.2.1⟩ : (Sl Int))⟩ : S_impl_Node), (⟨none, y120.2.2.2.2.2.2.2.2.2.2.2.1, y120.2.2.2.2.2.2.2.2.2.2.2.2.2.2.2.2.2.2.2.2.2⟩ : (Sl S_impl_Mail))⟩ : S_impl_NodeResult)).bind fun y284 =>
    (bif (!y284) then (some false) else ((F_laws_heldNodeResult fu (⟨y252.1, (⟨y252.2.1, y252.2.2.1, y252.2.2.2.1, y252.2.2.2.2.1, (⟨none, y252.2.2.2.2.2.1, y280.2.2.1⟩ : (Sl S_impl_Entry)),
    y252.2.2.2.2.2.2.1, y252.2.2.2.2.2.2.2.1, (⟨none, y252.2.2.2.2.2.2.2.2.1, y280.2.2.2.2.1⟩ : (Sl Int)), (⟨none, y252.2.2.2.2.2.2.2.2.2.1, y280.2.2.2.2.2.2.1⟩ : (Sl Int)), (⟨none,
    y252.2.2.2.2.2.2.2.2.2.2.1, y280.2.2.2.2.2.2.2.2.1⟩ : (Sl Int))⟩ : S_impl_Node), (⟨none, y252.2.2.2.2.2.2.2.2.2.2.2.1, y280.2.2.2.2.2.2.2.2.2.2.2⟩ : (Sl S_impl_Mail))⟩ : S_impl_NodeResult) 1).bind fun y285 =>
    (bif (decide (y285 < 0)) then (some false) else (bif (y285 != y280.1) then (some false) else (some true))))))))))))))))))))))))))
def pcf_b37 (fu : Nat) (f : Nat) (xs : List (D RT den)) : Option (Out RT den) := match f with | 6 => S_b23 fu xs | 10 => S_b31 fu xs | 11 => S_b28 fu xs | 14 => S_b36 fu xs | _ => none
def pcx_b37 (fu : Nat) (f : Nat) (xs : List (D RT den)) (ins : List (Ob RT den)) : Option (OutX RT den) := match f with | 7 => S_a26 fu xs ins | 8 => S_a4 fu xs ins | 9 => S_b12 fu xs ins | 12 => S_b15 fu xs ins | 13 => S_b20 fu xs ins | _ => none
def pcd_b37 : Nat → Bool := fun f => match f with | 7 => true | 9 => true | 13 => true | _ => false
def pc_b37 (fu : Nat) : Pc RT den := ⟨pcf_b37 fu, fun f => match f with | 7 => true | 8 => true | 9 => true | 12 => true | 13 => true | _ => false, fun f => match f with | 12 => true | 13 => true | _ => false, pcd_b37, pcd0, pcx_b37 fu⟩
def msk_b37 (b : Nat) : List Nat := match b with | 200014 => [42] | _ => []
def lp_b37 (fu : Nat) : Lp RT den (Bool) := ⟨fun b s k => none, inl0⟩
theorem ev_b37 (fu : Nat) (aN_0 : S_laws_Node) : evFun E (pc_b37 fu) msk_b37 (lp_b37 fu) out_bo 3 [(.agg [(.int .i64 aN_0.Id), (.int .i64 aN_0.Peers), (.int .i64 aN_0.Term), (.int .i64 aN_0.Voted), (.rs aN_0.Log.z .laws_Entry aN_0.Log.n aN_0.Log.f), (.int .i64 aN_0.Role), (.int .i64 aN_0.Commit), (.rs aN_0.Votes.z .i64 aN_0.Votes.n aN_0.Votes.f), (.rs aN_0.Next.z .i64 aN_0.Next.n aN_0.Next.f), (.rs aN_0.Match.z .i64 aN_0.Match.n aN_0.Match.f)])] = F_laws_FnExactSpreadNode fu aN_0 := by kernel_rfl
noncomputable def body_b37 : Code := Try.f3.body.getD .skip
theorem lpok_b37 (fu : Nat) : LpOk E (pc_b37 fu) 0 msk_b37 (lp_b37 fu) (loops 0 body_b37) := lp_nil (loop_nil (by kernel_rfl)) (by kernel_rfl)
def S_b37 (fu : Nat) (xs : List (D RT den)) : Option (Out RT den) := match xs with | [.agg [.int .i64 a0_1, .int .i64 a0_2, .int .i64 a0_3, .int .i64 a0_4, .rs za0_5 .laws_Entry na0_5 fa0_5, .int .i64 a0_6, .int .i64 a0_7, .rs za0_8 .i64 na0_8 fa0_8, .rs za0_9 .i64 na0_9 fa0_9, .rs za0_10 .i64 na0_10 fa0_10]] => some ⟨Bool, F_laws_FnExactSpreadNode fu (⟨a0_1, a0_2, a0_3, a0_4, (⟨za0_5, na0_5, fa0_5⟩ : (Sl S_laws_Entry)), a0_6, a0_7, (⟨za0_8, na0_8, fa0_8⟩ : (Sl Int)), (⟨za0_9, na0_9, fa0_9⟩ : (Sl Int)), (⟨za0_10, na0_10, fa0_10⟩ : (Sl Int))⟩ : S_laws_Node), enc_bo, fun _ => true⟩ | _ => none
theorem hpc_b37 (fu : Nat) : ∀ f xs o, pcf_b37 fu f xs = some o → ∀ y, o.x = some y → Good E Try.prog f xs (o.g y) := by
  intro f xs o h
  unfold pcf_b37 at h
  split at h
  · exact good_b23 fu xs o h
  · exact good_b31 fu xs o h
  · exact good_b28 fu xs o h
  · exact good_b36 fu xs o h
  · cases h
theorem hpx_b37 (fu : Nat) : ∀ f xs ins o, pcx_b37 fu f xs ins = some o → ∀ y, o.x = some y → GoodXD E Try.prog (pcd_b37 f) f xs ins (o.g y).1 (o.g y).2 := by
  intro f xs ins o h
  unfold pcx_b37 at h
  split at h
  · exact good_a26 fu xs ins o h
  · exact good_a4 fu xs ins o h
  · exact good_b12 fu xs ins o h
  · exact good_b15 fu xs ins o h
  · exact good_b20 fu xs ins o h
  · cases h
theorem goodv_b37 (fu : Nat) (aN_0 : S_laws_Node) (y : Bool) (hy : F_laws_FnExactSpreadNode fu aN_0 = some y) : Good E Try.prog 3 [(.agg [(.int .i64 aN_0.Id), (.int .i64 aN_0.Peers), (.int .i64 aN_0.Term), (.int .i64 aN_0.Voted), (.rs aN_0.Log.z .laws_Entry aN_0.Log.n aN_0.Log.f), (.int .i64 aN_0.Role), (.int .i64 aN_0.Commit), (.rs aN_0.Votes.z .i64 aN_0.Votes.n aN_0.Votes.f), (.rs aN_0.Next.z .i64 aN_0.Next.n aN_0.Next.f), (.rs aN_0.Match.z .i64 aN_0.Match.n aN_0.Match.f)])] (enc_bo y) :=
  fun_good E_ok (pc_good (pc := pc_b37 fu) (hpc_b37 fu) (hpx_b37 fu)) (fn := Try.f3) (c := body_b37) (out := out_bo) (y := y) (by kernel_rfl) (by kernel_rfl) (by kernel_rfl) (lpok_b37 fu) (fun d hd => out_bo_enc d _ hd) ((ev_b37 fu aN_0).trans hy)
theorem good_b37 (fu : Nat) : ∀ xs o, S_b37 fu xs = some o → ∀ y, o.x = some y → Good E Try.prog 3 xs (o.g y) := by
  intro xs o h y hy
  unfold S_b37 at h
  split at h
  · rename_i a0_1 a0_2 a0_3 a0_4 za0_5 na0_5 fa0_5 a0_6 a0_7 za0_8 na0_8 fa0_8 za0_9 na0_9 fa0_9 za0_10 na0_10 fa0_10
    cases h
    exact goodv_b37 fu (⟨a0_1, a0_2, a0_3, a0_4, (⟨za0_5, na0_5, fa0_5⟩ : (Sl S_laws_Entry)), a0_6, a0_7, (⟨za0_8, na0_8, fa0_8⟩ : (Sl Int)), (⟨za0_9, na0_9, fa0_9⟩ : (Sl Int)), (⟨za0_10, na0_10, fa0_10⟩ : (Sl Int))⟩ : S_laws_Node) y hy
  · cases h
end Go.Proofs.Ytjdgfkmiaikegaa.Pc
