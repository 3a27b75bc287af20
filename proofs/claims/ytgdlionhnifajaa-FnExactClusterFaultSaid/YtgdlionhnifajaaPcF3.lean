/- The functions' evaluated forms, each a proved summary. Conditions: none. -/
import Derived.Test.YtgdlionhnifajaaPcF2
namespace Go.Proofs.Ytgdlionhnifajaa.Pc
open Go Go.RowKit Go.Proofs Vm
set_option linter.unusedVariables false
set_option linter.unusedSimpArgs false
set_option maxRecDepth 100000
/-! laws.eqMail -/
def F_laws_eqMail (fu : Nat) (a_0 : S_impl_Mail) (b_1 : S_impl_Mail) : Option (Bool) :=
  (bif (a_0.Kind != b_1.Kind) then (some false) else (bif (a_0.From != b_1.From) then (some false) else (bif (a_0.To != b_1.To) then (some false) else (bif (a_0.Term != b_1.Term) then
    (some false) else (bif (a_0.Index != b_1.Index) then (some false) else (bif (a_0.Last != b_1.Last) then (some false) else (bif (a_0.Commit != b_1.Commit) then (some false) else
    (bif (!(a_0.Ok == b_1.Ok)) then (some false) else ((F_laws_eqEntryS fu a_0.Entries b_1.Entries).bind fun y249 => (bif (!y249) then (some false) else (some true)))))))))))
def pc_laws_eqMail (fu : Nat) : Pc RT den := fun f xs => match f with | 37 => S_laws_eqEntryS fu xs | _ => none
def msk_laws_eqMail (b : Nat) : List Nat := []
def lp_laws_eqMail (fu : Nat) : Lp RT den (Bool) := fun b s k => none
theorem ev_laws_eqMail (fu : Nat) (a_0 : S_impl_Mail) (b_1 : S_impl_Mail) : evFun E (pc_laws_eqMail fu) msk_laws_eqMail (lp_laws_eqMail fu) out_b 19 [(.agg [(.int .i64 a_0.Kind), (.int .i64 a_0.From), (.int .i64 a_0.To), (.int .i64 a_0.Term), (.int .i64 a_0.Index), (.int .i64 a_0.Last), (.int .i64 a_0.Commit), (.bool a_0.Ok), (.rs a_0.Entries.z .impl_Entry a_0.Entries.n a_0.Entries.f)]), (.agg [(.int .i64 b_1.Kind), (.int .i64 b_1.From), (.int .i64 b_1.To), (.int .i64 b_1.Term), (.int .i64 b_1.Index), (.int .i64 b_1.Last), (.int .i64 b_1.Commit), (.bool b_1.Ok), (.rs b_1.Entries.z .impl_Entry b_1.Entries.n b_1.Entries.f)])] = F_laws_eqMail fu a_0 b_1 := by kernel_rfl
noncomputable def body_laws_eqMail : Code := Try.f19.body.getD .skip
theorem lpok_laws_eqMail (fu : Nat) : LpOk E (pc_laws_eqMail fu) msk_laws_eqMail (lp_laws_eqMail fu) (loops 0 body_laws_eqMail) := by
  have h : loops 0 body_laws_eqMail = [] := by kernel_rfl
  rw [h]; intro p hp; cases hp
def S_laws_eqMail (fu : Nat) (xs : List (D RT den)) : Option (Out RT den) := match xs with | [.agg [.int .i64 a0_1, .int .i64 a0_2, .int .i64 a0_3, .int .i64 a0_4, .int .i64 a0_5, .int .i64 a0_6, .int .i64 a0_7, .bool a0_8, .rs za0_9 .impl_Entry na0_9 fa0_9], .agg [.int .i64 a1_1, .int .i64 a1_2, .int .i64 a1_3, .int .i64 a1_4, .int .i64 a1_5, .int .i64 a1_6, .int .i64 a1_7, .bool a1_8, .rs za1_9 .impl_Entry na1_9 fa1_9]] => some ⟨Bool, F_laws_eqMail fu (⟨a0_1, a0_2, a0_3, a0_4, a0_5, a0_6, a0_7, a0_8, (⟨za0_9, na0_9, fa0_9⟩ : (Sl S_impl_Entry))⟩ : S_impl_Mail) (⟨a1_1, a1_2, a1_3, a1_4, a1_5, a1_6, a1_7, a1_8, (⟨za1_9, na1_9, fa1_9⟩ : (Sl S_impl_Entry))⟩ : S_impl_Mail), enc_b, fun _ => true⟩ | _ => none
theorem hpc_laws_eqMail (fu : Nat) : ∀ f xs o, pc_laws_eqMail fu f xs = some o → ∀ y, o.x = some y → Good E Try.prog f xs (o.g y) := by
  intro f xs o h
  unfold pc_laws_eqMail at h
  split at h
  · exact good_laws_eqEntryS fu xs o h
  · cases h
theorem goodv_laws_eqMail (fu : Nat) (a_0 : S_impl_Mail) (b_1 : S_impl_Mail) (y : Bool) (hy : F_laws_eqMail fu a_0 b_1 = some y) : Good E Try.prog 19 [(.agg [(.int .i64 a_0.Kind), (.int .i64 a_0.From), (.int .i64 a_0.To), (.int .i64 a_0.Term), (.int .i64 a_0.Index), (.int .i64 a_0.Last), (.int .i64 a_0.Commit), (.bool a_0.Ok), (.rs a_0.Entries.z .impl_Entry a_0.Entries.n a_0.Entries.f)]), (.agg [(.int .i64 b_1.Kind), (.int .i64 b_1.From), (.int .i64 b_1.To), (.int .i64 b_1.Term), (.int .i64 b_1.Index), (.int .i64 b_1.Last), (.int .i64 b_1.Commit), (.bool b_1.Ok), (.rs b_1.Entries.z .impl_Entry b_1.Entries.n b_1.Entries.f)])] (enc_b y) :=
  fun_good E_ok (pc_good (hpc_laws_eqMail fu)) (fn := Try.f19) (c := body_laws_eqMail) (out := out_b) (y := y) (by kernel_rfl) (by kernel_rfl) (by kernel_rfl) (lpok_laws_eqMail fu) (fun d hd => out_b_enc d _ hd) ((ev_laws_eqMail fu a_0 b_1).trans hy)
theorem good_laws_eqMail (fu : Nat) : ∀ xs o, S_laws_eqMail fu xs = some o → ∀ y, o.x = some y → Good E Try.prog 19 xs (o.g y) := by
  intro xs o h y hy
  unfold S_laws_eqMail at h
  split at h
  · rename_i a0_1 a0_2 a0_3 a0_4 a0_5 a0_6 a0_7 a0_8 za0_9 na0_9 fa0_9 a1_1 a1_2 a1_3 a1_4 a1_5 a1_6 a1_7 a1_8 za1_9 na1_9 fa1_9
    cases h
    exact goodv_laws_eqMail fu (⟨a0_1, a0_2, a0_3, a0_4, a0_5, a0_6, a0_7, a0_8, (⟨za0_9, na0_9, fa0_9⟩ : (Sl S_impl_Entry))⟩ : S_impl_Mail) (⟨a1_1, a1_2, a1_3, a1_4, a1_5, a1_6, a1_7, a1_8, (⟨za1_9, na1_9, fa1_9⟩ : (Sl S_impl_Entry))⟩ : S_impl_Mail) y hy
  · cases h

/-! laws.FnExactMailFault -/
def F_laws_FnExactMailFault (fu : Nat) (aN_0 : S_laws_Node) (aM_1 : S_laws_Mail) : Option (Bool) :=
  ((F_laws_szNode fu aN_0 1048576).bind fun y197 => (bif (decide (y197 < 0)) then (some true) else ((F_laws_szMail fu aM_1 y197).bind fun y198 => (bif (decide (y198 < 0)) then (some true) else
    ((F_laws_toNode fu aN_0).bind fun y199 => ((F_laws_toMail fu aM_1).bind fun y200 => ((F_spec_MailFault fu y199 y200).bind fun y201 => ((F_laws_toNode fu aN_0).bind fun y202 =>
    ((F_laws_toMail fu aM_1).bind fun y203 => ((F_impl_MailFault fu y202 y203).bind fun y204 => (bif (y204 != y201) then (some false) else ((F_laws_toNode fu aN_0).bind fun y205 =>
    ((F_laws_eqNode fu y202 y205).bind fun y206 => (bif (!y206) then (some false) else ((F_laws_toMail fu aM_1).bind fun y207 => ((F_laws_eqMail fu y203 y207).bind fun y208 => (bif (!y208) then
    (some false) else (some true))))))))))))))))))
def pc_laws_FnExactMailFault (fu : Nat) : Pc RT den := fun f xs => match f with | 9 => S_laws_szNode fu xs | 11 => S_laws_toNode fu xs | 14 => S_laws_eqNode fu xs | 15 => S_laws_szMail fu xs | 16 => S_spec_MailFault fu xs | 17 => S_laws_toMail fu xs | 18 => S_impl_MailFault fu xs | 19 => S_laws_eqMail fu xs | _ => none
def msk_laws_FnExactMailFault (b : Nat) : List Nat := []
def lp_laws_FnExactMailFault (fu : Nat) : Lp RT den (Bool) := fun b s k => none
theorem ev_laws_FnExactMailFault (fu : Nat) (aN_0 : S_laws_Node) (aM_1 : S_laws_Mail) : evFun E (pc_laws_FnExactMailFault fu) msk_laws_FnExactMailFault (lp_laws_FnExactMailFault fu) out_b 4 [(.agg [(.int .i64 aN_0.Id), (.int .i64 aN_0.Peers), (.int .i64 aN_0.Term), (.int .i64 aN_0.Voted), (.rs aN_0.Log.z .laws_Entry aN_0.Log.n aN_0.Log.f), (.int .i64 aN_0.Role), (.int .i64 aN_0.Commit), (.rs aN_0.Votes.z .i64 aN_0.Votes.n aN_0.Votes.f), (.rs aN_0.Next.z .i64 aN_0.Next.n aN_0.Next.f), (.rs aN_0.Match.z .i64 aN_0.Match.n aN_0.Match.f)]), (.agg [(.int .i64 aM_1.Kind), (.int .i64 aM_1.From), (.int .i64 aM_1.To), (.int .i64 aM_1.Term), (.int .i64 aM_1.Index), (.int .i64 aM_1.Last), (.int .i64 aM_1.Commit), (.bool aM_1.Ok), (.rs aM_1.Entries.z .laws_Entry aM_1.Entries.n aM_1.Entries.f)])] = F_laws_FnExactMailFault fu aN_0 aM_1 := by kernel_rfl
noncomputable def body_laws_FnExactMailFault : Code := Try.f4.body.getD .skip
theorem lpok_laws_FnExactMailFault (fu : Nat) : LpOk E (pc_laws_FnExactMailFault fu) msk_laws_FnExactMailFault (lp_laws_FnExactMailFault fu) (loops 0 body_laws_FnExactMailFault) := by
  have h : loops 0 body_laws_FnExactMailFault = [] := by kernel_rfl
  rw [h]; intro p hp; cases hp
def S_laws_FnExactMailFault (fu : Nat) (xs : List (D RT den)) : Option (Out RT den) := match xs with | [.agg [.int .i64 a0_1, .int .i64 a0_2, .int .i64 a0_3, .int .i64 a0_4, .rs za0_5 .laws_Entry na0_5 fa0_5, .int .i64 a0_6, .int .i64 a0_7, .rs za0_8 .i64 na0_8 fa0_8, .rs za0_9 .i64 na0_9 fa0_9, .rs za0_10 .i64 na0_10 fa0_10], .agg [.int .i64 a1_1, .int .i64 a1_2, .int .i64 a1_3, .int .i64 a1_4, .int .i64 a1_5, .int .i64 a1_6, .int .i64 a1_7, .bool a1_8, .rs za1_9 .laws_Entry na1_9 fa1_9]] => some ⟨Bool, F_laws_FnExactMailFault fu (⟨a0_1, a0_2, a0_3, a0_4, (⟨za0_5, na0_5, fa0_5⟩ : (Sl S_laws_Entry)), a0_6, a0_7, (⟨za0_8, na0_8, fa0_8⟩ : (Sl Int)), (⟨za0_9, na0_9, fa0_9⟩ : (Sl Int)), (⟨za0_10, na0_10, fa0_10⟩ : (Sl Int))⟩ : S_laws_Node) (⟨a1_1, a1_2, a1_3, a1_4, a1_5, a1_6, a1_7, a1_8, (⟨za1_9, na1_9, fa1_9⟩ : (Sl S_laws_Entry))⟩ : S_laws_Mail), enc_b, fun _ => true⟩ | _ => none
theorem hpc_laws_FnExactMailFault (fu : Nat) : ∀ f xs o, pc_laws_FnExactMailFault fu f xs = some o → ∀ y, o.x = some y → Good E Try.prog f xs (o.g y) := by
  intro f xs o h
  unfold pc_laws_FnExactMailFault at h
  split at h
  · exact good_laws_szNode fu xs o h
  · exact good_laws_toNode fu xs o h
  · exact good_laws_eqNode fu xs o h
  · exact good_laws_szMail fu xs o h
  · exact good_spec_MailFault fu xs o h
  · exact good_laws_toMail fu xs o h
  · exact good_impl_MailFault fu xs o h
  · exact good_laws_eqMail fu xs o h
  · cases h
theorem goodv_laws_FnExactMailFault (fu : Nat) (aN_0 : S_laws_Node) (aM_1 : S_laws_Mail) (y : Bool) (hy : F_laws_FnExactMailFault fu aN_0 aM_1 = some y) : Good E Try.prog 4 [(.agg [(.int .i64 aN_0.Id), (.int .i64 aN_0.Peers), (.int .i64 aN_0.Term), (.int .i64 aN_0.Voted), (.rs aN_0.Log.z .laws_Entry aN_0.Log.n aN_0.Log.f), (.int .i64 aN_0.Role), (.int .i64 aN_0.Commit), (.rs aN_0.Votes.z .i64 aN_0.Votes.n aN_0.Votes.f), (.rs aN_0.Next.z .i64 aN_0.Next.n aN_0.Next.f), (.rs aN_0.Match.z .i64 aN_0.Match.n aN_0.Match.f)]), (.agg [(.int .i64 aM_1.Kind), (.int .i64 aM_1.From), (.int .i64 aM_1.To), (.int .i64 aM_1.Term), (.int .i64 aM_1.Index), (.int .i64 aM_1.Last), (.int .i64 aM_1.Commit), (.bool aM_1.Ok), (.rs aM_1.Entries.z .laws_Entry aM_1.Entries.n aM_1.Entries.f)])] (enc_b y) :=
  fun_good E_ok (pc_good (hpc_laws_FnExactMailFault fu)) (fn := Try.f4) (c := body_laws_FnExactMailFault) (out := out_b) (y := y) (by kernel_rfl) (by kernel_rfl) (by kernel_rfl) (lpok_laws_FnExactMailFault fu) (fun d hd => out_b_enc d _ hd) ((ev_laws_FnExactMailFault fu aN_0 aM_1).trans hy)
theorem good_laws_FnExactMailFault (fu : Nat) : ∀ xs o, S_laws_FnExactMailFault fu xs = some o → ∀ y, o.x = some y → Good E Try.prog 4 xs (o.g y) := by
  intro xs o h y hy
  unfold S_laws_FnExactMailFault at h
  split at h
  · rename_i a0_1 a0_2 a0_3 a0_4 za0_5 na0_5 fa0_5 a0_6 a0_7 za0_8 na0_8 fa0_8 za0_9 na0_9 fa0_9 za0_10 na0_10 fa0_10 a1_1 a1_2 a1_3 a1_4 a1_5 a1_6 a1_7 a1_8 za1_9 na1_9 fa1_9
    cases h
    exact goodv_laws_FnExactMailFault fu (⟨a0_1, a0_2, a0_3, a0_4, (⟨za0_5, na0_5, fa0_5⟩ : (Sl S_laws_Entry)), a0_6, a0_7, (⟨za0_8, na0_8, fa0_8⟩ : (Sl Int)), (⟨za0_9, na0_9, fa0_9⟩ : (Sl Int)), (⟨za0_10, na0_10, fa0_10⟩ : (Sl Int))⟩ : S_laws_Node) (⟨a1_1, a1_2, a1_3, a1_4, a1_5, a1_6, a1_7, a1_8, (⟨za1_9, na1_9, fa1_9⟩ : (Sl S_laws_Entry))⟩ : S_laws_Mail) y hy
  · cases h

/-! laws.szNodeS -/
def F_laws_szNodeS_B0 {ρ : Type} (fu : Nat) (a0_0 : (Sl S_laws_Node)) (k0 : Int → Option ρ) (k1 : Int → Option ρ) (left1_1 : Int) (i5_2 : Int) (go : Int → Int → Option ρ) : Option ρ :=
  (bif (decide (i5_2 < ((a0_0.n : Nat) : Int))) then ((bif (decide (0 ≤ i5_2) && decide ((Int.toNat i5_2) < a0_0.n)) then some () else none : Option Unit).bind fun _ =>
    ((F_laws_szNode fu (a0_0.f (Int.toNat i5_2)) left1_1).bind fun y261 => (bif (decide (y261 < 0)) then (k0 y261) else (go y261 (IntKind.wrap .i64 (i5_2 + 1)))))) else (k1 left1_1))
def F_laws_szNodeS (fu : Nat) (a_0 : (Sl S_laws_Node)) (left_1 : Int) : Option (Int) :=
  (bif (decide ((IntKind.wrap .i64 (left_1 - ((a_0.n : Nat) : Int))) < 0)) then (some (-1)) else (L (fun w0 go0 => F_laws_szNodeS_B0 fu a_0 (fun z262 => (some (-1))) (fun z263 =>
    (some z263)) w0.1 w0.2 (fun q0 q1 => go0 (q0, q1))) fu (((IntKind.wrap .i64 (left_1 - ((a_0.n : Nat) : Int))), 0) : Int × Int)))
def pc_laws_szNodeS (fu : Nat) : Pc RT den := fun f xs => match f with | 9 => S_laws_szNode fu xs | _ => none
def msk_laws_szNodeS (b : Nat) : List Nat := match b with | 0 => [2, 3, 4, 6, 7, 8, 9, 10, 11, 12, 13, 14, 15, 16, 17, 18, 19, 20, 21, 22, 23, 24, 25, 26] | 100000 => [0, 2, 3, 5, 6, 7, 8, 9, 10, 11, 12, 13, 14, 15, 16, 17, 18, 19, 20, 21, 22, 23, 24, 25, 26] | _ => []
def ps_laws_szNodeS_0 : List (Pat RT) := [.flat (.rs .laws_Node), .flat (.int .i64), .flat .dead, .flat .dead, .flat .dead, .flat (.int .i64), .flat .dead, .flat .dead, .flat .dead, .flat .dead, .flat .dead, .flat .dead, .flat .dead, .flat .dead, .flat .dead, .flat .dead, .flat .dead, .flat .dead, .flat .dead, .flat .dead, .flat .dead, .flat .dead, .flat .dead, .flat .dead, .flat .dead, .flat .dead, .flat .dead]
def os_laws_szNodeS_0 : List (OP RT) := []
def conv_laws_szNodeS_0 (r : Raw den ps_laws_szNodeS_0 os_laws_szNodeS_0) : ((Sl S_laws_Node)) × (Int × Int) := (r.1.1, (r.1.2.1, r.1.2.2.2.2.2.1))
def back_laws_szNodeS_0 (c : (Sl S_laws_Node)) (w : Int × Int) : St RT den := ⟨[(.rs c.z .laws_Node c.n c.f), (.int .i64 w.1), .dead, .dead, .dead, (.int .i64 w.2), .dead, .dead, .dead, .dead, .dead, .dead, .dead, .dead, .dead, .dead, .dead, .dead, .dead, .dead, .dead, .dead, .dead, .dead, .dead, .dead, .dead], []⟩
def Bk_laws_szNodeS_0 {ρ : Type} (fu : Nat) (c : (Sl S_laws_Node)) (k : Ex → St RT den → Option ρ) (w : Int × Int) (go : (Int × Int) → Option ρ) : Option ρ := F_laws_szNodeS_B0 fu c (fun a0 => k .ret ⟨[.dead, (.int .i64 a0), .dead, .dead, (.int .i64 (-1)), .dead, .dead, .dead, .dead, .dead, .dead, .dead, .dead, .dead, .dead, .dead, .dead, .dead, .dead, .dead, .dead, .dead, .dead, .dead, .dead, .dead, .dead], []⟩) (fun a0 => k (.exit 0) ⟨[.dead, (.int .i64 a0), .dead, .dead, .dead, .dead, .dead, .dead, .dead, .dead, .dead, .dead, .dead, .dead, .dead, .dead, .dead, .dead, .dead, .dead, .dead, .dead, .dead, .dead, .dead, .dead, .dead], []⟩) w.1 w.2 (fun q0 q1 => go (q0, q1))
def lp_laws_szNodeS (fu : Nat) : Lp RT den (Int) := fun b s k => match b with | 0 => handle ps_laws_szNodeS_0 os_laws_szNodeS_0 conv_laws_szNodeS_0 (Bk_laws_szNodeS_0 fu) fu s k | _ => none
theorem ev_laws_szNodeS (fu : Nat) (a_0 : (Sl S_laws_Node)) (left_1 : Int) : evFun E (pc_laws_szNodeS fu) msk_laws_szNodeS (lp_laws_szNodeS fu) out_i64 44 [(.rs a_0.z .laws_Node a_0.n a_0.f), (.int .i64 left_1)] = F_laws_szNodeS fu a_0 left_1 := by kernel_rfl
noncomputable def body_laws_szNodeS : Code := Try.f44.body.getD .skip
noncomputable def lc_laws_szNodeS_0 : Code := ((loops 0 body_laws_szNodeS).getD 0 (0, .skip)).2
theorem round_laws_szNodeS_0 (fu : Nat) (it : St RT den → Option (Int)) (k : Ex → St RT den → Option (Int)) c w : evCode E (pc_laws_szNodeS fu) msk_laws_szNodeS (lp_laws_szNodeS fu) 0 lc_laws_szNodeS_0 (back_laws_szNodeS_0 c w) (after (msk_laws_szNodeS 0) (msk_laws_szNodeS 100000) 0 it k) = Bk_laws_szNodeS_0 fu c k w (fun w => it (back_laws_szNodeS_0 c w)) := by kernel_rfl
theorem lpok_laws_szNodeS_0 (fu : Nat) : ∀ s k r, lp_laws_szNodeS fu 0 s k = some r → ∃ fuel, iter (msk_laws_szNodeS 0) (msk_laws_szNodeS 100000) s.objs.length (evCode E (pc_laws_szNodeS fu) msk_laws_szNodeS (lp_laws_szNodeS fu) 0 lc_laws_szNodeS_0) fuel s k = some r :=
  handle_ok (ps := ps_laws_szNodeS_0) (os := os_laws_szNodeS_0) (conv := conv_laws_szNodeS_0) (B := Bk_laws_szNodeS_0 fu) (fu := fu) back_laws_szNodeS_0 (fun raw => by kernel_rfl) 0 (fun c w => by kernel_rfl) (round_laws_szNodeS_0 fu)
theorem lpok_laws_szNodeS (fu : Nat) : LpOk E (pc_laws_szNodeS fu) msk_laws_szNodeS (lp_laws_szNodeS fu) (loops 0 body_laws_szNodeS) := loop_all 1 (by kernel_rfl) fun i hi => match i, hi with
  | 0, _ => by
    have h : (loops 0 body_laws_szNodeS).getD 0 (0, .skip) = (0, lc_laws_szNodeS_0) := by kernel_rfl
    rw [h]; exact lpok_laws_szNodeS_0 fu
  | i + 1, hi => absurd hi (by omega)
def S_laws_szNodeS (fu : Nat) (xs : List (D RT den)) : Option (Out RT den) := match xs with | [.rs za0_0 .laws_Node na0_0 fa0_0, .int .i64 a1_0] => some ⟨Int, F_laws_szNodeS fu (⟨za0_0, na0_0, fa0_0⟩ : (Sl S_laws_Node)) a1_0, enc_i64, fun _ => true⟩ | _ => none
theorem hpc_laws_szNodeS (fu : Nat) : ∀ f xs o, pc_laws_szNodeS fu f xs = some o → ∀ y, o.x = some y → Good E Try.prog f xs (o.g y) := by
  intro f xs o h
  unfold pc_laws_szNodeS at h
  split at h
  · exact good_laws_szNode fu xs o h
  · cases h
theorem goodv_laws_szNodeS (fu : Nat) (a_0 : (Sl S_laws_Node)) (left_1 : Int) (y : Int) (hy : F_laws_szNodeS fu a_0 left_1 = some y) : Good E Try.prog 44 [(.rs a_0.z .laws_Node a_0.n a_0.f), (.int .i64 left_1)] (enc_i64 y) :=
  fun_good E_ok (pc_good (hpc_laws_szNodeS fu)) (fn := Try.f44) (c := body_laws_szNodeS) (out := out_i64) (y := y) (by kernel_rfl) (by kernel_rfl) (by kernel_rfl) (lpok_laws_szNodeS fu) (fun d hd => out_i64_enc d _ hd) ((ev_laws_szNodeS fu a_0 left_1).trans hy)
theorem good_laws_szNodeS (fu : Nat) : ∀ xs o, S_laws_szNodeS fu xs = some o → ∀ y, o.x = some y → Good E Try.prog 44 xs (o.g y) := by
  intro xs o h y hy
  unfold S_laws_szNodeS at h
  split at h
  · rename_i za0_0 na0_0 fa0_0 a1_0
    cases h
    exact goodv_laws_szNodeS fu (⟨za0_0, na0_0, fa0_0⟩ : (Sl S_laws_Node)) a1_0 y hy
  · cases h

/-! laws.szMailS -/
def F_laws_szMailS_B0 {ρ : Type} (fu : Nat) (a0_0 : (Sl S_laws_Mail)) (k0 : Int → Option ρ) (k1 : Int → Option ρ) (left1_1 : Int) (i5_2 : Int) (go : Int → Int → Option ρ) : Option ρ :=
  (bif (decide (i5_2 < ((a0_0.n : Nat) : Int))) then ((bif (decide (0 ≤ i5_2) && decide ((Int.toNat i5_2) < a0_0.n)) then some () else none : Option Unit).bind fun _ =>
    ((F_laws_szMail fu (a0_0.f (Int.toNat i5_2)) left1_1).bind fun y264 => (bif (decide (y264 < 0)) then (k0 y264) else (go y264 (IntKind.wrap .i64 (i5_2 + 1)))))) else (k1 left1_1))
def F_laws_szMailS (fu : Nat) (a_0 : (Sl S_laws_Mail)) (left_1 : Int) : Option (Int) :=
  (bif (decide ((IntKind.wrap .i64 (left_1 - ((a_0.n : Nat) : Int))) < 0)) then (some (-1)) else (L (fun w0 go0 => F_laws_szMailS_B0 fu a_0 (fun z265 => (some (-1))) (fun z266 =>
    (some z266)) w0.1 w0.2 (fun q0 q1 => go0 (q0, q1))) fu (((IntKind.wrap .i64 (left_1 - ((a_0.n : Nat) : Int))), 0) : Int × Int)))
def pc_laws_szMailS (fu : Nat) : Pc RT den := fun f xs => match f with | 15 => S_laws_szMail fu xs | _ => none
def msk_laws_szMailS (b : Nat) : List Nat := match b with | 0 => [2, 3, 4, 6, 7, 8, 9, 10, 11, 12, 13, 14, 15, 16, 17, 18, 19, 20, 21, 22, 23, 24, 25, 26] | 100000 => [0, 2, 3, 5, 6, 7, 8, 9, 10, 11, 12, 13, 14, 15, 16, 17, 18, 19, 20, 21, 22, 23, 24, 25, 26] | _ => []
def ps_laws_szMailS_0 : List (Pat RT) := [.flat (.rs .laws_Mail), .flat (.int .i64), .flat .dead, .flat .dead, .flat .dead, .flat (.int .i64), .flat .dead, .flat .dead, .flat .dead, .flat .dead, .flat .dead, .flat .dead, .flat .dead, .flat .dead, .flat .dead, .flat .dead, .flat .dead, .flat .dead, .flat .dead, .flat .dead, .flat .dead, .flat .dead, .flat .dead, .flat .dead, .flat .dead, .flat .dead, .flat .dead]
def os_laws_szMailS_0 : List (OP RT) := []
def conv_laws_szMailS_0 (r : Raw den ps_laws_szMailS_0 os_laws_szMailS_0) : ((Sl S_laws_Mail)) × (Int × Int) := (r.1.1, (r.1.2.1, r.1.2.2.2.2.2.1))
def back_laws_szMailS_0 (c : (Sl S_laws_Mail)) (w : Int × Int) : St RT den := ⟨[(.rs c.z .laws_Mail c.n c.f), (.int .i64 w.1), .dead, .dead, .dead, (.int .i64 w.2), .dead, .dead, .dead, .dead, .dead, .dead, .dead, .dead, .dead, .dead, .dead, .dead, .dead, .dead, .dead, .dead, .dead, .dead, .dead, .dead, .dead], []⟩
def Bk_laws_szMailS_0 {ρ : Type} (fu : Nat) (c : (Sl S_laws_Mail)) (k : Ex → St RT den → Option ρ) (w : Int × Int) (go : (Int × Int) → Option ρ) : Option ρ := F_laws_szMailS_B0 fu c (fun a0 => k .ret ⟨[.dead, (.int .i64 a0), .dead, .dead, (.int .i64 (-1)), .dead, .dead, .dead, .dead, .dead, .dead, .dead, .dead, .dead, .dead, .dead, .dead, .dead, .dead, .dead, .dead, .dead, .dead, .dead, .dead, .dead, .dead], []⟩) (fun a0 => k (.exit 0) ⟨[.dead, (.int .i64 a0), .dead, .dead, .dead, .dead, .dead, .dead, .dead, .dead, .dead, .dead, .dead, .dead, .dead, .dead, .dead, .dead, .dead, .dead, .dead, .dead, .dead, .dead, .dead, .dead, .dead], []⟩) w.1 w.2 (fun q0 q1 => go (q0, q1))
def lp_laws_szMailS (fu : Nat) : Lp RT den (Int) := fun b s k => match b with | 0 => handle ps_laws_szMailS_0 os_laws_szMailS_0 conv_laws_szMailS_0 (Bk_laws_szMailS_0 fu) fu s k | _ => none
theorem ev_laws_szMailS (fu : Nat) (a_0 : (Sl S_laws_Mail)) (left_1 : Int) : evFun E (pc_laws_szMailS fu) msk_laws_szMailS (lp_laws_szMailS fu) out_i64 45 [(.rs a_0.z .laws_Mail a_0.n a_0.f), (.int .i64 left_1)] = F_laws_szMailS fu a_0 left_1 := by kernel_rfl
noncomputable def body_laws_szMailS : Code := Try.f45.body.getD .skip
noncomputable def lc_laws_szMailS_0 : Code := ((loops 0 body_laws_szMailS).getD 0 (0, .skip)).2
theorem round_laws_szMailS_0 (fu : Nat) (it : St RT den → Option (Int)) (k : Ex → St RT den → Option (Int)) c w : evCode E (pc_laws_szMailS fu) msk_laws_szMailS (lp_laws_szMailS fu) 0 lc_laws_szMailS_0 (back_laws_szMailS_0 c w) (after (msk_laws_szMailS 0) (msk_laws_szMailS 100000) 0 it k) = Bk_laws_szMailS_0 fu c k w (fun w => it (back_laws_szMailS_0 c w)) := by kernel_rfl
theorem lpok_laws_szMailS_0 (fu : Nat) : ∀ s k r, lp_laws_szMailS fu 0 s k = some r → ∃ fuel, iter (msk_laws_szMailS 0) (msk_laws_szMailS 100000) s.objs.length (evCode E (pc_laws_szMailS fu) msk_laws_szMailS (lp_laws_szMailS fu) 0 lc_laws_szMailS_0) fuel s k = some r :=
  handle_ok (ps := ps_laws_szMailS_0) (os := os_laws_szMailS_0) (conv := conv_laws_szMailS_0) (B := Bk_laws_szMailS_0 fu) (fu := fu) back_laws_szMailS_0 (fun raw => by kernel_rfl) 0 (fun c w => by kernel_rfl) (round_laws_szMailS_0 fu)
theorem lpok_laws_szMailS (fu : Nat) : LpOk E (pc_laws_szMailS fu) msk_laws_szMailS (lp_laws_szMailS fu) (loops 0 body_laws_szMailS) := loop_all 1 (by kernel_rfl) fun i hi => match i, hi with
  | 0, _ => by
    have h : (loops 0 body_laws_szMailS).getD 0 (0, .skip) = (0, lc_laws_szMailS_0) := by kernel_rfl
    rw [h]; exact lpok_laws_szMailS_0 fu
  | i + 1, hi => absurd hi (by omega)
def S_laws_szMailS (fu : Nat) (xs : List (D RT den)) : Option (Out RT den) := match xs with | [.rs za0_0 .laws_Mail na0_0 fa0_0, .int .i64 a1_0] => some ⟨Int, F_laws_szMailS fu (⟨za0_0, na0_0, fa0_0⟩ : (Sl S_laws_Mail)) a1_0, enc_i64, fun _ => true⟩ | _ => none
theorem hpc_laws_szMailS (fu : Nat) : ∀ f xs o, pc_laws_szMailS fu f xs = some o → ∀ y, o.x = some y → Good E Try.prog f xs (o.g y) := by
  intro f xs o h
  unfold pc_laws_szMailS at h
  split at h
  · exact good_laws_szMail fu xs o h
  · cases h
theorem goodv_laws_szMailS (fu : Nat) (a_0 : (Sl S_laws_Mail)) (left_1 : Int) (y : Int) (hy : F_laws_szMailS fu a_0 left_1 = some y) : Good E Try.prog 45 [(.rs a_0.z .laws_Mail a_0.n a_0.f), (.int .i64 left_1)] (enc_i64 y) :=
  fun_good E_ok (pc_good (hpc_laws_szMailS fu)) (fn := Try.f45) (c := body_laws_szMailS) (out := out_i64) (y := y) (by kernel_rfl) (by kernel_rfl) (by kernel_rfl) (lpok_laws_szMailS fu) (fun d hd => out_i64_enc d _ hd) ((ev_laws_szMailS fu a_0 left_1).trans hy)
theorem good_laws_szMailS (fu : Nat) : ∀ xs o, S_laws_szMailS fu xs = some o → ∀ y, o.x = some y → Good E Try.prog 45 xs (o.g y) := by
  intro xs o h y hy
  unfold S_laws_szMailS at h
  split at h
  · rename_i za0_0 na0_0 fa0_0 a1_0
    cases h
    exact goodv_laws_szMailS fu (⟨za0_0, na0_0, fa0_0⟩ : (Sl S_laws_Mail)) a1_0 y hy
  · cases h

/-! laws.szWonS -/
def F_laws_szWonS (fu : Nat) (a_0 : (Sl S_impl_Won)) (left_1 : Int) : Option (Int) :=
  (bif (decide ((IntKind.wrap .i64 (left_1 - ((a_0.n : Nat) : Int))) < 0)) then (some (-1)) else (some (IntKind.wrap .i64 (left_1 - ((a_0.n : Nat) : Int)))))
def pc_laws_szWonS (fu : Nat) : Pc RT den := fun f xs => none
def msk_laws_szWonS (b : Nat) : List Nat := []
def lp_laws_szWonS (fu : Nat) : Lp RT den (Int) := fun b s k => none
theorem ev_laws_szWonS (fu : Nat) (a_0 : (Sl S_impl_Won)) (left_1 : Int) : evFun E (pc_laws_szWonS fu) msk_laws_szWonS (lp_laws_szWonS fu) out_i64 46 [(.rs a_0.z .impl_Won a_0.n a_0.f), (.int .i64 left_1)] = F_laws_szWonS fu a_0 left_1 := by kernel_rfl
noncomputable def body_laws_szWonS : Code := Try.f46.body.getD .skip
theorem lpok_laws_szWonS (fu : Nat) : LpOk E (pc_laws_szWonS fu) msk_laws_szWonS (lp_laws_szWonS fu) (loops 0 body_laws_szWonS) := by
  have h : loops 0 body_laws_szWonS = [] := by kernel_rfl
  rw [h]; intro p hp; cases hp
def S_laws_szWonS (fu : Nat) (xs : List (D RT den)) : Option (Out RT den) := match xs with | [.rs za0_0 .impl_Won na0_0 fa0_0, .int .i64 a1_0] => some ⟨Int, F_laws_szWonS fu (⟨za0_0, na0_0, fa0_0⟩ : (Sl S_impl_Won)) a1_0, enc_i64, fun _ => true⟩ | _ => none
theorem hpc_laws_szWonS (fu : Nat) : ∀ f xs o, pc_laws_szWonS fu f xs = some o → ∀ y, o.x = some y → Good E Try.prog f xs (o.g y) := by
  intro f xs o h
  cases h
theorem goodv_laws_szWonS (fu : Nat) (a_0 : (Sl S_impl_Won)) (left_1 : Int) (y : Int) (hy : F_laws_szWonS fu a_0 left_1 = some y) : Good E Try.prog 46 [(.rs a_0.z .impl_Won a_0.n a_0.f), (.int .i64 left_1)] (enc_i64 y) :=
  fun_good E_ok (pc_good (hpc_laws_szWonS fu)) (fn := Try.f46) (c := body_laws_szWonS) (out := out_i64) (y := y) (by kernel_rfl) (by kernel_rfl) (by kernel_rfl) (lpok_laws_szWonS fu) (fun d hd => out_i64_enc d _ hd) ((ev_laws_szWonS fu a_0 left_1).trans hy)
theorem good_laws_szWonS (fu : Nat) : ∀ xs o, S_laws_szWonS fu xs = some o → ∀ y, o.x = some y → Good E Try.prog 46 xs (o.g y) := by
  intro xs o h y hy
  unfold S_laws_szWonS at h
  split at h
  · rename_i za0_0 na0_0 fa0_0 a1_0
    cases h
    exact goodv_laws_szWonS fu (⟨za0_0, na0_0, fa0_0⟩ : (Sl S_impl_Won)) a1_0 y hy
  · cases h

/-! laws.szSealS -/
def F_laws_szSealS (fu : Nat) (a_0 : (Sl S_laws_Seal)) (left_1 : Int) : Option (Int) :=
  (bif (decide ((IntKind.wrap .i64 (left_1 - ((a_0.n : Nat) : Int))) < 0)) then (some (-1)) else (some (IntKind.wrap .i64 (left_1 - ((a_0.n : Nat) : Int)))))
def pc_laws_szSealS (fu : Nat) : Pc RT den := fun f xs => none
def msk_laws_szSealS (b : Nat) : List Nat := []
def lp_laws_szSealS (fu : Nat) : Lp RT den (Int) := fun b s k => none
theorem ev_laws_szSealS (fu : Nat) (a_0 : (Sl S_laws_Seal)) (left_1 : Int) : evFun E (pc_laws_szSealS fu) msk_laws_szSealS (lp_laws_szSealS fu) out_i64 47 [(.rs a_0.z .laws_Seal a_0.n a_0.f), (.int .i64 left_1)] = F_laws_szSealS fu a_0 left_1 := by kernel_rfl
noncomputable def body_laws_szSealS : Code := Try.f47.body.getD .skip
theorem lpok_laws_szSealS (fu : Nat) : LpOk E (pc_laws_szSealS fu) msk_laws_szSealS (lp_laws_szSealS fu) (loops 0 body_laws_szSealS) := by
  have h : loops 0 body_laws_szSealS = [] := by kernel_rfl
  rw [h]; intro p hp; cases hp
def S_laws_szSealS (fu : Nat) (xs : List (D RT den)) : Option (Out RT den) := match xs with | [.rs za0_0 .laws_Seal na0_0 fa0_0, .int .i64 a1_0] => some ⟨Int, F_laws_szSealS fu (⟨za0_0, na0_0, fa0_0⟩ : (Sl S_laws_Seal)) a1_0, enc_i64, fun _ => true⟩ | _ => none
theorem hpc_laws_szSealS (fu : Nat) : ∀ f xs o, pc_laws_szSealS fu f xs = some o → ∀ y, o.x = some y → Good E Try.prog f xs (o.g y) := by
  intro f xs o h
  cases h
theorem goodv_laws_szSealS (fu : Nat) (a_0 : (Sl S_laws_Seal)) (left_1 : Int) (y : Int) (hy : F_laws_szSealS fu a_0 left_1 = some y) : Good E Try.prog 47 [(.rs a_0.z .laws_Seal a_0.n a_0.f), (.int .i64 left_1)] (enc_i64 y) :=
  fun_good E_ok (pc_good (hpc_laws_szSealS fu)) (fn := Try.f47) (c := body_laws_szSealS) (out := out_i64) (y := y) (by kernel_rfl) (by kernel_rfl) (by kernel_rfl) (lpok_laws_szSealS fu) (fun d hd => out_i64_enc d _ hd) ((ev_laws_szSealS fu a_0 left_1).trans hy)
theorem good_laws_szSealS (fu : Nat) : ∀ xs o, S_laws_szSealS fu xs = some o → ∀ y, o.x = some y → Good E Try.prog 47 xs (o.g y) := by
  intro xs o h y hy
  unfold S_laws_szSealS at h
  split at h
  · rename_i za0_0 na0_0 fa0_0 a1_0
    cases h
    exact goodv_laws_szSealS fu (⟨za0_0, na0_0, fa0_0⟩ : (Sl S_laws_Seal)) a1_0 y hy
  · cases h

/-! laws.szCluster -/
def F_laws_szCluster (fu : Nat) (a_0 : S_laws_Cluster) (left_1 : Int) : Option (Int) :=
  ((F_laws_szNodeS fu a_0.Nodes left_1).bind fun y257 => (bif (decide (y257 < 0)) then (some (-1)) else ((F_laws_szMailS fu a_0.Mails y257).bind fun y258 => (bif (decide (y258 < 0)) then
    (some (-1)) else ((F_laws_szWonS fu a_0.Wins y258).bind fun y259 => (bif (decide (y259 < 0)) then (some (-1)) else ((F_laws_szSealS fu a_0.Seals y259).bind fun y260 => (bif (decide (y260 < 0)) then
    (some (-1)) else (some y260)))))))))
def pc_laws_szCluster (fu : Nat) : Pc RT den := fun f xs => match f with | 44 => S_laws_szNodeS fu xs | 45 => S_laws_szMailS fu xs | 46 => S_laws_szWonS fu xs | 47 => S_laws_szSealS fu xs | _ => none
def msk_laws_szCluster (b : Nat) : List Nat := []
def lp_laws_szCluster (fu : Nat) : Lp RT den (Int) := fun b s k => none
theorem ev_laws_szCluster (fu : Nat) (a_0 : S_laws_Cluster) (left_1 : Int) : evFun E (pc_laws_szCluster fu) msk_laws_szCluster (lp_laws_szCluster fu) out_i64 20 [(.agg [(.rs a_0.Nodes.z .laws_Node a_0.Nodes.n a_0.Nodes.f), (.rs a_0.Mails.z .laws_Mail a_0.Mails.n a_0.Mails.f), (.rs a_0.Wins.z .impl_Won a_0.Wins.n a_0.Wins.f), (.rs a_0.Seals.z .laws_Seal a_0.Seals.n a_0.Seals.f)]), (.int .i64 left_1)] = F_laws_szCluster fu a_0 left_1 := by kernel_rfl
noncomputable def body_laws_szCluster : Code := Try.f20.body.getD .skip
theorem lpok_laws_szCluster (fu : Nat) : LpOk E (pc_laws_szCluster fu) msk_laws_szCluster (lp_laws_szCluster fu) (loops 0 body_laws_szCluster) := by
  have h : loops 0 body_laws_szCluster = [] := by kernel_rfl
  rw [h]; intro p hp; cases hp
def S_laws_szCluster (fu : Nat) (xs : List (D RT den)) : Option (Out RT den) := match xs with | [.agg [.rs za0_1 .laws_Node na0_1 fa0_1, .rs za0_2 .laws_Mail na0_2 fa0_2, .rs za0_3 .impl_Won na0_3 fa0_3, .rs za0_4 .laws_Seal na0_4 fa0_4], .int .i64 a1_0] => some ⟨Int, F_laws_szCluster fu (⟨(⟨za0_1, na0_1, fa0_1⟩ : (Sl S_laws_Node)), (⟨za0_2, na0_2, fa0_2⟩ : (Sl S_laws_Mail)), (⟨za0_3, na0_3, fa0_3⟩ : (Sl S_impl_Won)), (⟨za0_4, na0_4, fa0_4⟩ : (Sl S_laws_Seal))⟩ : S_laws_Cluster) a1_0, enc_i64, fun _ => true⟩ | _ => none
theorem hpc_laws_szCluster (fu : Nat) : ∀ f xs o, pc_laws_szCluster fu f xs = some o → ∀ y, o.x = some y → Good E Try.prog f xs (o.g y) := by
  intro f xs o h
  unfold pc_laws_szCluster at h
  split at h
  · exact good_laws_szNodeS fu xs o h
  · exact good_laws_szMailS fu xs o h
  · exact good_laws_szWonS fu xs o h
  · exact good_laws_szSealS fu xs o h
  · cases h
theorem goodv_laws_szCluster (fu : Nat) (a_0 : S_laws_Cluster) (left_1 : Int) (y : Int) (hy : F_laws_szCluster fu a_0 left_1 = some y) : Good E Try.prog 20 [(.agg [(.rs a_0.Nodes.z .laws_Node a_0.Nodes.n a_0.Nodes.f), (.rs a_0.Mails.z .laws_Mail a_0.Mails.n a_0.Mails.f), (.rs a_0.Wins.z .impl_Won a_0.Wins.n a_0.Wins.f), (.rs a_0.Seals.z .laws_Seal a_0.Seals.n a_0.Seals.f)]), (.int .i64 left_1)] (enc_i64 y) :=
  fun_good E_ok (pc_good (hpc_laws_szCluster fu)) (fn := Try.f20) (c := body_laws_szCluster) (out := out_i64) (y := y) (by kernel_rfl) (by kernel_rfl) (by kernel_rfl) (lpok_laws_szCluster fu) (fun d hd => out_i64_enc d _ hd) ((ev_laws_szCluster fu a_0 left_1).trans hy)
theorem good_laws_szCluster (fu : Nat) : ∀ xs o, S_laws_szCluster fu xs = some o → ∀ y, o.x = some y → Good E Try.prog 20 xs (o.g y) := by
  intro xs o h y hy
  unfold S_laws_szCluster at h
  split at h
  · rename_i za0_1 na0_1 fa0_1 za0_2 na0_2 fa0_2 za0_3 na0_3 fa0_3 za0_4 na0_4 fa0_4 a1_0
    cases h
    exact goodv_laws_szCluster fu (⟨(⟨za0_1, na0_1, fa0_1⟩ : (Sl S_laws_Node)), (⟨za0_2, na0_2, fa0_2⟩ : (Sl S_laws_Mail)), (⟨za0_3, na0_3, fa0_3⟩ : (Sl S_impl_Won)), (⟨za0_4, na0_4, fa0_4⟩ : (Sl S_laws_Seal))⟩ : S_laws_Cluster) a1_0 y hy
  · cases h

/-! laws.toNodeS -/
def F_laws_toNodeS_B0 {ρ : Type} (fu : Nat) (a0_0 : (Sl S_laws_Node)) (out3_1 : Nat) (on0_3 : Nat) (k0 : (Nat → S_impl_Node) → Option ρ) (i4_2 : Int) (of0_4 : (Nat → S_impl_Node)) (go : Int → (Nat → S_impl_Node) → Option ρ) : Option ρ :=
  (bif (decide (i4_2 < ((a0_0.n : Nat) : Int))) then ((bif (decide (0 ≤ i4_2) && decide ((Int.toNat i4_2) < a0_0.n)) then some () else none : Option Unit).bind fun _ =>
    ((F_laws_toNode fu (a0_0.f (Int.toNat i4_2))).bind fun y271 => ((bif (decide (0 ≤ i4_2) && decide ((Int.toNat i4_2) < out3_1)) then some () else none : Option Unit).bind fun _ =>
    (go (IntKind.wrap .i64 (i4_2 + 1)) (fun j => if j = (Int.toNat i4_2) then y271 else of0_4 j))))) else (k0 of0_4))
def F_laws_toNodeS (fu : Nat) (a_0 : (Sl S_laws_Node)) : Option ((Sl S_impl_Node)) :=
  (bif (decide (0 ≤ ((a_0.n : Nat) : Int)) && (decide (((a_0.n : Nat) : Int) = ((a_0.n : Nat) : Int)) && (decide ((144 : Int) * ((a_0.n : Nat) : Int) ≤ 281474976710656) && decide (((a_0.n : Nat) : Int) ≤ 9223372036854775807)))) then
    (L (fun w0 go0 => F_laws_toNodeS_B0 fu a_0 (Int.toNat ((a_0.n : Nat) : Int)) (Int.toNat ((a_0.n : Nat) : Int)) (fun z272 => (some (⟨none, (Int.toNat ((a_0.n : Nat) : Int)),
    z272⟩ : (Sl S_impl_Node)))) w0.1 w0.2 (fun q0 q1 => go0 (q0, q1))) fu ((0, (fun _ => (⟨0, 0, 0, 0, (⟨(some true), 0, (fun _ => dflt .impl_Entry)⟩ : (Sl S_impl_Entry)), 0, 0,
    (⟨(some true), 0, (fun _ => dflt .i64)⟩ : (Sl Int)), (⟨(some true), 0, (fun _ => dflt .i64)⟩ : (Sl Int)), (⟨(some true), 0, (fun _ => dflt .i64)⟩ : (Sl Int))⟩ : S_impl_Node))) : Int × (Nat → S_impl_Node))) else
    none)
def pc_laws_toNodeS (fu : Nat) : Pc RT den := fun f xs => match f with | 11 => S_laws_toNode fu xs | _ => none
def msk_laws_toNodeS (b : Nat) : List Nat := match b with | 0 => [1, 2, 5, 6, 7, 8, 9, 10, 11, 12, 13, 14, 15, 16, 17, 18, 19, 20, 21, 22] | 100000 => [0, 1, 4, 5, 6, 7, 8, 9, 10, 11, 12, 13, 14, 15, 16, 17, 18, 19, 20, 21, 22] | _ => []
def ps_laws_toNodeS_0 : List (Pat RT) := [.flat (.rs .laws_Node), .flat .dead, .flat .dead, .flat (.os 0), .flat (.int .i64), .flat .dead, .flat .dead, .flat .dead, .flat .dead, .flat .dead, .flat .dead, .flat .dead, .flat .dead, .flat .dead, .flat .dead, .flat .dead, .flat .dead, .flat .dead, .flat .dead, .flat .dead, .flat .dead, .flat .dead, .flat .dead]
def os_laws_toNodeS_0 : List (OP RT) := [.row .impl_Node]
def conv_laws_toNodeS_0 (r : Raw den ps_laws_toNodeS_0 os_laws_toNodeS_0) : ((Sl S_laws_Node) × Nat × Nat) × (Int × (Nat → S_impl_Node)) := ((r.1.1, r.1.2.2.2.1, r.2.1.1), (r.1.2.2.2.2.1, r.2.1.2))
def back_laws_toNodeS_0 (c : (Sl S_laws_Node) × Nat × Nat) (w : Int × (Nat → S_impl_Node)) : St RT den := ⟨[(.rs c.1.z .laws_Node c.1.n c.1.f), .dead, .dead, (.os 0 c.2.1), (.int .i64 w.1), .dead, .dead, .dead, .dead, .dead, .dead, .dead, .dead, .dead, .dead, .dead, .dead, .dead, .dead, .dead, .dead, .dead, .dead], [(.row .impl_Node c.2.2 w.2)]⟩
def Bk_laws_toNodeS_0 {ρ : Type} (fu : Nat) (c : (Sl S_laws_Node) × Nat × Nat) (k : Ex → St RT den → Option ρ) (w : Int × (Nat → S_impl_Node)) (go : (Int × (Nat → S_impl_Node)) → Option ρ) : Option ρ := F_laws_toNodeS_B0 fu c.1 c.2.1 c.2.2 (fun a0 => k (.exit 0) ⟨[.dead, .dead, .dead, (.os 0 c.2.1), .dead, .dead, .dead, .dead, .dead, .dead, .dead, .dead, .dead, .dead, .dead, .dead, .dead, .dead, .dead, .dead, .dead, .dead, .dead], [(.row .impl_Node c.2.2 a0)]⟩) w.1 w.2 (fun q0 q1 => go (q0, q1))
def lp_laws_toNodeS (fu : Nat) : Lp RT den ((Sl S_impl_Node)) := fun b s k => match b with | 0 => handle ps_laws_toNodeS_0 os_laws_toNodeS_0 conv_laws_toNodeS_0 (Bk_laws_toNodeS_0 fu) fu s k | _ => none
theorem ev_laws_toNodeS (fu : Nat) (a_0 : (Sl S_laws_Node)) : evFun E (pc_laws_toNodeS fu) msk_laws_toNodeS (lp_laws_toNodeS fu) out_sl_impl_Node 49 [(.rs a_0.z .laws_Node a_0.n a_0.f)] = F_laws_toNodeS fu a_0 := by kernel_rfl
noncomputable def body_laws_toNodeS : Code := Try.f49.body.getD .skip
noncomputable def lc_laws_toNodeS_0 : Code := ((loops 0 body_laws_toNodeS).getD 0 (0, .skip)).2
theorem round_laws_toNodeS_0 (fu : Nat) (it : St RT den → Option ((Sl S_impl_Node))) (k : Ex → St RT den → Option ((Sl S_impl_Node))) c w : evCode E (pc_laws_toNodeS fu) msk_laws_toNodeS (lp_laws_toNodeS fu) 0 lc_laws_toNodeS_0 (back_laws_toNodeS_0 c w) (after (msk_laws_toNodeS 0) (msk_laws_toNodeS 100000) 1 it k) = Bk_laws_toNodeS_0 fu c k w (fun w => it (back_laws_toNodeS_0 c w)) := by kernel_rfl
theorem lpok_laws_toNodeS_0 (fu : Nat) : ∀ s k r, lp_laws_toNodeS fu 0 s k = some r → ∃ fuel, iter (msk_laws_toNodeS 0) (msk_laws_toNodeS 100000) s.objs.length (evCode E (pc_laws_toNodeS fu) msk_laws_toNodeS (lp_laws_toNodeS fu) 0 lc_laws_toNodeS_0) fuel s k = some r :=
  handle_ok (ps := ps_laws_toNodeS_0) (os := os_laws_toNodeS_0) (conv := conv_laws_toNodeS_0) (B := Bk_laws_toNodeS_0 fu) (fu := fu) back_laws_toNodeS_0 (fun raw => by kernel_rfl) 1 (fun c w => by kernel_rfl) (round_laws_toNodeS_0 fu)
theorem lpok_laws_toNodeS (fu : Nat) : LpOk E (pc_laws_toNodeS fu) msk_laws_toNodeS (lp_laws_toNodeS fu) (loops 0 body_laws_toNodeS) := loop_all 1 (by kernel_rfl) fun i hi => match i, hi with
  | 0, _ => by
    have h : (loops 0 body_laws_toNodeS).getD 0 (0, .skip) = (0, lc_laws_toNodeS_0) := by kernel_rfl
    rw [h]; exact lpok_laws_toNodeS_0 fu
  | i + 1, hi => absurd hi (by omega)
def S_laws_toNodeS (fu : Nat) (xs : List (D RT den)) : Option (Out RT den) := match xs with | [.rs za0_0 .laws_Node na0_0 fa0_0] => some ⟨(Sl S_impl_Node), F_laws_toNodeS fu (⟨za0_0, na0_0, fa0_0⟩ : (Sl S_laws_Node)), enc_sl_impl_Node, fun _ => true⟩ | _ => none
theorem hpc_laws_toNodeS (fu : Nat) : ∀ f xs o, pc_laws_toNodeS fu f xs = some o → ∀ y, o.x = some y → Good E Try.prog f xs (o.g y) := by
  intro f xs o h
  unfold pc_laws_toNodeS at h
  split at h
  · exact good_laws_toNode fu xs o h
  · cases h
theorem goodv_laws_toNodeS (fu : Nat) (a_0 : (Sl S_laws_Node)) (y : (Sl S_impl_Node)) (hy : F_laws_toNodeS fu a_0 = some y) : Good E Try.prog 49 [(.rs a_0.z .laws_Node a_0.n a_0.f)] (enc_sl_impl_Node y) :=
  fun_good E_ok (pc_good (hpc_laws_toNodeS fu)) (fn := Try.f49) (c := body_laws_toNodeS) (out := out_sl_impl_Node) (y := y) (by kernel_rfl) (by kernel_rfl) (by kernel_rfl) (lpok_laws_toNodeS fu) (fun d hd => out_sl_impl_Node_enc d _ hd) ((ev_laws_toNodeS fu a_0).trans hy)
theorem good_laws_toNodeS (fu : Nat) : ∀ xs o, S_laws_toNodeS fu xs = some o → ∀ y, o.x = some y → Good E Try.prog 49 xs (o.g y) := by
  intro xs o h y hy
  unfold S_laws_toNodeS at h
  split at h
  · rename_i za0_0 na0_0 fa0_0
    cases h
    exact goodv_laws_toNodeS fu (⟨za0_0, na0_0, fa0_0⟩ : (Sl S_laws_Node)) y hy
  · cases h

/-! laws.toMailS -/
def F_laws_toMailS_B0 {ρ : Type} (fu : Nat) (a0_0 : (Sl S_laws_Mail)) (out3_1 : Nat) (on0_3 : Nat) (k0 : (Nat → S_impl_Mail) → Option ρ) (i4_2 : Int) (of0_4 : (Nat → S_impl_Mail)) (go : Int → (Nat → S_impl_Mail) → Option ρ) : Option ρ :=
  (bif (decide (i4_2 < ((a0_0.n : Nat) : Int))) then ((bif (decide (0 ≤ i4_2) && decide ((Int.toNat i4_2) < a0_0.n)) then some () else none : Option Unit).bind fun _ =>
    ((F_laws_toMail fu (a0_0.f (Int.toNat i4_2))).bind fun y273 => ((bif (decide (0 ≤ i4_2) && decide ((Int.toNat i4_2) < out3_1)) then some () else none : Option Unit).bind fun _ =>
    (go (IntKind.wrap .i64 (i4_2 + 1)) (fun j => if j = (Int.toNat i4_2) then y273 else of0_4 j))))) else (k0 of0_4))
def F_laws_toMailS (fu : Nat) (a_0 : (Sl S_laws_Mail)) : Option ((Sl S_impl_Mail)) :=
  (bif (decide (0 ≤ ((a_0.n : Nat) : Int)) && (decide (((a_0.n : Nat) : Int) = ((a_0.n : Nat) : Int)) && (decide ((88 : Int) * ((a_0.n : Nat) : Int) ≤ 281474976710656) && decide (((a_0.n : Nat) : Int) ≤ 9223372036854775807)))) then
    (L (fun w0 go0 => F_laws_toMailS_B0 fu a_0 (Int.toNat ((a_0.n : Nat) : Int)) (Int.toNat ((a_0.n : Nat) : Int)) (fun z274 => (some (⟨none, (Int.toNat ((a_0.n : Nat) : Int)),
    z274⟩ : (Sl S_impl_Mail)))) w0.1 w0.2 (fun q0 q1 => go0 (q0, q1))) fu ((0, (fun _ => (⟨0, 0, 0, 0, 0, 0, 0, false, (⟨(some true), 0, (fun _ => dflt .impl_Entry)⟩ : (Sl S_impl_Entry))⟩ : S_impl_Mail))) : Int × (Nat → S_impl_Mail))) else
    none)
def pc_laws_toMailS (fu : Nat) : Pc RT den := fun f xs => match f with | 17 => S_laws_toMail fu xs | _ => none
def msk_laws_toMailS (b : Nat) : List Nat := match b with | 0 => [1, 2, 5, 6, 7, 8, 9, 10, 11, 12, 13, 14, 15, 16, 17, 18, 19, 20, 21, 22] | 100000 => [0, 1, 4, 5, 6, 7, 8, 9, 10, 11, 12, 13, 14, 15, 16, 17, 18, 19, 20, 21, 22] | _ => []
def ps_laws_toMailS_0 : List (Pat RT) := [.flat (.rs .laws_Mail), .flat .dead, .flat .dead, .flat (.os 0), .flat (.int .i64), .flat .dead, .flat .dead, .flat .dead, .flat .dead, .flat .dead, .flat .dead, .flat .dead, .flat .dead, .flat .dead, .flat .dead, .flat .dead, .flat .dead, .flat .dead, .flat .dead, .flat .dead, .flat .dead, .flat .dead, .flat .dead]
def os_laws_toMailS_0 : List (OP RT) := [.row .impl_Mail]
def conv_laws_toMailS_0 (r : Raw den ps_laws_toMailS_0 os_laws_toMailS_0) : ((Sl S_laws_Mail) × Nat × Nat) × (Int × (Nat → S_impl_Mail)) := ((r.1.1, r.1.2.2.2.1, r.2.1.1), (r.1.2.2.2.2.1, r.2.1.2))
def back_laws_toMailS_0 (c : (Sl S_laws_Mail) × Nat × Nat) (w : Int × (Nat → S_impl_Mail)) : St RT den := ⟨[(.rs c.1.z .laws_Mail c.1.n c.1.f), .dead, .dead, (.os 0 c.2.1), (.int .i64 w.1), .dead, .dead, .dead, .dead, .dead, .dead, .dead, .dead, .dead, .dead, .dead, .dead, .dead, .dead, .dead, .dead, .dead, .dead], [(.row .impl_Mail c.2.2 w.2)]⟩
def Bk_laws_toMailS_0 {ρ : Type} (fu : Nat) (c : (Sl S_laws_Mail) × Nat × Nat) (k : Ex → St RT den → Option ρ) (w : Int × (Nat → S_impl_Mail)) (go : (Int × (Nat → S_impl_Mail)) → Option ρ) : Option ρ := F_laws_toMailS_B0 fu c.1 c.2.1 c.2.2 (fun a0 => k (.exit 0) ⟨[.dead, .dead, .dead, (.os 0 c.2.1), .dead, .dead, .dead, .dead, .dead, .dead, .dead, .dead, .dead, .dead, .dead, .dead, .dead, .dead, .dead, .dead, .dead, .dead, .dead], [(.row .impl_Mail c.2.2 a0)]⟩) w.1 w.2 (fun q0 q1 => go (q0, q1))
def lp_laws_toMailS (fu : Nat) : Lp RT den ((Sl S_impl_Mail)) := fun b s k => match b with | 0 => handle ps_laws_toMailS_0 os_laws_toMailS_0 conv_laws_toMailS_0 (Bk_laws_toMailS_0 fu) fu s k | _ => none
theorem ev_laws_toMailS (fu : Nat) (a_0 : (Sl S_laws_Mail)) : evFun E (pc_laws_toMailS fu) msk_laws_toMailS (lp_laws_toMailS fu) out_sl_impl_Mail 50 [(.rs a_0.z .laws_Mail a_0.n a_0.f)] = F_laws_toMailS fu a_0 := by kernel_rfl
noncomputable def body_laws_toMailS : Code := Try.f50.body.getD .skip
noncomputable def lc_laws_toMailS_0 : Code := ((loops 0 body_laws_toMailS).getD 0 (0, .skip)).2
theorem round_laws_toMailS_0 (fu : Nat) (it : St RT den → Option ((Sl S_impl_Mail))) (k : Ex → St RT den → Option ((Sl S_impl_Mail))) c w : evCode E (pc_laws_toMailS fu) msk_laws_toMailS (lp_laws_toMailS fu) 0 lc_laws_toMailS_0 (back_laws_toMailS_0 c w) (after (msk_laws_toMailS 0) (msk_laws_toMailS 100000) 1 it k) = Bk_laws_toMailS_0 fu c k w (fun w => it (back_laws_toMailS_0 c w)) := by kernel_rfl
theorem lpok_laws_toMailS_0 (fu : Nat) : ∀ s k r, lp_laws_toMailS fu 0 s k = some r → ∃ fuel, iter (msk_laws_toMailS 0) (msk_laws_toMailS 100000) s.objs.length (evCode E (pc_laws_toMailS fu) msk_laws_toMailS (lp_laws_toMailS fu) 0 lc_laws_toMailS_0) fuel s k = some r :=
  handle_ok (ps := ps_laws_toMailS_0) (os := os_laws_toMailS_0) (conv := conv_laws_toMailS_0) (B := Bk_laws_toMailS_0 fu) (fu := fu) back_laws_toMailS_0 (fun raw => by kernel_rfl) 1 (fun c w => by kernel_rfl) (round_laws_toMailS_0 fu)
theorem lpok_laws_toMailS (fu : Nat) : LpOk E (pc_laws_toMailS fu) msk_laws_toMailS (lp_laws_toMailS fu) (loops 0 body_laws_toMailS) := loop_all 1 (by kernel_rfl) fun i hi => match i, hi with
  | 0, _ => by
    have h : (loops 0 body_laws_toMailS).getD 0 (0, .skip) = (0, lc_laws_toMailS_0) := by kernel_rfl
    rw [h]; exact lpok_laws_toMailS_0 fu
  | i + 1, hi => absurd hi (by omega)
def S_laws_toMailS (fu : Nat) (xs : List (D RT den)) : Option (Out RT den) := match xs with | [.rs za0_0 .laws_Mail na0_0 fa0_0] => some ⟨(Sl S_impl_Mail), F_laws_toMailS fu (⟨za0_0, na0_0, fa0_0⟩ : (Sl S_laws_Mail)), enc_sl_impl_Mail, fun _ => true⟩ | _ => none
theorem hpc_laws_toMailS (fu : Nat) : ∀ f xs o, pc_laws_toMailS fu f xs = some o → ∀ y, o.x = some y → Good E Try.prog f xs (o.g y) := by
  intro f xs o h
  unfold pc_laws_toMailS at h
  split at h
  · exact good_laws_toMail fu xs o h
  · cases h
theorem goodv_laws_toMailS (fu : Nat) (a_0 : (Sl S_laws_Mail)) (y : (Sl S_impl_Mail)) (hy : F_laws_toMailS fu a_0 = some y) : Good E Try.prog 50 [(.rs a_0.z .laws_Mail a_0.n a_0.f)] (enc_sl_impl_Mail y) :=
  fun_good E_ok (pc_good (hpc_laws_toMailS fu)) (fn := Try.f50) (c := body_laws_toMailS) (out := out_sl_impl_Mail) (y := y) (by kernel_rfl) (by kernel_rfl) (by kernel_rfl) (lpok_laws_toMailS fu) (fun d hd => out_sl_impl_Mail_enc d _ hd) ((ev_laws_toMailS fu a_0).trans hy)
theorem good_laws_toMailS (fu : Nat) : ∀ xs o, S_laws_toMailS fu xs = some o → ∀ y, o.x = some y → Good E Try.prog 50 xs (o.g y) := by
  intro xs o h y hy
  unfold S_laws_toMailS at h
  split at h
  · rename_i za0_0 na0_0 fa0_0
    cases h
    exact goodv_laws_toMailS fu (⟨za0_0, na0_0, fa0_0⟩ : (Sl S_laws_Mail)) y hy
  · cases h

/-! laws.toWon -/
def F_laws_toWon (fu : Nat) (a_0 : S_impl_Won) : Option (S_impl_Won) :=
  (some a_0)
def pc_laws_toWon (fu : Nat) : Pc RT den := fun f xs => none
def msk_laws_toWon (b : Nat) : List Nat := []
def lp_laws_toWon (fu : Nat) : Lp RT den (S_impl_Won) := fun b s k => none
theorem ev_laws_toWon (fu : Nat) (a_0 : S_impl_Won) : evFun E (pc_laws_toWon fu) msk_laws_toWon (lp_laws_toWon fu) out_impl_Won 80 [(.agg [(.int .i64 a_0.Term), (.int .i64 a_0.Node)])] = F_laws_toWon fu a_0 := by kernel_rfl
noncomputable def body_laws_toWon : Code := Try.f80.body.getD .skip
theorem lpok_laws_toWon (fu : Nat) : LpOk E (pc_laws_toWon fu) msk_laws_toWon (lp_laws_toWon fu) (loops 0 body_laws_toWon) := by
  have h : loops 0 body_laws_toWon = [] := by kernel_rfl
  rw [h]; intro p hp; cases hp
def S_laws_toWon (fu : Nat) (xs : List (D RT den)) : Option (Out RT den) := match xs with | [.agg [.int .i64 a0_1, .int .i64 a0_2]] => some ⟨S_impl_Won, F_laws_toWon fu (⟨a0_1, a0_2⟩ : S_impl_Won), enc_impl_Won, fun _ => true⟩ | _ => none
theorem hpc_laws_toWon (fu : Nat) : ∀ f xs o, pc_laws_toWon fu f xs = some o → ∀ y, o.x = some y → Good E Try.prog f xs (o.g y) := by
  intro f xs o h
  cases h
theorem goodv_laws_toWon (fu : Nat) (a_0 : S_impl_Won) (y : S_impl_Won) (hy : F_laws_toWon fu a_0 = some y) : Good E Try.prog 80 [(.agg [(.int .i64 a_0.Term), (.int .i64 a_0.Node)])] (enc_impl_Won y) :=
  fun_good E_ok (pc_good (hpc_laws_toWon fu)) (fn := Try.f80) (c := body_laws_toWon) (out := out_impl_Won) (y := y) (by kernel_rfl) (by kernel_rfl) (by kernel_rfl) (lpok_laws_toWon fu) (fun d hd => out_impl_Won_enc d _ hd) ((ev_laws_toWon fu a_0).trans hy)
theorem good_laws_toWon (fu : Nat) : ∀ xs o, S_laws_toWon fu xs = some o → ∀ y, o.x = some y → Good E Try.prog 80 xs (o.g y) := by
  intro xs o h y hy
  unfold S_laws_toWon at h
  split at h
  · rename_i a0_1 a0_2
    cases h
    exact goodv_laws_toWon fu (⟨a0_1, a0_2⟩ : S_impl_Won) y hy
  · cases h

/-! laws.toWonS -/
def F_laws_toWonS_B0 {ρ : Type} (fu : Nat) (a0_0 : (Sl S_impl_Won)) (out3_1 : Nat) (on0_3 : Nat) (k0 : (Nat → S_impl_Won) → Option ρ) (i4_2 : Int) (of0_4 : (Nat → S_impl_Won)) (go : Int → (Nat → S_impl_Won) → Option ρ) : Option ρ :=
  (bif (decide (i4_2 < ((a0_0.n : Nat) : Int))) then ((bif (decide (0 ≤ i4_2) && decide ((Int.toNat i4_2) < a0_0.n)) then some () else none : Option Unit).bind fun _ =>
    ((F_laws_toWon fu (a0_0.f (Int.toNat i4_2))).bind fun y275 => ((bif (decide (0 ≤ i4_2) && decide ((Int.toNat i4_2) < out3_1)) then some () else none : Option Unit).bind fun _ =>
    (go (IntKind.wrap .i64 (i4_2 + 1)) (fun j => if j = (Int.toNat i4_2) then y275 else of0_4 j))))) else (k0 of0_4))
def F_laws_toWonS (fu : Nat) (a_0 : (Sl S_impl_Won)) : Option ((Sl S_impl_Won)) :=
  (bif (decide (0 ≤ ((a_0.n : Nat) : Int)) && (decide (((a_0.n : Nat) : Int) = ((a_0.n : Nat) : Int)) && (decide ((16 : Int) * ((a_0.n : Nat) : Int) ≤ 281474976710656) && decide (((a_0.n : Nat) : Int) ≤ 9223372036854775807)))) then
    (L (fun w0 go0 => F_laws_toWonS_B0 fu a_0 (Int.toNat ((a_0.n : Nat) : Int)) (Int.toNat ((a_0.n : Nat) : Int)) (fun z276 => (some (⟨none, (Int.toNat ((a_0.n : Nat) : Int)), z276⟩ : (Sl S_impl_Won)))) w0.1 w0.2 (fun q0 q1 =>
    go0 (q0, q1))) fu ((0, (fun _ => (⟨0, 0⟩ : S_impl_Won))) : Int × (Nat → S_impl_Won))) else none)
def pc_laws_toWonS (fu : Nat) : Pc RT den := fun f xs => match f with | 80 => S_laws_toWon fu xs | _ => none
def msk_laws_toWonS (b : Nat) : List Nat := match b with | 0 => [1, 2, 5, 6, 7, 8, 9, 10, 11, 12, 13, 14, 15, 16, 17, 18, 19, 20, 21, 22] | 100000 => [0, 1, 4, 5, 6, 7, 8, 9, 10, 11, 12, 13, 14, 15, 16, 17, 18, 19, 20, 21, 22] | _ => []
def ps_laws_toWonS_0 : List (Pat RT) := [.flat (.rs .impl_Won), .flat .dead, .flat .dead, .flat (.os 0), .flat (.int .i64), .flat .dead, .flat .dead, .flat .dead, .flat .dead, .flat .dead, .flat .dead, .flat .dead, .flat .dead, .flat .dead, .flat .dead, .flat .dead, .flat .dead, .flat .dead, .flat .dead, .flat .dead, .flat .dead, .flat .dead, .flat .dead]
def os_laws_toWonS_0 : List (OP RT) := [.row .impl_Won]
def conv_laws_toWonS_0 (r : Raw den ps_laws_toWonS_0 os_laws_toWonS_0) : ((Sl S_impl_Won) × Nat × Nat) × (Int × (Nat → S_impl_Won)) := ((r.1.1, r.1.2.2.2.1, r.2.1.1), (r.1.2.2.2.2.1, r.2.1.2))
def back_laws_toWonS_0 (c : (Sl S_impl_Won) × Nat × Nat) (w : Int × (Nat → S_impl_Won)) : St RT den := ⟨[(.rs c.1.z .impl_Won c.1.n c.1.f), .dead, .dead, (.os 0 c.2.1), (.int .i64 w.1), .dead, .dead, .dead, .dead, .dead, .dead, .dead, .dead, .dead, .dead, .dead, .dead, .dead, .dead, .dead, .dead, .dead, .dead], [(.row .impl_Won c.2.2 w.2)]⟩
def Bk_laws_toWonS_0 {ρ : Type} (fu : Nat) (c : (Sl S_impl_Won) × Nat × Nat) (k : Ex → St RT den → Option ρ) (w : Int × (Nat → S_impl_Won)) (go : (Int × (Nat → S_impl_Won)) → Option ρ) : Option ρ := F_laws_toWonS_B0 fu c.1 c.2.1 c.2.2 (fun a0 => k (.exit 0) ⟨[.dead, .dead, .dead, (.os 0 c.2.1), .dead, .dead, .dead, .dead, .dead, .dead, .dead, .dead, .dead, .dead, .dead, .dead, .dead, .dead, .dead, .dead, .dead, .dead, .dead], [(.row .impl_Won c.2.2 a0)]⟩) w.1 w.2 (fun q0 q1 => go (q0, q1))
def lp_laws_toWonS (fu : Nat) : Lp RT den ((Sl S_impl_Won)) := fun b s k => match b with | 0 => handle ps_laws_toWonS_0 os_laws_toWonS_0 conv_laws_toWonS_0 (Bk_laws_toWonS_0 fu) fu s k | _ => none
theorem ev_laws_toWonS (fu : Nat) (a_0 : (Sl S_impl_Won)) : evFun E (pc_laws_toWonS fu) msk_laws_toWonS (lp_laws_toWonS fu) out_sl_impl_Won 51 [(.rs a_0.z .impl_Won a_0.n a_0.f)] = F_laws_toWonS fu a_0 := by kernel_rfl
noncomputable def body_laws_toWonS : Code := Try.f51.body.getD .skip
noncomputable def lc_laws_toWonS_0 : Code := ((loops 0 body_laws_toWonS).getD 0 (0, .skip)).2
theorem round_laws_toWonS_0 (fu : Nat) (it : St RT den → Option ((Sl S_impl_Won))) (k : Ex → St RT den → Option ((Sl S_impl_Won))) c w : evCode E (pc_laws_toWonS fu) msk_laws_toWonS (lp_laws_toWonS fu) 0 lc_laws_toWonS_0 (back_laws_toWonS_0 c w) (after (msk_laws_toWonS 0) (msk_laws_toWonS 100000) 1 it k) = Bk_laws_toWonS_0 fu c k w (fun w => it (back_laws_toWonS_0 c w)) := by kernel_rfl
theorem lpok_laws_toWonS_0 (fu : Nat) : ∀ s k r, lp_laws_toWonS fu 0 s k = some r → ∃ fuel, iter (msk_laws_toWonS 0) (msk_laws_toWonS 100000) s.objs.length (evCode E (pc_laws_toWonS fu) msk_laws_toWonS (lp_laws_toWonS fu) 0 lc_laws_toWonS_0) fuel s k = some r :=
  handle_ok (ps := ps_laws_toWonS_0) (os := os_laws_toWonS_0) (conv := conv_laws_toWonS_0) (B := Bk_laws_toWonS_0 fu) (fu := fu) back_laws_toWonS_0 (fun raw => by kernel_rfl) 1 (fun c w => by kernel_rfl) (round_laws_toWonS_0 fu)
theorem lpok_laws_toWonS (fu : Nat) : LpOk E (pc_laws_toWonS fu) msk_laws_toWonS (lp_laws_toWonS fu) (loops 0 body_laws_toWonS) := loop_all 1 (by kernel_rfl) fun i hi => match i, hi with
  | 0, _ => by
    have h : (loops 0 body_laws_toWonS).getD 0 (0, .skip) = (0, lc_laws_toWonS_0) := by kernel_rfl
    rw [h]; exact lpok_laws_toWonS_0 fu
  | i + 1, hi => absurd hi (by omega)
def S_laws_toWonS (fu : Nat) (xs : List (D RT den)) : Option (Out RT den) := match xs with | [.rs za0_0 .impl_Won na0_0 fa0_0] => some ⟨(Sl S_impl_Won), F_laws_toWonS fu (⟨za0_0, na0_0, fa0_0⟩ : (Sl S_impl_Won)), enc_sl_impl_Won, fun _ => true⟩ | _ => none
theorem hpc_laws_toWonS (fu : Nat) : ∀ f xs o, pc_laws_toWonS fu f xs = some o → ∀ y, o.x = some y → Good E Try.prog f xs (o.g y) := by
  intro f xs o h
  unfold pc_laws_toWonS at h
  split at h
  · exact good_laws_toWon fu xs o h
  · cases h
theorem goodv_laws_toWonS (fu : Nat) (a_0 : (Sl S_impl_Won)) (y : (Sl S_impl_Won)) (hy : F_laws_toWonS fu a_0 = some y) : Good E Try.prog 51 [(.rs a_0.z .impl_Won a_0.n a_0.f)] (enc_sl_impl_Won y) :=
  fun_good E_ok (pc_good (hpc_laws_toWonS fu)) (fn := Try.f51) (c := body_laws_toWonS) (out := out_sl_impl_Won) (y := y) (by kernel_rfl) (by kernel_rfl) (by kernel_rfl) (lpok_laws_toWonS fu) (fun d hd => out_sl_impl_Won_enc d _ hd) ((ev_laws_toWonS fu a_0).trans hy)
theorem good_laws_toWonS (fu : Nat) : ∀ xs o, S_laws_toWonS fu xs = some o → ∀ y, o.x = some y → Good E Try.prog 51 xs (o.g y) := by
  intro xs o h y hy
  unfold S_laws_toWonS at h
  split at h
  · rename_i za0_0 na0_0 fa0_0
    cases h
    exact goodv_laws_toWonS fu (⟨za0_0, na0_0, fa0_0⟩ : (Sl S_impl_Won)) y hy
  · cases h

/-! laws.toSeal -/
def F_laws_toSeal (fu : Nat) (a_0 : S_laws_Seal) : Option (S_impl_Seal) :=
  ((F_laws_toEntry fu a_0.Entry).bind fun y279 => (some (⟨a_0.Term, y279⟩ : S_impl_Seal)))
def pc_laws_toSeal (fu : Nat) : Pc RT den := fun f xs => match f with | 70 => S_laws_toEntry fu xs | _ => none
def msk_laws_toSeal (b : Nat) : List Nat := []
def lp_laws_toSeal (fu : Nat) : Lp RT den (S_impl_Seal) := fun b s k => none
theorem ev_laws_toSeal (fu : Nat) (a_0 : S_laws_Seal) : evFun E (pc_laws_toSeal fu) msk_laws_toSeal (lp_laws_toSeal fu) out_impl_Seal 81 [(.agg [(.int .i64 a_0.Term), (.int .i64 a_0.Entry.Term), (.int .i64 a_0.Entry.Client), (.int .i64 a_0.Entry.Seq), (.int .i64 a_0.Entry.Cmd.Kind), (.int .i64 a_0.Entry.Cmd.Expect), (.int .i64 a_0.Entry.Cmd.Name), (.int .i64 a_0.Entry.Cmd.Addr), (.int .i64 a_0.Entry.Cmd.Number), (.int .i64 a_0.Entry.Cmd.Proto)])] = F_laws_toSeal fu a_0 := by kernel_rfl
noncomputable def body_laws_toSeal : Code := Try.f81.body.getD .skip
theorem lpok_laws_toSeal (fu : Nat) : LpOk E (pc_laws_toSeal fu) msk_laws_toSeal (lp_laws_toSeal fu) (loops 0 body_laws_toSeal) := by
  have h : loops 0 body_laws_toSeal = [] := by kernel_rfl
  rw [h]; intro p hp; cases hp
def S_laws_toSeal (fu : Nat) (xs : List (D RT den)) : Option (Out RT den) := match xs with | [.agg [.int .i64 a0_1, .int .i64 a0_3, .int .i64 a0_4, .int .i64 a0_5, .int .i64 a0_7, .int .i64 a0_8, .int .i64 a0_9, .int .i64 a0_10, .int .i64 a0_11, .int .i64 a0_12]] => some ⟨S_impl_Seal, F_laws_toSeal fu (⟨a0_1, (⟨a0_3, a0_4, a0_5, (⟨a0_7, a0_8, a0_9, a0_10, a0_11, a0_12⟩ : S_impl_Cmd)⟩ : S_laws_Entry)⟩ : S_laws_Seal), enc_impl_Seal, fun _ => true⟩ | _ => none
theorem hpc_laws_toSeal (fu : Nat) : ∀ f xs o, pc_laws_toSeal fu f xs = some o → ∀ y, o.x = some y → Good E Try.prog f xs (o.g y) := by
  intro f xs o h
  unfold pc_laws_toSeal at h
  split at h
  · exact good_laws_toEntry fu xs o h
  · cases h
theorem goodv_laws_toSeal (fu : Nat) (a_0 : S_laws_Seal) (y : S_impl_Seal) (hy : F_laws_toSeal fu a_0 = some y) : Good E Try.prog 81 [(.agg [(.int .i64 a_0.Term), (.int .i64 a_0.Entry.Term), (.int .i64 a_0.Entry.Client), (.int .i64 a_0.Entry.Seq), (.int .i64 a_0.Entry.Cmd.Kind), (.int .i64 a_0.Entry.Cmd.Expect), (.int .i64 a_0.Entry.Cmd.Name), (.int .i64 a_0.Entry.Cmd.Addr), (.int .i64 a_0.Entry.Cmd.Number), (.int .i64 a_0.Entry.Cmd.Proto)])] (enc_impl_Seal y) :=
  fun_good E_ok (pc_good (hpc_laws_toSeal fu)) (fn := Try.f81) (c := body_laws_toSeal) (out := out_impl_Seal) (y := y) (by kernel_rfl) (by kernel_rfl) (by kernel_rfl) (lpok_laws_toSeal fu) (fun d hd => out_impl_Seal_enc d _ hd) ((ev_laws_toSeal fu a_0).trans hy)
theorem good_laws_toSeal (fu : Nat) : ∀ xs o, S_laws_toSeal fu xs = some o → ∀ y, o.x = some y → Good E Try.prog 81 xs (o.g y) := by
  intro xs o h y hy
  unfold S_laws_toSeal at h
  split at h
  · rename_i a0_1 a0_3 a0_4 a0_5 a0_7 a0_8 a0_9 a0_10 a0_11 a0_12
    cases h
    exact goodv_laws_toSeal fu (⟨a0_1, (⟨a0_3, a0_4, a0_5, (⟨a0_7, a0_8, a0_9, a0_10, a0_11, a0_12⟩ : S_impl_Cmd)⟩ : S_laws_Entry)⟩ : S_laws_Seal) y hy
  · cases h

/-! laws.toSealS -/
def F_laws_toSealS_B0 {ρ : Type} (fu : Nat) (a0_0 : (Sl S_laws_Seal)) (out3_1 : Nat) (on0_3 : Nat) (k0 : (Nat → S_impl_Seal) → Option ρ) (i4_2 : Int) (of0_4 : (Nat → S_impl_Seal)) (go : Int → (Nat → S_impl_Seal) → Option ρ) : Option ρ :=
  (bif (decide (i4_2 < ((a0_0.n : Nat) : Int))) then ((bif (decide (0 ≤ i4_2) && decide ((Int.toNat i4_2) < a0_0.n)) then some () else none : Option Unit).bind fun _ =>
    ((F_laws_toSeal fu (a0_0.f (Int.toNat i4_2))).bind fun y277 => ((bif (decide (0 ≤ i4_2) && decide ((Int.toNat i4_2) < out3_1)) then some () else none : Option Unit).bind fun _ =>
    (go (IntKind.wrap .i64 (i4_2 + 1)) (fun j => if j = (Int.toNat i4_2) then y277 else of0_4 j))))) else (k0 of0_4))
def F_laws_toSealS (fu : Nat) (a_0 : (Sl S_laws_Seal)) : Option ((Sl S_impl_Seal)) :=
  (bif (decide (0 ≤ ((a_0.n : Nat) : Int)) && (decide (((a_0.n : Nat) : Int) = ((a_0.n : Nat) : Int)) && (decide ((80 : Int) * ((a_0.n : Nat) : Int) ≤ 281474976710656) && decide (((a_0.n : Nat) : Int) ≤ 9223372036854775807)))) then
    (L (fun w0 go0 => F_laws_toSealS_B0 fu a_0 (Int.toNat ((a_0.n : Nat) : Int)) (Int.toNat ((a_0.n : Nat) : Int)) (fun z278 => (some (⟨none, (Int.toNat ((a_0.n : Nat) : Int)),
    z278⟩ : (Sl S_impl_Seal)))) w0.1 w0.2 (fun q0 q1 => go0 (q0, q1))) fu ((0, (fun _ => (⟨0, (⟨0, 0, 0, (⟨0, 0, 0, 0, 0, 0⟩ : S_impl_Cmd)⟩ : S_impl_Entry)⟩ : S_impl_Seal))) : Int × (Nat → S_impl_Seal))) else
    none)
def pc_laws_toSealS (fu : Nat) : Pc RT den := fun f xs => match f with | 81 => S_laws_toSeal fu xs | _ => none
def msk_laws_toSealS (b : Nat) : List Nat := match b with | 0 => [1, 2, 5, 6, 7, 8, 9, 10, 11, 12, 13, 14, 15, 16, 17, 18, 19, 20, 21, 22] | 100000 => [0, 1, 4, 5, 6, 7, 8, 9, 10, 11, 12, 13, 14, 15, 16, 17, 18, 19, 20, 21, 22] | _ => []
def ps_laws_toSealS_0 : List (Pat RT) := [.flat (.rs .laws_Seal), .flat .dead, .flat .dead, .flat (.os 0), .flat (.int .i64), .flat .dead, .flat .dead, .flat .dead, .flat .dead, .flat .dead, .flat .dead, .flat .dead, .flat .dead, .flat .dead, .flat .dead, .flat .dead, .flat .dead, .flat .dead, .flat .dead, .flat .dead, .flat .dead, .flat .dead, .flat .dead]
def os_laws_toSealS_0 : List (OP RT) := [.row .impl_Seal]
def conv_laws_toSealS_0 (r : Raw den ps_laws_toSealS_0 os_laws_toSealS_0) : ((Sl S_laws_Seal) × Nat × Nat) × (Int × (Nat → S_impl_Seal)) := ((r.1.1, r.1.2.2.2.1, r.2.1.1), (r.1.2.2.2.2.1, r.2.1.2))
def back_laws_toSealS_0 (c : (Sl S_laws_Seal) × Nat × Nat) (w : Int × (Nat → S_impl_Seal)) : St RT den := ⟨[(.rs c.1.z .laws_Seal c.1.n c.1.f), .dead, .dead, (.os 0 c.2.1), (.int .i64 w.1), .dead, .dead, .dead, .dead, .dead, .dead, .dead, .dead, .dead, .dead, .dead, .dead, .dead, .dead, .dead, .dead, .dead, .dead], [(.row .impl_Seal c.2.2 w.2)]⟩
def Bk_laws_toSealS_0 {ρ : Type} (fu : Nat) (c : (Sl S_laws_Seal) × Nat × Nat) (k : Ex → St RT den → Option ρ) (w : Int × (Nat → S_impl_Seal)) (go : (Int × (Nat → S_impl_Seal)) → Option ρ) : Option ρ := F_laws_toSealS_B0 fu c.1 c.2.1 c.2.2 (fun a0 => k (.exit 0) ⟨[.dead, .dead, .dead, (.os 0 c.2.1), .dead, .dead, .dead, .dead, .dead, .dead, .dead, .dead, .dead, .dead, .dead, .dead, .dead, .dead, .dead, .dead, .dead, .dead, .dead], [(.row .impl_Seal c.2.2 a0)]⟩) w.1 w.2 (fun q0 q1 => go (q0, q1))
def lp_laws_toSealS (fu : Nat) : Lp RT den ((Sl S_impl_Seal)) := fun b s k => match b with | 0 => handle ps_laws_toSealS_0 os_laws_toSealS_0 conv_laws_toSealS_0 (Bk_laws_toSealS_0 fu) fu s k | _ => none
theorem ev_laws_toSealS (fu : Nat) (a_0 : (Sl S_laws_Seal)) : evFun E (pc_laws_toSealS fu) msk_laws_toSealS (lp_laws_toSealS fu) out_sl_impl_Seal 52 [(.rs a_0.z .laws_Seal a_0.n a_0.f)] = F_laws_toSealS fu a_0 := by kernel_rfl
noncomputable def body_laws_toSealS : Code := Try.f52.body.getD .skip
noncomputable def lc_laws_toSealS_0 : Code := ((loops 0 body_laws_toSealS).getD 0 (0, .skip)).2
theorem round_laws_toSealS_0 (fu : Nat) (it : St RT den → Option ((Sl S_impl_Seal))) (k : Ex → St RT den → Option ((Sl S_impl_Seal))) c w : evCode E (pc_laws_toSealS fu) msk_laws_toSealS (lp_laws_toSealS fu) 0 lc_laws_toSealS_0 (back_laws_toSealS_0 c w) (after (msk_laws_toSealS 0) (msk_laws_toSealS 100000) 1 it k) = Bk_laws_toSealS_0 fu c k w (fun w => it (back_laws_toSealS_0 c w)) := by kernel_rfl
theorem lpok_laws_toSealS_0 (fu : Nat) : ∀ s k r, lp_laws_toSealS fu 0 s k = some r → ∃ fuel, iter (msk_laws_toSealS 0) (msk_laws_toSealS 100000) s.objs.length (evCode E (pc_laws_toSealS fu) msk_laws_toSealS (lp_laws_toSealS fu) 0 lc_laws_toSealS_0) fuel s k = some r :=
  handle_ok (ps := ps_laws_toSealS_0) (os := os_laws_toSealS_0) (conv := conv_laws_toSealS_0) (B := Bk_laws_toSealS_0 fu) (fu := fu) back_laws_toSealS_0 (fun raw => by kernel_rfl) 1 (fun c w => by kernel_rfl) (round_laws_toSealS_0 fu)
theorem lpok_laws_toSealS (fu : Nat) : LpOk E (pc_laws_toSealS fu) msk_laws_toSealS (lp_laws_toSealS fu) (loops 0 body_laws_toSealS) := loop_all 1 (by kernel_rfl) fun i hi => match i, hi with
  | 0, _ => by
    have h : (loops 0 body_laws_toSealS).getD 0 (0, .skip) = (0, lc_laws_toSealS_0) := by kernel_rfl
    rw [h]; exact lpok_laws_toSealS_0 fu
  | i + 1, hi => absurd hi (by omega)
def S_laws_toSealS (fu : Nat) (xs : List (D RT den)) : Option (Out RT den) := match xs with | [.rs za0_0 .laws_Seal na0_0 fa0_0] => some ⟨(Sl S_impl_Seal), F_laws_toSealS fu (⟨za0_0, na0_0, fa0_0⟩ : (Sl S_laws_Seal)), enc_sl_impl_Seal, fun _ => true⟩ | _ => none
theorem hpc_laws_toSealS (fu : Nat) : ∀ f xs o, pc_laws_toSealS fu f xs = some o → ∀ y, o.x = some y → Good E Try.prog f xs (o.g y) := by
  intro f xs o h
  unfold pc_laws_toSealS at h
  split at h
  · exact good_laws_toSeal fu xs o h
  · cases h
theorem goodv_laws_toSealS (fu : Nat) (a_0 : (Sl S_laws_Seal)) (y : (Sl S_impl_Seal)) (hy : F_laws_toSealS fu a_0 = some y) : Good E Try.prog 52 [(.rs a_0.z .laws_Seal a_0.n a_0.f)] (enc_sl_impl_Seal y) :=
  fun_good E_ok (pc_good (hpc_laws_toSealS fu)) (fn := Try.f52) (c := body_laws_toSealS) (out := out_sl_impl_Seal) (y := y) (by kernel_rfl) (by kernel_rfl) (by kernel_rfl) (lpok_laws_toSealS fu) (fun d hd => out_sl_impl_Seal_enc d _ hd) ((ev_laws_toSealS fu a_0).trans hy)
theorem good_laws_toSealS (fu : Nat) : ∀ xs o, S_laws_toSealS fu xs = some o → ∀ y, o.x = some y → Good E Try.prog 52 xs (o.g y) := by
  intro xs o h y hy
  unfold S_laws_toSealS at h
  split at h
  · rename_i za0_0 na0_0 fa0_0
    cases h
    exact goodv_laws_toSealS fu (⟨za0_0, na0_0, fa0_0⟩ : (Sl S_laws_Seal)) y hy
  · cases h

/-! laws.toCluster -/
def F_laws_toCluster (fu : Nat) (a_0 : S_laws_Cluster) : Option (S_impl_Cluster) :=
  ((F_laws_toNodeS fu a_0.Nodes).bind fun y267 => ((F_laws_toMailS fu a_0.Mails).bind fun y268 => ((F_laws_toWonS fu a_0.Wins).bind fun y269 => ((F_laws_toSealS fu a_0.Seals).bind fun y270 =>
    (some (⟨y267, y268, y269, y270⟩ : S_impl_Cluster))))))
def pc_laws_toCluster (fu : Nat) : Pc RT den := fun f xs => match f with | 49 => S_laws_toNodeS fu xs | 50 => S_laws_toMailS fu xs | 51 => S_laws_toWonS fu xs | 52 => S_laws_toSealS fu xs | _ => none
def msk_laws_toCluster (b : Nat) : List Nat := []
def lp_laws_toCluster (fu : Nat) : Lp RT den (S_impl_Cluster) := fun b s k => none
theorem ev_laws_toCluster (fu : Nat) (a_0 : S_laws_Cluster) : evFun E (pc_laws_toCluster fu) msk_laws_toCluster (lp_laws_toCluster fu) out_impl_Cluster 22 [(.agg [(.rs a_0.Nodes.z .laws_Node a_0.Nodes.n a_0.Nodes.f), (.rs a_0.Mails.z .laws_Mail a_0.Mails.n a_0.Mails.f), (.rs a_0.Wins.z .impl_Won a_0.Wins.n a_0.Wins.f), (.rs a_0.Seals.z .laws_Seal a_0.Seals.n a_0.Seals.f)])] = F_laws_toCluster fu a_0 := by kernel_rfl
noncomputable def body_laws_toCluster : Code := Try.f22.body.getD .skip
theorem lpok_laws_toCluster (fu : Nat) : LpOk E (pc_laws_toCluster fu) msk_laws_toCluster (lp_laws_toCluster fu) (loops 0 body_laws_toCluster) := by
  have h : loops 0 body_laws_toCluster = [] := by kernel_rfl
  rw [h]; intro p hp; cases hp
def S_laws_toCluster (fu : Nat) (xs : List (D RT den)) : Option (Out RT den) := match xs with | [.agg [.rs za0_1 .laws_Node na0_1 fa0_1, .rs za0_2 .laws_Mail na0_2 fa0_2, .rs za0_3 .impl_Won na0_3 fa0_3, .rs za0_4 .laws_Seal na0_4 fa0_4]] => some ⟨S_impl_Cluster, F_laws_toCluster fu (⟨(⟨za0_1, na0_1, fa0_1⟩ : (Sl S_laws_Node)), (⟨za0_2, na0_2, fa0_2⟩ : (Sl S_laws_Mail)), (⟨za0_3, na0_3, fa0_3⟩ : (Sl S_impl_Won)), (⟨za0_4, na0_4, fa0_4⟩ : (Sl S_laws_Seal))⟩ : S_laws_Cluster), enc_impl_Cluster, fun _ => true⟩ | _ => none
theorem hpc_laws_toCluster (fu : Nat) : ∀ f xs o, pc_laws_toCluster fu f xs = some o → ∀ y, o.x = some y → Good E Try.prog f xs (o.g y) := by
  intro f xs o h
  unfold pc_laws_toCluster at h
  split at h
  · exact good_laws_toNodeS fu xs o h
  · exact good_laws_toMailS fu xs o h
  · exact good_laws_toWonS fu xs o h
  · exact good_laws_toSealS fu xs o h
  · cases h
theorem goodv_laws_toCluster (fu : Nat) (a_0 : S_laws_Cluster) (y : S_impl_Cluster) (hy : F_laws_toCluster fu a_0 = some y) : Good E Try.prog 22 [(.agg [(.rs a_0.Nodes.z .laws_Node a_0.Nodes.n a_0.Nodes.f), (.rs a_0.Mails.z .laws_Mail a_0.Mails.n a_0.Mails.f), (.rs a_0.Wins.z .impl_Won a_0.Wins.n a_0.Wins.f), (.rs a_0.Seals.z .laws_Seal a_0.Seals.n a_0.Seals.f)])] (enc_impl_Cluster y) :=
  fun_good E_ok (pc_good (hpc_laws_toCluster fu)) (fn := Try.f22) (c := body_laws_toCluster) (out := out_impl_Cluster) (y := y) (by kernel_rfl) (by kernel_rfl) (by kernel_rfl) (lpok_laws_toCluster fu) (fun d hd => out_impl_Cluster_enc d _ hd) ((ev_laws_toCluster fu a_0).trans hy)
theorem good_laws_toCluster (fu : Nat) : ∀ xs o, S_laws_toCluster fu xs = some o → ∀ y, o.x = some y → Good E Try.prog 22 xs (o.g y) := by
  intro xs o h y hy
  unfold S_laws_toCluster at h
  split at h
  · rename_i za0_1 na0_1 fa0_1 za0_2 na0_2 fa0_2 za0_3 na0_3 fa0_3 za0_4 na0_4 fa0_4
    cases h
    exact goodv_laws_toCluster fu (⟨(⟨za0_1, na0_1, fa0_1⟩ : (Sl S_laws_Node)), (⟨za0_2, na0_2, fa0_2⟩ : (Sl S_laws_Mail)), (⟨za0_3, na0_3, fa0_3⟩ : (Sl S_impl_Won)), (⟨za0_4, na0_4, fa0_4⟩ : (Sl S_laws_Seal))⟩ : S_laws_Cluster) y hy
  · cases h

/-! spec.l9Place -/
def F_spec_l9Place (fu : Nat) (c_0 : S_impl_Cluster) (node_1 : Int) : Option (Bool) :=
  ((F_spec_l1In fu node_1 0 (IntKind.wrap .i64 (((c_0.Nodes.n : Nat) : Int) - 1))).bind fun y295 => (some y295))
def pc_spec_l9Place (fu : Nat) : Pc RT den := fun f xs => match f with | 65 => S_spec_l1In fu xs | _ => none
def msk_spec_l9Place (b : Nat) : List Nat := []
def lp_spec_l9Place (fu : Nat) : Lp RT den (Bool) := fun b s k => none
theorem ev_spec_l9Place (fu : Nat) (c_0 : S_impl_Cluster) (node_1 : Int) : evFun E (pc_spec_l9Place fu) msk_spec_l9Place (lp_spec_l9Place fu) out_b 78 [(.rptr [(.rs c_0.Nodes.z .impl_Node c_0.Nodes.n c_0.Nodes.f), (.rs c_0.Mails.z .impl_Mail c_0.Mails.n c_0.Mails.f), (.rs c_0.Wins.z .impl_Won c_0.Wins.n c_0.Wins.f), (.rs c_0.Seals.z .impl_Seal c_0.Seals.n c_0.Seals.f)]), (.int .i64 node_1)] = F_spec_l9Place fu c_0 node_1 := by kernel_rfl
noncomputable def body_spec_l9Place : Code := Try.f78.body.getD .skip
theorem lpok_spec_l9Place (fu : Nat) : LpOk E (pc_spec_l9Place fu) msk_spec_l9Place (lp_spec_l9Place fu) (loops 0 body_spec_l9Place) := by
  have h : loops 0 body_spec_l9Place = [] := by kernel_rfl
  rw [h]; intro p hp; cases hp
def S_spec_l9Place (fu : Nat) (xs : List (D RT den)) : Option (Out RT den) := match xs with | [.rptr [.rs za0_1 .impl_Node na0_1 fa0_1, .rs za0_2 .impl_Mail na0_2 fa0_2, .rs za0_3 .impl_Won na0_3 fa0_3, .rs za0_4 .impl_Seal na0_4 fa0_4], .int .i64 a1_0] => some ⟨Bool, F_spec_l9Place fu (⟨(⟨za0_1, na0_1, fa0_1⟩ : (Sl S_impl_Node)), (⟨za0_2, na0_2, fa0_2⟩ : (Sl S_impl_Mail)), (⟨za0_3, na0_3, fa0_3⟩ : (Sl S_impl_Won)), (⟨za0_4, na0_4, fa0_4⟩ : (Sl S_impl_Seal))⟩ : S_impl_Cluster) a1_0, enc_b, fun _ => true⟩ | _ => none
theorem hpc_spec_l9Place (fu : Nat) : ∀ f xs o, pc_spec_l9Place fu f xs = some o → ∀ y, o.x = some y → Good E Try.prog f xs (o.g y) := by
  intro f xs o h
  unfold pc_spec_l9Place at h
  split at h
  · exact good_spec_l1In fu xs o h
  · cases h
theorem goodv_spec_l9Place (fu : Nat) (c_0 : S_impl_Cluster) (node_1 : Int) (y : Bool) (hy : F_spec_l9Place fu c_0 node_1 = some y) : Good E Try.prog 78 [(.rptr [(.rs c_0.Nodes.z .impl_Node c_0.Nodes.n c_0.Nodes.f), (.rs c_0.Mails.z .impl_Mail c_0.Mails.n c_0.Mails.f), (.rs c_0.Wins.z .impl_Won c_0.Wins.n c_0.Wins.f), (.rs c_0.Seals.z .impl_Seal c_0.Seals.n c_0.Seals.f)]), (.int .i64 node_1)] (enc_b y) :=
  fun_good E_ok (pc_good (hpc_spec_l9Place fu)) (fn := Try.f78) (c := body_spec_l9Place) (out := out_b) (y := y) (by kernel_rfl) (by kernel_rfl) (by kernel_rfl) (lpok_spec_l9Place fu) (fun d hd => out_b_enc d _ hd) ((ev_spec_l9Place fu c_0 node_1).trans hy)
theorem good_spec_l9Place (fu : Nat) : ∀ xs o, S_spec_l9Place fu xs = some o → ∀ y, o.x = some y → Good E Try.prog 78 xs (o.g y) := by
  intro xs o h y hy
  unfold S_spec_l9Place at h
  split at h
  · rename_i za0_1 na0_1 fa0_1 za0_2 na0_2 fa0_2 za0_3 na0_3 fa0_3 za0_4 na0_4 fa0_4 a1_0
    cases h
    exact goodv_spec_l9Place fu (⟨(⟨za0_1, na0_1, fa0_1⟩ : (Sl S_impl_Node)), (⟨za0_2, na0_2, fa0_2⟩ : (Sl S_impl_Mail)), (⟨za0_3, na0_3, fa0_3⟩ : (Sl S_impl_Won)), (⟨za0_4, na0_4, fa0_4⟩ : (Sl S_impl_Seal))⟩ : S_impl_Cluster) a1_0 y hy
  · cases h
end Go.Proofs.Ytgdlionhnifajaa.Pc
