/- The functions' evaluated forms, each a proved summary. Conditions: none. -/
import Derived.Test.YtmdjkdgjmbfegaaPcF2
namespace Go.Proofs.Ytmdjkdgjmbfegaa.Pc
open Go Go.RowKit Go.Proofs Vm
set_option linter.unusedVariables false
set_option linter.unusedSimpArgs false
set_option maxRecDepth 100000
/-! laws.eqNode -/
def F_laws_eqNode (fu : Nat) (a_0 : S_impl_Node) (b_1 : S_impl_Node) : Option (Bool) :=
  (bif (a_0.Id != b_1.Id) then (some false) else (bif (a_0.Peers != b_1.Peers) then (some false) else (bif (a_0.Term != b_1.Term) then (some false) else (bif (a_0.Voted != b_1.Voted) then
    (some false) else ((F_laws_eqEntryS fu a_0.Log b_1.Log).bind fun y215 => (bif (!y215) then (some false) else (bif (a_0.Role != b_1.Role) then (some false) else (bif (a_0.Commit != b_1.Commit) then
    (some false) else ((F_laws_eqInt64S fu a_0.Votes b_1.Votes).bind fun y216 => (bif (!y216) then (some false) else ((F_laws_eqInt64S fu a_0.Next b_1.Next).bind fun y217 => (bif (!y217) then
    (some false) else ((F_laws_eqInt64S fu a_0.Match b_1.Match).bind fun y218 => (bif (!y218) then (some false) else (some true)))))))))))))))
def pcf_laws_eqNode (fu : Nat) (f : Nat) (xs : List (D RT den)) : Option (Out RT den) := match f with | 13 => S_laws_eqEntryS fu xs | 72 => S_laws_eqInt64S fu xs | _ => none
def pcx_laws_eqNode (fu : Nat) (f : Nat) (xs : List (D RT den)) (ins : List (Ob RT den)) : Option (OutX RT den) := none
def pc_laws_eqNode (fu : Nat) : Pc RT den := ⟨pcf_laws_eqNode fu, fun _ => false, fun _ => false, pcx_laws_eqNode fu⟩
def msk_laws_eqNode (b : Nat) : List Nat := []
def lp_laws_eqNode (fu : Nat) : Lp RT den (Bool) := fun b s k => none
theorem ev_laws_eqNode (fu : Nat) (a_0 : S_impl_Node) (b_1 : S_impl_Node) : evFun E (pc_laws_eqNode fu) msk_laws_eqNode (lp_laws_eqNode fu) out_bo 34 [(.agg [(.int .i64 a_0.Id), (.int .i64 a_0.Peers), (.int .i64 a_0.Term), (.int .i64 a_0.Voted), (.rs a_0.Log.z .impl_Entry a_0.Log.n a_0.Log.f), (.int .i64 a_0.Role), (.int .i64 a_0.Commit), (.rs a_0.Votes.z .i64 a_0.Votes.n a_0.Votes.f), (.rs a_0.Next.z .i64 a_0.Next.n a_0.Next.f), (.rs a_0.Match.z .i64 a_0.Match.n a_0.Match.f)]), (.agg [(.int .i64 b_1.Id), (.int .i64 b_1.Peers), (.int .i64 b_1.Term), (.int .i64 b_1.Voted), (.rs b_1.Log.z .impl_Entry b_1.Log.n b_1.Log.f), (.int .i64 b_1.Role), (.int .i64 b_1.Commit), (.rs b_1.Votes.z .i64 b_1.Votes.n b_1.Votes.f), (.rs b_1.Next.z .i64 b_1.Next.n b_1.Next.f), (.rs b_1.Match.z .i64 b_1.Match.n b_1.Match.f)])] = F_laws_eqNode fu a_0 b_1 := by kernel_rfl
noncomputable def body_laws_eqNode : Code := Try.f34.body.getD .skip
theorem lpok_laws_eqNode (fu : Nat) : LpOk E (pc_laws_eqNode fu) msk_laws_eqNode (lp_laws_eqNode fu) (loops 0 body_laws_eqNode) := by
  have h : loops 0 body_laws_eqNode = [] := by kernel_rfl
  rw [h]; intro p hp; cases hp
def S_laws_eqNode (fu : Nat) (xs : List (D RT den)) : Option (Out RT den) := match xs with | [.agg [.int .i64 a0_1, .int .i64 a0_2, .int .i64 a0_3, .int .i64 a0_4, .rs za0_5 .impl_Entry na0_5 fa0_5, .int .i64 a0_6, .int .i64 a0_7, .rs za0_8 .i64 na0_8 fa0_8, .rs za0_9 .i64 na0_9 fa0_9, .rs za0_10 .i64 na0_10 fa0_10], .agg [.int .i64 a1_1, .int .i64 a1_2, .int .i64 a1_3, .int .i64 a1_4, .rs za1_5 .impl_Entry na1_5 fa1_5, .int .i64 a1_6, .int .i64 a1_7, .rs za1_8 .i64 na1_8 fa1_8, .rs za1_9 .i64 na1_9 fa1_9, .rs za1_10 .i64 na1_10 fa1_10]] => some ⟨Bool, F_laws_eqNode fu (⟨a0_1, a0_2, a0_3, a0_4, (⟨za0_5, na0_5, fa0_5⟩ : (Sl S_impl_Entry)), a0_6, a0_7, (⟨za0_8, na0_8, fa0_8⟩ : (Sl Int)), (⟨za0_9, na0_9, fa0_9⟩ : (Sl Int)), (⟨za0_10, na0_10, fa0_10⟩ : (Sl Int))⟩ : S_impl_Node) (⟨a1_1, a1_2, a1_3, a1_4, (⟨za1_5, na1_5, fa1_5⟩ : (Sl S_impl_Entry)), a1_6, a1_7, (⟨za1_8, na1_8, fa1_8⟩ : (Sl Int)), (⟨za1_9, na1_9, fa1_9⟩ : (Sl Int)), (⟨za1_10, na1_10, fa1_10⟩ : (Sl Int))⟩ : S_impl_Node), enc_bo, fun _ => true⟩ | _ => none
theorem hpc_laws_eqNode (fu : Nat) : ∀ f xs o, pcf_laws_eqNode fu f xs = some o → ∀ y, o.x = some y → Good E Try.prog f xs (o.g y) := by
  intro f xs o h
  unfold pcf_laws_eqNode at h
  split at h
  · exact good_laws_eqEntryS fu xs o h
  · exact good_laws_eqInt64S fu xs o h
  · cases h
theorem hpx_laws_eqNode (fu : Nat) : ∀ f xs ins o, pcx_laws_eqNode fu f xs ins = some o → ∀ y, o.x = some y → GoodX E Try.prog f xs ins (o.g y).1 (o.g y).2 := by
  intro f xs ins o h
  cases h
theorem goodv_laws_eqNode (fu : Nat) (a_0 : S_impl_Node) (b_1 : S_impl_Node) (y : Bool) (hy : F_laws_eqNode fu a_0 b_1 = some y) : Good E Try.prog 34 [(.agg [(.int .i64 a_0.Id), (.int .i64 a_0.Peers), (.int .i64 a_0.Term), (.int .i64 a_0.Voted), (.rs a_0.Log.z .impl_Entry a_0.Log.n a_0.Log.f), (.int .i64 a_0.Role), (.int .i64 a_0.Commit), (.rs a_0.Votes.z .i64 a_0.Votes.n a_0.Votes.f), (.rs a_0.Next.z .i64 a_0.Next.n a_0.Next.f), (.rs a_0.Match.z .i64 a_0.Match.n a_0.Match.f)]), (.agg [(.int .i64 b_1.Id), (.int .i64 b_1.Peers), (.int .i64 b_1.Term), (.int .i64 b_1.Voted), (.rs b_1.Log.z .impl_Entry b_1.Log.n b_1.Log.f), (.int .i64 b_1.Role), (.int .i64 b_1.Commit), (.rs b_1.Votes.z .i64 b_1.Votes.n b_1.Votes.f), (.rs b_1.Next.z .i64 b_1.Next.n b_1.Next.f), (.rs b_1.Match.z .i64 b_1.Match.n b_1.Match.f)])] (enc_bo y) :=
  fun_good E_ok (pc_good (pc := pc_laws_eqNode fu) (hpc_laws_eqNode fu) (hpx_laws_eqNode fu)) (fn := Try.f34) (c := body_laws_eqNode) (out := out_bo) (y := y) (by kernel_rfl) (by kernel_rfl) (by kernel_rfl) (lpok_laws_eqNode fu) (fun d hd => out_bo_enc d _ hd) ((ev_laws_eqNode fu a_0 b_1).trans hy)
theorem good_laws_eqNode (fu : Nat) : ∀ xs o, S_laws_eqNode fu xs = some o → ∀ y, o.x = some y → Good E Try.prog 34 xs (o.g y) := by
  intro xs o h y hy
  unfold S_laws_eqNode at h
  split at h
  · rename_i a0_1 a0_2 a0_3 a0_4 za0_5 na0_5 fa0_5 a0_6 a0_7 za0_8 na0_8 fa0_8 za0_9 na0_9 fa0_9 za0_10 na0_10 fa0_10 a1_1 a1_2 a1_3 a1_4 za1_5 na1_5 fa1_5 a1_6 a1_7 za1_8 na1_8 fa1_8 za1_9 na1_9 fa1_9 za1_10 na1_10 fa1_10
    cases h
    exact goodv_laws_eqNode fu (⟨a0_1, a0_2, a0_3, a0_4, (⟨za0_5, na0_5, fa0_5⟩ : (Sl S_impl_Entry)), a0_6, a0_7, (⟨za0_8, na0_8, fa0_8⟩ : (Sl Int)), (⟨za0_9, na0_9, fa0_9⟩ : (Sl Int)), (⟨za0_10, na0_10, fa0_10⟩ : (Sl Int))⟩ : S_impl_Node) (⟨a1_1, a1_2, a1_3, a1_4, (⟨za1_5, na1_5, fa1_5⟩ : (Sl S_impl_Entry)), a1_6, a1_7, (⟨za1_8, na1_8, fa1_8⟩ : (Sl Int)), (⟨za1_9, na1_9, fa1_9⟩ : (Sl Int)), (⟨za1_10, na1_10, fa1_10⟩ : (Sl Int))⟩ : S_impl_Node) y hy
  · cases h

/-! laws.eqMail -/
def F_laws_eqMail (fu : Nat) (a_0 : S_impl_Mail) (b_1 : S_impl_Mail) : Option (Bool) :=
  (bif (a_0.Kind != b_1.Kind) then (some false) else (bif (a_0.From != b_1.From) then (some false) else (bif (a_0.To != b_1.To) then (some false) else (bif (a_0.Term != b_1.Term) then
    (some false) else (bif (a_0.Index != b_1.Index) then (some false) else (bif (a_0.Last != b_1.Last) then (some false) else (bif (a_0.Commit != b_1.Commit) then (some false) else
    (bif (!(a_0.Ok == b_1.Ok)) then (some false) else ((F_laws_eqEntryS fu a_0.Entries b_1.Entries).bind fun y220 => (bif (!y220) then (some false) else (some true)))))))))))
def pcf_laws_eqMail (fu : Nat) (f : Nat) (xs : List (D RT den)) : Option (Out RT den) := match f with | 13 => S_laws_eqEntryS fu xs | _ => none
def pcx_laws_eqMail (fu : Nat) (f : Nat) (xs : List (D RT den)) (ins : List (Ob RT den)) : Option (OutX RT den) := none
def pc_laws_eqMail (fu : Nat) : Pc RT den := ⟨pcf_laws_eqMail fu, fun _ => false, fun _ => false, pcx_laws_eqMail fu⟩
def msk_laws_eqMail (b : Nat) : List Nat := []
def lp_laws_eqMail (fu : Nat) : Lp RT den (Bool) := fun b s k => none
theorem ev_laws_eqMail (fu : Nat) (a_0 : S_impl_Mail) (b_1 : S_impl_Mail) : evFun E (pc_laws_eqMail fu) msk_laws_eqMail (lp_laws_eqMail fu) out_bo 87 [(.agg [(.int .i64 a_0.Kind), (.int .i64 a_0.From), (.int .i64 a_0.To), (.int .i64 a_0.Term), (.int .i64 a_0.Index), (.int .i64 a_0.Last), (.int .i64 a_0.Commit), (.bool a_0.Ok), (.rs a_0.Entries.z .impl_Entry a_0.Entries.n a_0.Entries.f)]), (.agg [(.int .i64 b_1.Kind), (.int .i64 b_1.From), (.int .i64 b_1.To), (.int .i64 b_1.Term), (.int .i64 b_1.Index), (.int .i64 b_1.Last), (.int .i64 b_1.Commit), (.bool b_1.Ok), (.rs b_1.Entries.z .impl_Entry b_1.Entries.n b_1.Entries.f)])] = F_laws_eqMail fu a_0 b_1 := by kernel_rfl
noncomputable def body_laws_eqMail : Code := Try.f87.body.getD .skip
theorem lpok_laws_eqMail (fu : Nat) : LpOk E (pc_laws_eqMail fu) msk_laws_eqMail (lp_laws_eqMail fu) (loops 0 body_laws_eqMail) := by
  have h : loops 0 body_laws_eqMail = [] := by kernel_rfl
  rw [h]; intro p hp; cases hp
def S_laws_eqMail (fu : Nat) (xs : List (D RT den)) : Option (Out RT den) := match xs with | [.agg [.int .i64 a0_1, .int .i64 a0_2, .int .i64 a0_3, .int .i64 a0_4, .int .i64 a0_5, .int .i64 a0_6, .int .i64 a0_7, .bool a0_8, .rs za0_9 .impl_Entry na0_9 fa0_9], .agg [.int .i64 a1_1, .int .i64 a1_2, .int .i64 a1_3, .int .i64 a1_4, .int .i64 a1_5, .int .i64 a1_6, .int .i64 a1_7, .bool a1_8, .rs za1_9 .impl_Entry na1_9 fa1_9]] => some ⟨Bool, F_laws_eqMail fu (⟨a0_1, a0_2, a0_3, a0_4, a0_5, a0_6, a0_7, a0_8, (⟨za0_9, na0_9, fa0_9⟩ : (Sl S_impl_Entry))⟩ : S_impl_Mail) (⟨a1_1, a1_2, a1_3, a1_4, a1_5, a1_6, a1_7, a1_8, (⟨za1_9, na1_9, fa1_9⟩ : (Sl S_impl_Entry))⟩ : S_impl_Mail), enc_bo, fun _ => true⟩ | _ => none
theorem hpc_laws_eqMail (fu : Nat) : ∀ f xs o, pcf_laws_eqMail fu f xs = some o → ∀ y, o.x = some y → Good E Try.prog f xs (o.g y) := by
  intro f xs o h
  unfold pcf_laws_eqMail at h
  split at h
  · exact good_laws_eqEntryS fu xs o h
  · cases h
theorem hpx_laws_eqMail (fu : Nat) : ∀ f xs ins o, pcx_laws_eqMail fu f xs ins = some o → ∀ y, o.x = some y → GoodX E Try.prog f xs ins (o.g y).1 (o.g y).2 := by
  intro f xs ins o h
  cases h
theorem goodv_laws_eqMail (fu : Nat) (a_0 : S_impl_Mail) (b_1 : S_impl_Mail) (y : Bool) (hy : F_laws_eqMail fu a_0 b_1 = some y) : Good E Try.prog 87 [(.agg [(.int .i64 a_0.Kind), (.int .i64 a_0.From), (.int .i64 a_0.To), (.int .i64 a_0.Term), (.int .i64 a_0.Index), (.int .i64 a_0.Last), (.int .i64 a_0.Commit), (.bool a_0.Ok), (.rs a_0.Entries.z .impl_Entry a_0.Entries.n a_0.Entries.f)]), (.agg [(.int .i64 b_1.Kind), (.int .i64 b_1.From), (.int .i64 b_1.To), (.int .i64 b_1.Term), (.int .i64 b_1.Index), (.int .i64 b_1.Last), (.int .i64 b_1.Commit), (.bool b_1.Ok), (.rs b_1.Entries.z .impl_Entry b_1.Entries.n b_1.Entries.f)])] (enc_bo y) :=
  fun_good E_ok (pc_good (pc := pc_laws_eqMail fu) (hpc_laws_eqMail fu) (hpx_laws_eqMail fu)) (fn := Try.f87) (c := body_laws_eqMail) (out := out_bo) (y := y) (by kernel_rfl) (by kernel_rfl) (by kernel_rfl) (lpok_laws_eqMail fu) (fun d hd => out_bo_enc d _ hd) ((ev_laws_eqMail fu a_0 b_1).trans hy)
theorem good_laws_eqMail (fu : Nat) : ∀ xs o, S_laws_eqMail fu xs = some o → ∀ y, o.x = some y → Good E Try.prog 87 xs (o.g y) := by
  intro xs o h y hy
  unfold S_laws_eqMail at h
  split at h
  · rename_i a0_1 a0_2 a0_3 a0_4 a0_5 a0_6 a0_7 a0_8 za0_9 na0_9 fa0_9 a1_1 a1_2 a1_3 a1_4 a1_5 a1_6 a1_7 a1_8 za1_9 na1_9 fa1_9
    cases h
    exact goodv_laws_eqMail fu (⟨a0_1, a0_2, a0_3, a0_4, a0_5, a0_6, a0_7, a0_8, (⟨za0_9, na0_9, fa0_9⟩ : (Sl S_impl_Entry))⟩ : S_impl_Mail) (⟨a1_1, a1_2, a1_3, a1_4, a1_5, a1_6, a1_7, a1_8, (⟨za1_9, na1_9, fa1_9⟩ : (Sl S_impl_Entry))⟩ : S_impl_Mail) y hy
  · cases h

/-! laws.eqMailS -/
def F_laws_eqMailS_B0 {ρ : Type} (fu : Nat) (a0_0 : (Sl S_impl_Mail)) (b1_1 : (Sl S_impl_Mail)) (k0 : Option ρ) (k1 : Option ρ) (i5_2 : Int) (go : Int → Option ρ) : Option ρ :=
  (bif (decide (i5_2 < ((a0_0.n : Nat) : Int))) then ((bif (decide (0 ≤ i5_2) && decide ((Int.toNat i5_2) < a0_0.n)) then some () else none : Option Unit).bind fun _ => ((bif (decide (0 ≤ i5_2) &&
    decide ((Int.toNat i5_2) < b1_1.n)) then some () else none : Option Unit).bind fun _ => ((F_laws_eqMail fu (a0_0.f (Int.toNat i5_2)) (b1_1.f (Int.toNat i5_2))).bind fun y219 =>
    (bif (!y219) then k0 else (go (IntKind.wrap .i64 (i5_2 + 1))))))) else k1)
def F_laws_eqMailS (fu : Nat) (a_0 : (Sl S_impl_Mail)) (b_1 : (Sl S_impl_Mail)) : Option (Bool) :=
  (bif (((a_0.n : Nat) : Int) != ((b_1.n : Nat) : Int)) then (some false) else (L (fun w0 go0 => F_laws_eqMailS_B0 fu a_0 b_1 (some false) (some true) w0 go0) fu (0 : Int)))
def pcf_laws_eqMailS (fu : Nat) (f : Nat) (xs : List (D RT den)) : Option (Out RT den) := match f with | 87 => S_laws_eqMail fu xs | _ => none
def pcx_laws_eqMailS (fu : Nat) (f : Nat) (xs : List (D RT den)) (ins : List (Ob RT den)) : Option (OutX RT den) := none
def pc_laws_eqMailS (fu : Nat) : Pc RT den := ⟨pcf_laws_eqMailS fu, fun _ => false, fun _ => false, pcx_laws_eqMailS fu⟩
def msk_laws_eqMailS (b : Nat) : List Nat := match b with | 0 => [2, 3, 4, 6, 7, 8, 9, 10, 11, 12, 13, 14, 15, 16, 17, 18, 19, 20, 21, 22, 23, 24, 25, 26] | 100000 => [0, 1, 2, 3, 5, 6, 7, 8, 9, 10, 11, 12, 13, 14, 15, 16, 17, 18, 19, 20, 21, 22, 23, 24, 25, 26] | _ => []
def ps_laws_eqMailS_0 : List (Pat RT) := [.flat (.rs .impl_Mail), .flat (.rs .impl_Mail), .flat .dead, .flat .dead, .flat .dead, .flat (.int .i64), .flat .dead, .flat .dead, .flat .dead, .flat .dead, .flat .dead, .flat .dead, .flat .dead, .flat .dead, .flat .dead, .flat .dead, .flat .dead, .flat .dead, .flat .dead, .flat .dead, .flat .dead, .flat .dead, .flat .dead, .flat .dead, .flat .dead, .flat .dead, .flat .dead]
def os_laws_eqMailS_0 : List (OP RT) := []
def conv_laws_eqMailS_0 (r : Raw den ps_laws_eqMailS_0 os_laws_eqMailS_0) : ((Sl S_impl_Mail) × (Sl S_impl_Mail)) × (Int) := ((r.1.1, r.1.2.1), r.1.2.2.2.2.2.1)
def back_laws_eqMailS_0 (c : (Sl S_impl_Mail) × (Sl S_impl_Mail)) (w : Int) : St RT den := ⟨[(.rs c.1.z .impl_Mail c.1.n c.1.f), (.rs c.2.z .impl_Mail c.2.n c.2.f), .dead, .dead, .dead, (.int .i64 w), .dead, .dead, .dead, .dead, .dead, .dead, .dead, .dead, .dead, .dead, .dead, .dead, .dead, .dead, .dead, .dead, .dead, .dead, .dead, .dead, .dead], []⟩
def Bk_laws_eqMailS_0 {ρ : Type} (fu : Nat) (c : (Sl S_impl_Mail) × (Sl S_impl_Mail)) (k : Ex → St RT den → Option ρ) (w : Int) (go : (Int) → Option ρ) : Option ρ := F_laws_eqMailS_B0 fu c.1 c.2 (k .ret ⟨[.dead, .dead, .dead, .dead, (.bool false), .dead, .dead, .dead, .dead, .dead, .dead, .dead, .dead, .dead, .dead, .dead, .dead, .dead, .dead, .dead, .dead, .dead, .dead, .dead, .dead, .dead, .dead], []⟩) (k (.exit 0) ⟨[.dead, .dead, .dead, .dead, .dead, .dead, .dead, .dead, .dead, .dead, .dead, .dead, .dead, .dead, .dead, .dead, .dead, .dead, .dead, .dead, .dead, .dead, .dead, .dead, .dead, .dead, .dead], []⟩) w go
def lp_laws_eqMailS (fu : Nat) : Lp RT den (Bool) := fun b s k => match b with | 0 => handle ps_laws_eqMailS_0 os_laws_eqMailS_0 conv_laws_eqMailS_0 (Bk_laws_eqMailS_0 fu) fu s k | _ => none
theorem ev_laws_eqMailS (fu : Nat) (a_0 : (Sl S_impl_Mail)) (b_1 : (Sl S_impl_Mail)) : evFun E (pc_laws_eqMailS fu) msk_laws_eqMailS (lp_laws_eqMailS fu) out_bo 63 [(.rs a_0.z .impl_Mail a_0.n a_0.f), (.rs b_1.z .impl_Mail b_1.n b_1.f)] = F_laws_eqMailS fu a_0 b_1 := by kernel_rfl
noncomputable def body_laws_eqMailS : Code := Try.f63.body.getD .skip
noncomputable def lc_laws_eqMailS_0 : Code := ((loops 0 body_laws_eqMailS).getD 0 (0, .skip)).2
theorem round_laws_eqMailS_0 (fu : Nat) (it : St RT den → Option (Bool)) (k : Ex → St RT den → Option (Bool)) c w : evCode E (pc_laws_eqMailS fu) msk_laws_eqMailS (lp_laws_eqMailS fu) 0 lc_laws_eqMailS_0 (back_laws_eqMailS_0 c w) (after (msk_laws_eqMailS 0) (msk_laws_eqMailS 100000) 0 it k) = Bk_laws_eqMailS_0 fu c k w (fun w => it (back_laws_eqMailS_0 c w)) := by kernel_rfl
theorem lpok_laws_eqMailS_0 (fu : Nat) : ∀ s k r, lp_laws_eqMailS fu 0 s k = some r → ∃ fuel, iter (msk_laws_eqMailS 0) (msk_laws_eqMailS 100000) s.objs.length (evCode E (pc_laws_eqMailS fu) msk_laws_eqMailS (lp_laws_eqMailS fu) 0 lc_laws_eqMailS_0) fuel s k = some r :=
  handle_ok (ps := ps_laws_eqMailS_0) (os := os_laws_eqMailS_0) (conv := conv_laws_eqMailS_0) (B := Bk_laws_eqMailS_0 fu) (fu := fu) back_laws_eqMailS_0 (fun raw => by kernel_rfl) 0 (fun c w => by kernel_rfl) (round_laws_eqMailS_0 fu)
theorem lpok_laws_eqMailS (fu : Nat) : LpOk E (pc_laws_eqMailS fu) msk_laws_eqMailS (lp_laws_eqMailS fu) (loops 0 body_laws_eqMailS) := loop_all 1 (by kernel_rfl) fun i hi => match i, hi with
  | 0, _ => by
    have h : (loops 0 body_laws_eqMailS).getD 0 (0, .skip) = (0, lc_laws_eqMailS_0) := by kernel_rfl
    rw [h]; exact lpok_laws_eqMailS_0 fu
  | i + 1, hi => absurd hi (by omega)
def S_laws_eqMailS (fu : Nat) (xs : List (D RT den)) : Option (Out RT den) := match xs with | [.rs za0_0 .impl_Mail na0_0 fa0_0, .rs za1_0 .impl_Mail na1_0 fa1_0] => some ⟨Bool, F_laws_eqMailS fu (⟨za0_0, na0_0, fa0_0⟩ : (Sl S_impl_Mail)) (⟨za1_0, na1_0, fa1_0⟩ : (Sl S_impl_Mail)), enc_bo, fun _ => true⟩ | _ => none
theorem hpc_laws_eqMailS (fu : Nat) : ∀ f xs o, pcf_laws_eqMailS fu f xs = some o → ∀ y, o.x = some y → Good E Try.prog f xs (o.g y) := by
  intro f xs o h
  unfold pcf_laws_eqMailS at h
  split at h
  · exact good_laws_eqMail fu xs o h
  · cases h
theorem hpx_laws_eqMailS (fu : Nat) : ∀ f xs ins o, pcx_laws_eqMailS fu f xs ins = some o → ∀ y, o.x = some y → GoodX E Try.prog f xs ins (o.g y).1 (o.g y).2 := by
  intro f xs ins o h
  cases h
theorem goodv_laws_eqMailS (fu : Nat) (a_0 : (Sl S_impl_Mail)) (b_1 : (Sl S_impl_Mail)) (y : Bool) (hy : F_laws_eqMailS fu a_0 b_1 = some y) : Good E Try.prog 63 [(.rs a_0.z .impl_Mail a_0.n a_0.f), (.rs b_1.z .impl_Mail b_1.n b_1.f)] (enc_bo y) :=
  fun_good E_ok (pc_good (pc := pc_laws_eqMailS fu) (hpc_laws_eqMailS fu) (hpx_laws_eqMailS fu)) (fn := Try.f63) (c := body_laws_eqMailS) (out := out_bo) (y := y) (by kernel_rfl) (by kernel_rfl) (by kernel_rfl) (lpok_laws_eqMailS fu) (fun d hd => out_bo_enc d _ hd) ((ev_laws_eqMailS fu a_0 b_1).trans hy)
theorem good_laws_eqMailS (fu : Nat) : ∀ xs o, S_laws_eqMailS fu xs = some o → ∀ y, o.x = some y → Good E Try.prog 63 xs (o.g y) := by
  intro xs o h y hy
  unfold S_laws_eqMailS at h
  split at h
  · rename_i za0_0 na0_0 fa0_0 za1_0 na1_0 fa1_0
    cases h
    exact goodv_laws_eqMailS fu (⟨za0_0, na0_0, fa0_0⟩ : (Sl S_impl_Mail)) (⟨za1_0, na1_0, fa1_0⟩ : (Sl S_impl_Mail)) y hy
  · cases h

/-! laws.eqNodeResult -/
def F_laws_eqNodeResult (fu : Nat) (a_0 : S_impl_NodeResult) (b_1 : S_impl_NodeResult) : Option (Bool) :=
  (bif (a_0.Code != b_1.Code) then (some false) else ((F_laws_eqNode fu a_0.Node b_1.Node).bind fun y213 => (bif (!y213) then (some false) else ((F_laws_eqMailS fu a_0.Send b_1.Send).bind fun y214 =>
    (bif (!y214) then (some false) else (some true))))))
def pcf_laws_eqNodeResult (fu : Nat) (f : Nat) (xs : List (D RT den)) : Option (Out RT den) := match f with | 34 => S_laws_eqNode fu xs | 63 => S_laws_eqMailS fu xs | _ => none
def pcx_laws_eqNodeResult (fu : Nat) (f : Nat) (xs : List (D RT den)) (ins : List (Ob RT den)) : Option (OutX RT den) := none
def pc_laws_eqNodeResult (fu : Nat) : Pc RT den := ⟨pcf_laws_eqNodeResult fu, fun _ => false, fun _ => false, pcx_laws_eqNodeResult fu⟩
def msk_laws_eqNodeResult (b : Nat) : List Nat := []
def lp_laws_eqNodeResult (fu : Nat) : Lp RT den (Bool) := fun b s k => none
theorem ev_laws_eqNodeResult (fu : Nat) (a_0 : S_impl_NodeResult) (b_1 : S_impl_NodeResult) : evFun E (pc_laws_eqNodeResult fu) msk_laws_eqNodeResult (lp_laws_eqNodeResult fu) out_bo 27 [(.agg [(.int .i64 a_0.Code), (.int .i64 a_0.Node.Id), (.int .i64 a_0.Node.Peers), (.int .i64 a_0.Node.Term), (.int .i64 a_0.Node.Voted), (.rs a_0.Node.Log.z .impl_Entry a_0.Node.Log.n a_0.Node.Log.f), (.int .i64 a_0.Node.Role), (.int .i64 a_0.Node.Commit), (.rs a_0.Node.Votes.z .i64 a_0.Node.Votes.n a_0.Node.Votes.f), (.rs a_0.Node.Next.z .i64 a_0.Node.Next.n a_0.Node.Next.f), (.rs a_0.Node.Match.z .i64 a_0.Node.Match.n a_0.Node.Match.f), (.rs a_0.Send.z .impl_Mail a_0.Send.n a_0.Send.f)]), (.agg [(.int .i64 b_1.Code), (.int .i64 b_1.Node.Id), (.int .i64 b_1.Node.Peers), (.int .i64 b_1.Node.Term), (.int .i64 b_1.Node.Voted), (.rs b_1.Node.Log.z .impl_Entry b_1.Node.Log.n b_1.Node.Log.f), (.int .i64 b_1.Node.Role), (.int .i64 b_1.Node.Commit), (.rs b_1.Node.Votes.z .i64 b_1.Node.Votes.n b_1.Node.Votes.f), (.rs b_1.Node.Next.z .i64 b_1.Node.Next.n b_1.Node.Next.f), (.rs b_1.Node.Match.z .i64 b_1.Node.Match.n b_1.Node.Match.f), (.rs b_1.Send.z .impl_Mail b_1.Send.n b_1.Send.f)])] = F_laws_eqNodeResult fu a_0 b_1 := by kernel_rfl
noncomputable def body_laws_eqNodeResult : Code := Try.f27.body.getD .skip
theorem lpok_laws_eqNodeResult (fu : Nat) : LpOk E (pc_laws_eqNodeResult fu) msk_laws_eqNodeResult (lp_laws_eqNodeResult fu) (loops 0 body_laws_eqNodeResult) := by
  have h : loops 0 body_laws_eqNodeResult = [] := by kernel_rfl
  rw [h]; intro p hp; cases hp
def S_laws_eqNodeResult (fu : Nat) (xs : List (D RT den)) : Option (Out RT den) := match xs with | [.agg [.int .i64 a0_1, .int .i64 a0_3, .int .i64 a0_4, .int .i64 a0_5, .int .i64 a0_6, .rs za0_7 .impl_Entry na0_7 fa0_7, .int .i64 a0_8, .int .i64 a0_9, .rs za0_10 .i64 na0_10 fa0_10, .rs za0_11 .i64 na0_11 fa0_11, .rs za0_12 .i64 na0_12 fa0_12, .rs za0_13 .impl_Mail na0_13 fa0_13], .agg [.int .i64 a1_1, .int .i64 a1_3, .int .i64 a1_4, .int .i64 a1_5, .int .i64 a1_6, .rs za1_7 .impl_Entry na1_7 fa1_7, .int .i64 a1_8, .int .i64 a1_9, .rs za1_10 .i64 na1_10 fa1_10, .rs za1_11 .i64 na1_11 fa1_11, .rs za1_12 .i64 na1_12 fa1_12, .rs za1_13 .impl_Mail na1_13 fa1_13]] => some ⟨Bool, F_laws_eqNodeResult fu (⟨a0_1, (⟨a0_3, a0_4, a0_5, a0_6, (⟨za0_7, na0_7, fa0_7⟩ : (Sl S_impl_Entry)), a0_8, a0_9, (⟨za0_10, na0_10, fa0_10⟩ : (Sl Int)), (⟨za0_11, na0_11, fa0_11⟩ : (Sl Int)), (⟨za0_12, na0_12, fa0_12⟩ : (Sl Int))⟩ : S_impl_Node), (⟨za0_13, na0_13, fa0_13⟩ : (Sl S_impl_Mail))⟩ : S_impl_NodeResult) (⟨a1_1, (⟨a1_3, a1_4, a1_5, a1_6, (⟨za1_7, na1_7, fa1_7⟩ : (Sl S_impl_Entry)), a1_8, a1_9, (⟨za1_10, na1_10, fa1_10⟩ : (Sl Int)), (⟨za1_11, na1_11, fa1_11⟩ : (Sl Int)), (⟨za1_12, na1_12, fa1_12⟩ : (Sl Int))⟩ : S_impl_Node), (⟨za1_13, na1_13, fa1_13⟩ : (Sl S_impl_Mail))⟩ : S_impl_NodeResult), enc_bo, fun _ => true⟩ | _ => none
theorem hpc_laws_eqNodeResult (fu : Nat) : ∀ f xs o, pcf_laws_eqNodeResult fu f xs = some o → ∀ y, o.x = some y → Good E Try.prog f xs (o.g y) := by
  intro f xs o h
  unfold pcf_laws_eqNodeResult at h
  split at h
  · exact good_laws_eqNode fu xs o h
  · exact good_laws_eqMailS fu xs o h
  · cases h
theorem hpx_laws_eqNodeResult (fu : Nat) : ∀ f xs ins o, pcx_laws_eqNodeResult fu f xs ins = some o → ∀ y, o.x = some y → GoodX E Try.prog f xs ins (o.g y).1 (o.g y).2 := by
  intro f xs ins o h
  cases h
theorem goodv_laws_eqNodeResult (fu : Nat) (a_0 : S_impl_NodeResult) (b_1 : S_impl_NodeResult) (y : Bool) (hy : F_laws_eqNodeResult fu a_0 b_1 = some y) : Good E Try.prog 27 [(.agg [(.int .i64 a_0.Code), (.int .i64 a_0.Node.Id), (.int .i64 a_0.Node.Peers), (.int .i64 a_0.Node.Term), (.int .i64 a_0.Node.Voted), (.rs a_0.Node.Log.z .impl_Entry a_0.Node.Log.n a_0.Node.Log.f), (.int .i64 a_0.Node.Role), (.int .i64 a_0.Node.Commit), (.rs a_0.Node.Votes.z .i64 a_0.Node.Votes.n a_0.Node.Votes.f), (.rs a_0.Node.Next.z .i64 a_0.Node.Next.n a_0.Node.Next.f), (.rs a_0.Node.Match.z .i64 a_0.Node.Match.n a_0.Node.Match.f), (.rs a_0.Send.z .impl_Mail a_0.Send.n a_0.Send.f)]), (.agg [(.int .i64 b_1.Code), (.int .i64 b_1.Node.Id), (.int .i64 b_1.Node.Peers), (.int .i64 b_1.Node.Term), (.int .i64 b_1.Node.Voted), (.rs b_1.Node.Log.z .impl_Entry b_1.Node.Log.n b_1.Node.Log.f), (.int .i64 b_1.Node.Role), (.int .i64 b_1.Node.Commit), (.rs b_1.Node.Votes.z .i64 b_1.Node.Votes.n b_1.Node.Votes.f), (.rs b_1.Node.Next.z .i64 b_1.Node.Next.n b_1.Node.Next.f), (.rs b_1.Node.Match.z .i64 b_1.Node.Match.n b_1.Node.Match.f), (.rs b_1.Send.z .impl_Mail b_1.Send.n b_1.Send.f)])] (enc_bo y) :=
  fun_good E_ok (pc_good (pc := pc_laws_eqNodeResult fu) (hpc_laws_eqNodeResult fu) (hpx_laws_eqNodeResult fu)) (fn := Try.f27) (c := body_laws_eqNodeResult) (out := out_bo) (y := y) (by kernel_rfl) (by kernel_rfl) (by kernel_rfl) (lpok_laws_eqNodeResult fu) (fun d hd => out_bo_enc d _ hd) ((ev_laws_eqNodeResult fu a_0 b_1).trans hy)
theorem good_laws_eqNodeResult (fu : Nat) : ∀ xs o, S_laws_eqNodeResult fu xs = some o → ∀ y, o.x = some y → Good E Try.prog 27 xs (o.g y) := by
  intro xs o h y hy
  unfold S_laws_eqNodeResult at h
  split at h
  · rename_i a0_1 a0_3 a0_4 a0_5 a0_6 za0_7 na0_7 fa0_7 a0_8 a0_9 za0_10 na0_10 fa0_10 za0_11 na0_11 fa0_11 za0_12 na0_12 fa0_12 za0_13 na0_13 fa0_13 a1_1 a1_3 a1_4 a1_5 a1_6 za1_7 na1_7 fa1_7 a1_8 a1_9 za1_10 na1_10 fa1_10 za1_11 na1_11 fa1_11 za1_12 na1_12 fa1_12 za1_13 na1_13 fa1_13
    cases h
    exact goodv_laws_eqNodeResult fu (⟨a0_1, (⟨a0_3, a0_4, a0_5, a0_6, (⟨za0_7, na0_7, fa0_7⟩ : (Sl S_impl_Entry)), a0_8, a0_9, (⟨za0_10, na0_10, fa0_10⟩ : (Sl Int)), (⟨za0_11, na0_11, fa0_11⟩ : (Sl Int)), (⟨za0_12, na0_12, fa0_12⟩ : (Sl Int))⟩ : S_impl_Node), (⟨za0_13, na0_13, fa0_13⟩ : (Sl S_impl_Mail))⟩ : S_impl_NodeResult) (⟨a1_1, (⟨a1_3, a1_4, a1_5, a1_6, (⟨za1_7, na1_7, fa1_7⟩ : (Sl S_impl_Entry)), a1_8, a1_9, (⟨za1_10, na1_10, fa1_10⟩ : (Sl Int)), (⟨za1_11, na1_11, fa1_11⟩ : (Sl Int)), (⟨za1_12, na1_12, fa1_12⟩ : (Sl Int))⟩ : S_impl_Node), (⟨za1_13, na1_13, fa1_13⟩ : (Sl S_impl_Mail))⟩ : S_impl_NodeResult) y hy
  · cases h

/-! laws.heldInt64S -/
def F_laws_heldInt64S_B0 {ρ : Type} (fu : Nat) (a0_0 : (Sl Int)) (k0 : Int → Option ρ) (k1 : Int → Option ρ) (k1_1 : Int) (i5_2 : Int) (go : Int → Int → Option ρ) : Option ρ :=
  (bif (decide (i5_2 < ((a0_0.n : Nat) : Int))) then ((bif (decide (0 ≤ i5_2) && decide ((Int.toNat i5_2) < a0_0.n)) then some () else none : Option Unit).bind fun _ => (bif ((a0_0.f (Int.toNat i5_2)) != k1_1) then
    (k0 k1_1) else (go (IntKind.wrap .i64 (k1_1 + 1)) (IntKind.wrap .i64 (i5_2 + 1))))) else (k1 k1_1))
def F_laws_heldInt64S (fu : Nat) (a_0 : (Sl Int)) (k_1 : Int) : Option (Int) :=
  (L (fun w0 go0 => F_laws_heldInt64S_B0 fu a_0 (fun z227 => (some (-1))) (fun z228 => (some z228)) w0.1 w0.2 (fun q0 q1 => go0 (q0, q1))) fu ((k_1, 0) : Int × Int))
def pcf_laws_heldInt64S (fu : Nat) (f : Nat) (xs : List (D RT den)) : Option (Out RT den) := none
def pcx_laws_heldInt64S (fu : Nat) (f : Nat) (xs : List (D RT den)) (ins : List (Ob RT den)) : Option (OutX RT den) := none
def pc_laws_heldInt64S (fu : Nat) : Pc RT den := ⟨pcf_laws_heldInt64S fu, fun _ => false, fun _ => false, pcx_laws_heldInt64S fu⟩
def msk_laws_heldInt64S (b : Nat) : List Nat := match b with | 0 => [2, 3, 4, 6, 7, 8, 9, 10, 11, 12, 13, 14, 15, 16, 17, 18, 19, 20] | 100000 => [0, 2, 3, 5, 6, 7, 8, 9, 10, 11, 12, 13, 14, 15, 16, 17, 18, 19, 20] | _ => []
def ps_laws_heldInt64S_0 : List (Pat RT) := [.flat (.rs .i64), .flat (.int .i64), .flat .dead, .flat .dead, .flat .dead, .flat (.int .i64), .flat .dead, .flat .dead, .flat .dead, .flat .dead, .flat .dead, .flat .dead, .flat .dead, .flat .dead, .flat .dead, .flat .dead, .flat .dead, .flat .dead, .flat .dead, .flat .dead, .flat .dead]
def os_laws_heldInt64S_0 : List (OP RT) := []
def conv_laws_heldInt64S_0 (r : Raw den ps_laws_heldInt64S_0 os_laws_heldInt64S_0) : ((Sl Int)) × (Int × Int) := (r.1.1, (r.1.2.1, r.1.2.2.2.2.2.1))
def back_laws_heldInt64S_0 (c : (Sl Int)) (w : Int × Int) : St RT den := ⟨[(.rs c.z .i64 c.n c.f), (.int .i64 w.1), .dead, .dead, .dead, (.int .i64 w.2), .dead, .dead, .dead, .dead, .dead, .dead, .dead, .dead, .dead, .dead, .dead, .dead, .dead, .dead, .dead], []⟩
def Bk_laws_heldInt64S_0 {ρ : Type} (fu : Nat) (c : (Sl Int)) (k : Ex → St RT den → Option ρ) (w : Int × Int) (go : (Int × Int) → Option ρ) : Option ρ := F_laws_heldInt64S_B0 fu c (fun a0 => k .ret ⟨[.dead, (.int .i64 a0), .dead, .dead, (.int .i64 (-1)), .dead, .dead, .dead, .dead, .dead, .dead, .dead, .dead, .dead, .dead, .dead, .dead, .dead, .dead, .dead, .dead], []⟩) (fun a0 => k (.exit 0) ⟨[.dead, (.int .i64 a0), .dead, .dead, .dead, .dead, .dead, .dead, .dead, .dead, .dead, .dead, .dead, .dead, .dead, .dead, .dead, .dead, .dead, .dead, .dead], []⟩) w.1 w.2 (fun q0 q1 => go (q0, q1))
def lp_laws_heldInt64S (fu : Nat) : Lp RT den (Int) := fun b s k => match b with | 0 => handle ps_laws_heldInt64S_0 os_laws_heldInt64S_0 conv_laws_heldInt64S_0 (Bk_laws_heldInt64S_0 fu) fu s k | _ => none
theorem ev_laws_heldInt64S (fu : Nat) (a_0 : (Sl Int)) (k_1 : Int) : evFun E (pc_laws_heldInt64S fu) msk_laws_heldInt64S (lp_laws_heldInt64S fu) out_i64 88 [(.rs a_0.z .i64 a_0.n a_0.f), (.int .i64 k_1)] = F_laws_heldInt64S fu a_0 k_1 := by kernel_rfl
noncomputable def body_laws_heldInt64S : Code := Try.f88.body.getD .skip
noncomputable def lc_laws_heldInt64S_0 : Code := ((loops 0 body_laws_heldInt64S).getD 0 (0, .skip)).2
theorem round_laws_heldInt64S_0 (fu : Nat) (it : St RT den → Option (Int)) (k : Ex → St RT den → Option (Int)) c w : evCode E (pc_laws_heldInt64S fu) msk_laws_heldInt64S (lp_laws_heldInt64S fu) 0 lc_laws_heldInt64S_0 (back_laws_heldInt64S_0 c w) (after (msk_laws_heldInt64S 0) (msk_laws_heldInt64S 100000) 0 it k) = Bk_laws_heldInt64S_0 fu c k w (fun w => it (back_laws_heldInt64S_0 c w)) := by kernel_rfl
theorem lpok_laws_heldInt64S_0 (fu : Nat) : ∀ s k r, lp_laws_heldInt64S fu 0 s k = some r → ∃ fuel, iter (msk_laws_heldInt64S 0) (msk_laws_heldInt64S 100000) s.objs.length (evCode E (pc_laws_heldInt64S fu) msk_laws_heldInt64S (lp_laws_heldInt64S fu) 0 lc_laws_heldInt64S_0) fuel s k = some r :=
  handle_ok (ps := ps_laws_heldInt64S_0) (os := os_laws_heldInt64S_0) (conv := conv_laws_heldInt64S_0) (B := Bk_laws_heldInt64S_0 fu) (fu := fu) back_laws_heldInt64S_0 (fun raw => by kernel_rfl) 0 (fun c w => by kernel_rfl) (round_laws_heldInt64S_0 fu)
theorem lpok_laws_heldInt64S (fu : Nat) : LpOk E (pc_laws_heldInt64S fu) msk_laws_heldInt64S (lp_laws_heldInt64S fu) (loops 0 body_laws_heldInt64S) := loop_all 1 (by kernel_rfl) fun i hi => match i, hi with
  | 0, _ => by
    have h : (loops 0 body_laws_heldInt64S).getD 0 (0, .skip) = (0, lc_laws_heldInt64S_0) := by kernel_rfl
    rw [h]; exact lpok_laws_heldInt64S_0 fu
  | i + 1, hi => absurd hi (by omega)
def S_laws_heldInt64S (fu : Nat) (xs : List (D RT den)) : Option (Out RT den) := match xs with | [.rs za0_0 .i64 na0_0 fa0_0, .int .i64 a1_0] => some ⟨Int, F_laws_heldInt64S fu (⟨za0_0, na0_0, fa0_0⟩ : (Sl Int)) a1_0, enc_i64, fun _ => true⟩ | _ => none
theorem hpc_laws_heldInt64S (fu : Nat) : ∀ f xs o, pcf_laws_heldInt64S fu f xs = some o → ∀ y, o.x = some y → Good E Try.prog f xs (o.g y) := by
  intro f xs o h
  cases h
theorem hpx_laws_heldInt64S (fu : Nat) : ∀ f xs ins o, pcx_laws_heldInt64S fu f xs ins = some o → ∀ y, o.x = some y → GoodX E Try.prog f xs ins (o.g y).1 (o.g y).2 := by
  intro f xs ins o h
  cases h
theorem goodv_laws_heldInt64S (fu : Nat) (a_0 : (Sl Int)) (k_1 : Int) (y : Int) (hy : F_laws_heldInt64S fu a_0 k_1 = some y) : Good E Try.prog 88 [(.rs a_0.z .i64 a_0.n a_0.f), (.int .i64 k_1)] (enc_i64 y) :=
  fun_good E_ok (pc_good (pc := pc_laws_heldInt64S fu) (hpc_laws_heldInt64S fu) (hpx_laws_heldInt64S fu)) (fn := Try.f88) (c := body_laws_heldInt64S) (out := out_i64) (y := y) (by kernel_rfl) (by kernel_rfl) (by kernel_rfl) (lpok_laws_heldInt64S fu) (fun d hd => out_i64_enc d _ hd) ((ev_laws_heldInt64S fu a_0 k_1).trans hy)
theorem good_laws_heldInt64S (fu : Nat) : ∀ xs o, S_laws_heldInt64S fu xs = some o → ∀ y, o.x = some y → Good E Try.prog 88 xs (o.g y) := by
  intro xs o h y hy
  unfold S_laws_heldInt64S at h
  split at h
  · rename_i za0_0 na0_0 fa0_0 a1_0
    cases h
    exact goodv_laws_heldInt64S fu (⟨za0_0, na0_0, fa0_0⟩ : (Sl Int)) a1_0 y hy
  · cases h

/-! laws.heldNode -/
def F_laws_heldNode (fu : Nat) (a_0 : S_impl_Node) (k_1 : Int) : Option (Int) :=
  ((F_laws_heldEntryS fu a_0.Log k_1).bind fun y223 => (bif (decide (y223 < 0)) then (some (-1)) else ((F_laws_heldInt64S fu a_0.Votes y223).bind fun y224 => (bif (decide (y224 < 0)) then
    (some (-1)) else ((F_laws_heldInt64S fu a_0.Next y224).bind fun y225 => (bif (decide (y225 < 0)) then (some (-1)) else ((F_laws_heldInt64S fu a_0.Match y225).bind fun y226 =>
    (bif (decide (y226 < 0)) then (some (-1)) else (some y226)))))))))
def pcf_laws_heldNode (fu : Nat) (f : Nat) (xs : List (D RT den)) : Option (Out RT den) := match f with | 48 => S_laws_heldEntryS fu xs | 88 => S_laws_heldInt64S fu xs | _ => none
def pcx_laws_heldNode (fu : Nat) (f : Nat) (xs : List (D RT den)) (ins : List (Ob RT den)) : Option (OutX RT den) := none
def pc_laws_heldNode (fu : Nat) : Pc RT den := ⟨pcf_laws_heldNode fu, fun _ => false, fun _ => false, pcx_laws_heldNode fu⟩
def msk_laws_heldNode (b : Nat) : List Nat := []
def lp_laws_heldNode (fu : Nat) : Lp RT den (Int) := fun b s k => none
theorem ev_laws_heldNode (fu : Nat) (a_0 : S_impl_Node) (k_1 : Int) : evFun E (pc_laws_heldNode fu) msk_laws_heldNode (lp_laws_heldNode fu) out_i64 65 [(.agg [(.int .i64 a_0.Id), (.int .i64 a_0.Peers), (.int .i64 a_0.Term), (.int .i64 a_0.Voted), (.rs a_0.Log.z .impl_Entry a_0.Log.n a_0.Log.f), (.int .i64 a_0.Role), (.int .i64 a_0.Commit), (.rs a_0.Votes.z .i64 a_0.Votes.n a_0.Votes.f), (.rs a_0.Next.z .i64 a_0.Next.n a_0.Next.f), (.rs a_0.Match.z .i64 a_0.Match.n a_0.Match.f)]), (.int .i64 k_1)] = F_laws_heldNode fu a_0 k_1 := by kernel_rfl
noncomputable def body_laws_heldNode : Code := Try.f65.body.getD .skip
theorem lpok_laws_heldNode (fu : Nat) : LpOk E (pc_laws_heldNode fu) msk_laws_heldNode (lp_laws_heldNode fu) (loops 0 body_laws_heldNode) := by
  have h : loops 0 body_laws_heldNode = [] := by kernel_rfl
  rw [h]; intro p hp; cases hp
def S_laws_heldNode (fu : Nat) (xs : List (D RT den)) : Option (Out RT den) := match xs with | [.agg [.int .i64 a0_1, .int .i64 a0_2, .int .i64 a0_3, .int .i64 a0_4, .rs za0_5 .impl_Entry na0_5 fa0_5, .int .i64 a0_6, .int .i64 a0_7, .rs za0_8 .i64 na0_8 fa0_8, .rs za0_9 .i64 na0_9 fa0_9, .rs za0_10 .i64 na0_10 fa0_10], .int .i64 a1_0] => some ⟨Int, F_laws_heldNode fu (⟨a0_1, a0_2, a0_3, a0_4, (⟨za0_5, na0_5, fa0_5⟩ : (Sl S_impl_Entry)), a0_6, a0_7, (⟨za0_8, na0_8, fa0_8⟩ : (Sl Int)), (⟨za0_9, na0_9, fa0_9⟩ : (Sl Int)), (⟨za0_10, na0_10, fa0_10⟩ : (Sl Int))⟩ : S_impl_Node) a1_0, enc_i64, fun _ => true⟩ | _ => none
theorem hpc_laws_heldNode (fu : Nat) : ∀ f xs o, pcf_laws_heldNode fu f xs = some o → ∀ y, o.x = some y → Good E Try.prog f xs (o.g y) := by
  intro f xs o h
  unfold pcf_laws_heldNode at h
  split at h
  · exact good_laws_heldEntryS fu xs o h
  · exact good_laws_heldInt64S fu xs o h
  · cases h
theorem hpx_laws_heldNode (fu : Nat) : ∀ f xs ins o, pcx_laws_heldNode fu f xs ins = some o → ∀ y, o.x = some y → GoodX E Try.prog f xs ins (o.g y).1 (o.g y).2 := by
  intro f xs ins o h
  cases h
theorem goodv_laws_heldNode (fu : Nat) (a_0 : S_impl_Node) (k_1 : Int) (y : Int) (hy : F_laws_heldNode fu a_0 k_1 = some y) : Good E Try.prog 65 [(.agg [(.int .i64 a_0.Id), (.int .i64 a_0.Peers), (.int .i64 a_0.Term), (.int .i64 a_0.Voted), (.rs a_0.Log.z .impl_Entry a_0.Log.n a_0.Log.f), (.int .i64 a_0.Role), (.int .i64 a_0.Commit), (.rs a_0.Votes.z .i64 a_0.Votes.n a_0.Votes.f), (.rs a_0.Next.z .i64 a_0.Next.n a_0.Next.f), (.rs a_0.Match.z .i64 a_0.Match.n a_0.Match.f)]), (.int .i64 k_1)] (enc_i64 y) :=
  fun_good E_ok (pc_good (pc := pc_laws_heldNode fu) (hpc_laws_heldNode fu) (hpx_laws_heldNode fu)) (fn := Try.f65) (c := body_laws_heldNode) (out := out_i64) (y := y) (by kernel_rfl) (by kernel_rfl) (by kernel_rfl) (lpok_laws_heldNode fu) (fun d hd => out_i64_enc d _ hd) ((ev_laws_heldNode fu a_0 k_1).trans hy)
theorem good_laws_heldNode (fu : Nat) : ∀ xs o, S_laws_heldNode fu xs = some o → ∀ y, o.x = some y → Good E Try.prog 65 xs (o.g y) := by
  intro xs o h y hy
  unfold S_laws_heldNode at h
  split at h
  · rename_i a0_1 a0_2 a0_3 a0_4 za0_5 na0_5 fa0_5 a0_6 a0_7 za0_8 na0_8 fa0_8 za0_9 na0_9 fa0_9 za0_10 na0_10 fa0_10 a1_0
    cases h
    exact goodv_laws_heldNode fu (⟨a0_1, a0_2, a0_3, a0_4, (⟨za0_5, na0_5, fa0_5⟩ : (Sl S_impl_Entry)), a0_6, a0_7, (⟨za0_8, na0_8, fa0_8⟩ : (Sl Int)), (⟨za0_9, na0_9, fa0_9⟩ : (Sl Int)), (⟨za0_10, na0_10, fa0_10⟩ : (Sl Int))⟩ : S_impl_Node) a1_0 y hy
  · cases h

/-! laws.heldMailS -/
def F_laws_heldMailS_B0 {ρ : Type} (fu : Nat) (a0_0 : (Sl S_impl_Mail)) (k0 : Int → Option ρ) (k1 : Int → Option ρ) (k1_1 : Int) (i5_2 : Int) (go : Int → Int → Option ρ) : Option ρ :=
  (bif (decide (i5_2 < ((a0_0.n : Nat) : Int))) then ((bif (decide (0 ≤ i5_2) && decide ((Int.toNat i5_2) < a0_0.n)) then some () else none : Option Unit).bind fun _ => (bif ((a0_0.f (Int.toNat i5_2)).Kind != k1_1) then
    (k0 k1_1) else ((bif (decide (0 ≤ i5_2) && decide ((Int.toNat i5_2) < a0_0.n)) then some () else none : Option Unit).bind fun _ => (bif ((a0_0.f (Int.toNat i5_2)).From != (IntKind.wrap .i64 (k1_1 + 1))) then
    (k0 (IntKind.wrap .i64 (k1_1 + 1))) else ((bif (decide (0 ≤ i5_2) && decide ((Int.toNat i5_2) < a0_0.n)) then some () else none : Option Unit).bind fun _ => (bif ((a0_0.f (Int.toNat i5_2)).To != (IntKind.wrap .i64 ((IntKind.wrap .i64 (k1_1 + 1)) + 1))) then
    (k0 (IntKind.wrap .i64 ((IntKind.wrap .i64 (k1_1 + 1)) + 1))) else ((bif (decide (0 ≤ i5_2) && decide ((Int.toNat i5_2) < a0_0.n)) then some () else none : Option Unit).bind fun _ =>
    (bif ((a0_0.f (Int.toNat i5_2)).Term != (IntKind.wrap .i64 ((IntKind.wrap .i64 ((IntKind.wrap .i64 (k1_1 + 1)) + 1)) + 1))) then (k0 (IntKind.wrap .i64 ((IntKind.wrap .i64 ((IntKind.wrap .i64 (k1_1 + 1)) + 1)) + 1))) else
    ((bif (decide (0 ≤ i5_2) && decide ((Int.toNat i5_2) < a0_0.n)) then some () else none : Option Unit).bind fun _ => (bif ((a0_0.f (Int.toNat i5_2)).Index != (IntKind.wrap .i64 ((IntKind.wrap .i64 ((IntKind.wrap .i64 ((IntKind.wrap .i64 (k1_1 + 1)) + 1)) + 1)) + 1))) then
    (k0 (IntKind.wrap .i64 ((IntKind.wrap .i64 ((IntKind.wrap .i64 ((IntKind.wrap .i64 (k1_1 + 1)) + 1)) + 1)) + 1))) else ((bif (decide (0 ≤ i5_2) && decide ((Int.toNat i5_2) < a0_0.n)) then
    some () else none : Option Unit).bind fun _ => (bif ((a0_0.f (Int.toNat i5_2)).Last != (IntKind.wrap .i64 ((IntKind.wrap .i64 ((IntKind.wrap .i64 ((IntKind.wrap .i64 ((IntKind.wrap .i64 (k1_1 + 1)) + 1)) + 1)) + 1)) + 1))) then
    (k0 (IntKind.wrap .i64 ((IntKind.wrap .i64 ((IntKind.wrap .i64 ((IntKind.wrap .i64 ((IntKind.wrap .i64 (k1_1 + 1)) + 1)) + 1)) + 1)) + 1))) else ((bif (decide (0 ≤ i5_2) &&
    decide ((Int.toNat i5_2) < a0_0.n)) then some () else none : Option Unit).bind fun _ => (bif ((a0_0.f (Int.toNat i5_2)).Commit != (IntKind.wrap .i64 ((IntKind.wrap .i64 ((IntKind.wrap .i64 ((IntKind.wrap .i64 ((IntKind.wrap .i64 ((IntKind.wrap .i64 (k1_1 + 1)) + 1)) + 1)) + 1)) + 1)) + 1))) then
    (k0 (IntKind.wrap .i64 ((IntKind.wrap .i64 ((IntKind.wrap .i64 ((IntKind.wrap .i64 ((IntKind.wrap .i64 ((IntKind.wrap .i64 (k1_1 + 1)) + 1)) + 1)) + 1)) + 1)) + 1))) else ((bif (decide (0 ≤ i5_2) &&
    decide ((Int.toNat i5_2) < a0_0.n)) then some () else none : Option Unit).bind fun _ => (bif (!((a0_0.f (Int.toNat i5_2)).Ok == ((Int.tmod (IntKind.wrap .i64 ((IntKind.wrap .i64 ((IntKind.wrap .i64 ((IntKind.wrap .i64 ((IntKind.wrap .i64 ((IntKind.wrap .i64 ((IntKind.wrap .i64 (k1_1 + 1)) + 1)) + 1)) + 1)) + 1)) + 1)) + 1)) 3) == 0))) then
    (k0 (IntKind.wrap .i64 ((IntKind.wrap .i64 ((IntKind.wrap .i64 ((IntKind.wrap .i64 ((IntKind.wrap .i64 ((IntKind.wrap .i64 ((IntKind.wrap .i64 (k1_1 + 1)) + 1)) + 1)) + 1)) + 1)) + 1)) + 1))) else
    ((bif (decide (0 ≤ i5_2) && decide ((Int.toNat i5_2) < a0_0.n)) then some () else none : Option Unit).bind fun _ => ((F_laws_heldEntryS fu (a0_0.f (Int.toNat i5_2)).Entries (IntKind.wrap .i64 ((IntKind.wrap .i64 ((IntKind.wrap .i64 ((IntKind.wrap .i64 ((IntKind.wrap .i64 ((IntKind.wrap .i64 ((IntKind.wrap .i64 ((IntKind.wrap .i64 (k1_1 + 1)) + 1)) + 1)) + 1)) + 1)) + 1)) + 1)) + 1))).bind fun y229 =>
    (bif (decide (y229 < 0)) then (k0 y229) else (go y229 (IntKind.wrap .i64 (i5_2 + 1)))))))))))))))))))))) else (k1 k1_1))
def F_laws_heldMailS (fu : Nat) (a_0 : (Sl S_impl_Mail)) (k_1 : Int) : Option (Int) :=
  (L (fun w0 go0 => F_laws_heldMailS_B0 fu a_0 (fun z230 => (some (-1))) (fun z231 => (some z231)) w0.1 w0.2 (fun q0 q1 => go0 (q0, q1))) fu ((k_1, 0) : Int × Int))
def pcf_laws_heldMailS (fu : Nat) (f : Nat) (xs : List (D RT den)) : Option (Out RT den) := match f with | 48 => S_laws_heldEntryS fu xs | _ => none
def pcx_laws_heldMailS (fu : Nat) (f : Nat) (xs : List (D RT den)) (ins : List (Ob RT den)) : Option (OutX RT den) := none
def pc_laws_heldMailS (fu : Nat) : Pc RT den := ⟨pcf_laws_heldMailS fu, fun _ => false, fun _ => false, pcx_laws_heldMailS fu⟩
def msk_laws_heldMailS (b : Nat) : List Nat := match b with | 0 => [2, 3, 4, 6, 7, 8, 9, 10, 11, 12, 13, 14, 15, 16, 17, 18, 19, 20, 21, 22, 23, 24, 25, 26, 27, 28, 29, 30, 31, 32, 33, 34, 35, 36, 37, 38, 39, 40, 41, 42, 43, 44, 45, 46, 47, 48, 49, 50, 51, 52, 53, 54, 55, 56, 57, 58, 59, 60, 61, 62, 63, 64, 65, 66, 67, 68, 69, 70, 71, 72, 73, 74, 75, 76, 77, 78, 79, 80, 81, 82, 83, 84, 85, 86, 87, 88, 89, 90, 91, 92, 93, 94, 95] | 100000 => [0, 2, 3, 5, 6, 7, 8, 9, 10, 11, 12, 13, 14, 15, 16, 17, 18, 19, 20, 21, 22, 23, 24, 25, 26, 27, 28, 29, 30, 31, 32, 33, 34, 35, 36, 37, 38, 39, 40, 41, 42, 43, 44, 45, 46, 47, 48, 49, 50, 51, 52, 53, 54, 55, 56, 57, 58, 59, 60, 61, 62, 63, 64, 65, 66, 67, 68, 69, 70, 71, 72, 73, 74, 75, 76, 77, 78, 79, 80, 81, 82, 83, 84, 85, 86, 87, 88, 89, 90, 91, 92, 93, 94, 95] | _ => []
def ps_laws_heldMailS_0 : List (Pat RT) := [.flat (.rs .impl_Mail), .flat (.int .i64), .flat .dead, .flat .dead, .flat .dead, .flat (.int .i64), .flat .dead, .flat .dead, .flat .dead, .flat .dead, .flat .dead, .flat .dead, .flat .dead, .flat .dead, .flat .dead, .flat .dead, .flat .dead, .flat .dead, .flat .dead, .flat .dead, .flat .dead, .flat .dead, .flat .dead, .flat .dead, .flat .dead, .flat .dead, .flat .dead, .flat .dead, .flat .dead, .flat .dead, .flat .dead, .flat .dead, .flat .dead, .flat .dead, .flat .dead, .flat .dead, .flat .dead, .flat .dead, .flat .dead, .flat .dead, .flat .dead, .flat .dead, .flat .dead, .flat .dead, .flat .dead, .flat .dead, .flat .dead, .flat .dead, .flat .dead, .flat .dead, .flat .dead, .flat .dead, .flat .dead, .flat .dead, .flat .dead, .flat .dead, .flat .dead, .flat .dead, .flat .dead, .flat .dead, .flat .dead, .flat .dead, .flat .dead, .flat .dead, .flat .dead, .flat .dead, .flat .dead, .flat .dead, .flat .dead, .flat .dead, .flat .dead, .flat .dead, .flat .dead, .flat .dead, .flat .dead, .flat .dead, .flat .dead, .flat .dead, .flat .dead, .flat .dead, .flat .dead, .flat .dead, .flat .dead, .flat .dead, .flat .dead, .flat .dead, .flat .dead, .flat .dead, .flat .dead, .flat .dead, .flat .dead, .flat .dead, .flat .dead, .flat .dead, .flat .dead, .flat .dead]
def os_laws_heldMailS_0 : List (OP RT) := []
def conv_laws_heldMailS_0 (r : Raw den ps_laws_heldMailS_0 os_laws_heldMailS_0) : ((Sl S_impl_Mail)) × (Int × Int) := (r.1.1, (r.1.2.1, r.1.2.2.2.2.2.1))
def back_laws_heldMailS_0 (c : (Sl S_impl_Mail)) (w : Int × Int) : St RT den := ⟨[(.rs c.z .impl_Mail c.n c.f), (.int .i64 w.1), .dead, .dead, .dead, (.int .i64 w.2), .dead, .dead, .dead, .dead, .dead, .dead, .dead, .dead, .dead, .dead, .dead, .dead, .dead, .dead, .dead, .dead, .dead, .dead, .dead, .dead, .dead, .dead, .dead, .dead, .dead, .dead, .dead, .dead, .dead, .dead, .dead, .dead, .dead, .dead, .dead, .dead, .dead, .dead, .dead, .dead, .dead, .dead, .dead, .dead, .dead, .dead, .dead, .dead, .dead, .dead, .dead, .dead, .dead, .dead, .dead, .dead, .dead, .dead, .dead, .dead, .dead, .dead, .dead, .dead, .dead, .dead, .dead, .dead, .dead, .dead, .dead, .dead, .dead, .dead, .dead, .dead, .dead, .dead, .dead, .dead, .dead, .dead, .dead, .dead, .dead, .dead, .dead, .dead, .dead, .dead], []⟩
def Bk_laws_heldMailS_0 {ρ : Type} (fu : Nat) (c : (Sl S_impl_Mail)) (k : Ex → St RT den → Option ρ) (w : Int × Int) (go : (Int × Int) → Option ρ) : Option ρ := F_laws_heldMailS_B0 fu c (fun a0 => k .ret ⟨[.dead, (.int .i64 a0), .dead, .dead, (.int .i64 (-1)), .dead, .dead, .dead, .dead, .dead, .dead, .dead, .dead, .dead, .dead, .dead, .dead, .dead, .dead, .dead, .dead, .dead, .dead, .dead, .dead, .dead, .dead, .dead, .dead, .dead, .dead, .dead, .dead, .dead, .dead, .dead, .dead, .dead, .dead, .dead, .dead, .dead, .dead, .dead, .dead, .dead, .dead, .dead, .dead, .dead, .dead, .dead, .dead, .dead, .dead, .dead, .dead, .dead, .dead, .dead, .dead, .dead, .dead, .dead, .dead, .dead, .dead, .dead, .dead, .dead, .dead, .dead, .dead, .dead, .dead, .dead, .dead, .dead, .dead, .dead, .dead, .dead, .dead, .dead, .dead, .dead, .dead, .dead, .dead, .dead, .dead, .dead, .dead, .dead, .dead, .dead], []⟩) (fun a0 => k (.exit 0) ⟨[.dead, (.int .i64 a0), .dead, .dead, .dead, .dead, .dead, .dead, .dead, .dead, .dead, .dead, .dead, .dead, .dead, .dead, .dead, .dead, .dead, .dead, .dead, .dead, .dead, .dead, .dead, .dead, .dead, .dead, .dead, .dead, .dead, .dead, .dead, .dead, .dead, .dead, .dead, .dead, .dead, .dead, .dead, .dead, .dead, .dead, .dead, .dead, .dead, .dead, .dead, .dead, .dead, .dead, .dead, .dead, .dead, .dead, .dead, .dead, .dead, .dead, .dead, .dead, .dead, .dead, .dead, .dead, .dead, .dead, .dead, .dead, .dead, .dead, .dead, .dead, .dead, .dead, .dead, .dead, .dead, .dead, .dead, .dead, .dead, .dead, .dead, .dead, .dead, .dead, .dead, .dead, .dead, .dead, .dead, .dead, .dead, .dead], []⟩) w.1 w.2 (fun q0 q1 => go (q0, q1))
def lp_laws_heldMailS (fu : Nat) : Lp RT den (Int) := fun b s k => match b with | 0 => handle ps_laws_heldMailS_0 os_laws_heldMailS_0 conv_laws_heldMailS_0 (Bk_laws_heldMailS_0 fu) fu s k | _ => none
theorem ev_laws_heldMailS (fu : Nat) (a_0 : (Sl S_impl_Mail)) (k_1 : Int) : evFun E (pc_laws_heldMailS fu) msk_laws_heldMailS (lp_laws_heldMailS fu) out_i64 66 [(.rs a_0.z .impl_Mail a_0.n a_0.f), (.int .i64 k_1)] = F_laws_heldMailS fu a_0 k_1 := by kernel_rfl
noncomputable def body_laws_heldMailS : Code := Try.f66.body.getD .skip
noncomputable def lc_laws_heldMailS_0 : Code := ((loops 0 body_laws_heldMailS).getD 0 (0, .skip)).2
theorem round_laws_heldMailS_0 (fu : Nat) (it : St RT den → Option (Int)) (k : Ex → St RT den → Option (Int)) c w : evCode E (pc_laws_heldMailS fu) msk_laws_heldMailS (lp_laws_heldMailS fu) 0 lc_laws_heldMailS_0 (back_laws_heldMailS_0 c w) (after (msk_laws_heldMailS 0) (msk_laws_heldMailS 100000) 0 it k) = Bk_laws_heldMailS_0 fu c k w (fun w => it (back_laws_heldMailS_0 c w)) := by kernel_rfl
theorem lpok_laws_heldMailS_0 (fu : Nat) : ∀ s k r, lp_laws_heldMailS fu 0 s k = some r → ∃ fuel, iter (msk_laws_heldMailS 0) (msk_laws_heldMailS 100000) s.objs.length (evCode E (pc_laws_heldMailS fu) msk_laws_heldMailS (lp_laws_heldMailS fu) 0 lc_laws_heldMailS_0) fuel s k = some r :=
  handle_ok (ps := ps_laws_heldMailS_0) (os := os_laws_heldMailS_0) (conv := conv_laws_heldMailS_0) (B := Bk_laws_heldMailS_0 fu) (fu := fu) back_laws_heldMailS_0 (fun raw => by kernel_rfl) 0 (fun c w => by kernel_rfl) (round_laws_heldMailS_0 fu)
theorem lpok_laws_heldMailS (fu : Nat) : LpOk E (pc_laws_heldMailS fu) msk_laws_heldMailS (lp_laws_heldMailS fu) (loops 0 body_laws_heldMailS) := loop_all 1 (by kernel_rfl) fun i hi => match i, hi with
  | 0, _ => by
    have h : (loops 0 body_laws_heldMailS).getD 0 (0, .skip) = (0, lc_laws_heldMailS_0) := by kernel_rfl
    rw [h]; exact lpok_laws_heldMailS_0 fu
  | i + 1, hi => absurd hi (by omega)
def S_laws_heldMailS (fu : Nat) (xs : List (D RT den)) : Option (Out RT den) := match xs with | [.rs za0_0 .impl_Mail na0_0 fa0_0, .int .i64 a1_0] => some ⟨Int, F_laws_heldMailS fu (⟨za0_0, na0_0, fa0_0⟩ : (Sl S_impl_Mail)) a1_0, enc_i64, fun _ => true⟩ | _ => none
theorem hpc_laws_heldMailS (fu : Nat) : ∀ f xs o, pcf_laws_heldMailS fu f xs = some o → ∀ y, o.x = some y → Good E Try.prog f xs (o.g y) := by
  intro f xs o h
  unfold pcf_laws_heldMailS at h
  split at h
  · exact good_laws_heldEntryS fu xs o h
  · cases h
theorem hpx_laws_heldMailS (fu : Nat) : ∀ f xs ins o, pcx_laws_heldMailS fu f xs ins = some o → ∀ y, o.x = some y → GoodX E Try.prog f xs ins (o.g y).1 (o.g y).2 := by
  intro f xs ins o h
  cases h
theorem goodv_laws_heldMailS (fu : Nat) (a_0 : (Sl S_impl_Mail)) (k_1 : Int) (y : Int) (hy : F_laws_heldMailS fu a_0 k_1 = some y) : Good E Try.prog 66 [(.rs a_0.z .impl_Mail a_0.n a_0.f), (.int .i64 k_1)] (enc_i64 y) :=
  fun_good E_ok (pc_good (pc := pc_laws_heldMailS fu) (hpc_laws_heldMailS fu) (hpx_laws_heldMailS fu)) (fn := Try.f66) (c := body_laws_heldMailS) (out := out_i64) (y := y) (by kernel_rfl) (by kernel_rfl) (by kernel_rfl) (lpok_laws_heldMailS fu) (fun d hd => out_i64_enc d _ hd) ((ev_laws_heldMailS fu a_0 k_1).trans hy)
theorem good_laws_heldMailS (fu : Nat) : ∀ xs o, S_laws_heldMailS fu xs = some o → ∀ y, o.x = some y → Good E Try.prog 66 xs (o.g y) := by
  intro xs o h y hy
  unfold S_laws_heldMailS at h
  split at h
  · rename_i za0_0 na0_0 fa0_0 a1_0
    cases h
    exact goodv_laws_heldMailS fu (⟨za0_0, na0_0, fa0_0⟩ : (Sl S_impl_Mail)) a1_0 y hy
  · cases h

/-! laws.heldNodeResult -/
def F_laws_heldNodeResult (fu : Nat) (a_0 : S_impl_NodeResult) (k_1 : Int) : Option (Int) :=
  ((F_laws_heldNode fu a_0.Node k_1).bind fun y221 => (bif (decide (y221 < 0)) then (some (-1)) else ((F_laws_heldMailS fu a_0.Send y221).bind fun y222 => (bif (decide (y222 < 0)) then
    (some (-1)) else (some y222)))))
def pcf_laws_heldNodeResult (fu : Nat) (f : Nat) (xs : List (D RT den)) : Option (Out RT den) := match f with | 65 => S_laws_heldNode fu xs | 66 => S_laws_heldMailS fu xs | _ => none
def pcx_laws_heldNodeResult (fu : Nat) (f : Nat) (xs : List (D RT den)) (ins : List (Ob RT den)) : Option (OutX RT den) := none
def pc_laws_heldNodeResult (fu : Nat) : Pc RT den := ⟨pcf_laws_heldNodeResult fu, fun _ => false, fun _ => false, pcx_laws_heldNodeResult fu⟩
def msk_laws_heldNodeResult (b : Nat) : List Nat := []
def lp_laws_heldNodeResult (fu : Nat) : Lp RT den (Int) := fun b s k => none
theorem ev_laws_heldNodeResult (fu : Nat) (a_0 : S_impl_NodeResult) (k_1 : Int) : evFun E (pc_laws_heldNodeResult fu) msk_laws_heldNodeResult (lp_laws_heldNodeResult fu) out_i64 29 [(.agg [(.int .i64 a_0.Code), (.int .i64 a_0.Node.Id), (.int .i64 a_0.Node.Peers), (.int .i64 a_0.Node.Term), (.int .i64 a_0.Node.Voted), (.rs a_0.Node.Log.z .impl_Entry a_0.Node.Log.n a_0.Node.Log.f), (.int .i64 a_0.Node.Role), (.int .i64 a_0.Node.Commit), (.rs a_0.Node.Votes.z .i64 a_0.Node.Votes.n a_0.Node.Votes.f), (.rs a_0.Node.Next.z .i64 a_0.Node.Next.n a_0.Node.Next.f), (.rs a_0.Node.Match.z .i64 a_0.Node.Match.n a_0.Node.Match.f), (.rs a_0.Send.z .impl_Mail a_0.Send.n a_0.Send.f)]), (.int .i64 k_1)] = F_laws_heldNodeResult fu a_0 k_1 := by kernel_rfl
noncomputable def body_laws_heldNodeResult : Code := Try.f29.body.getD .skip
theorem lpok_laws_heldNodeResult (fu : Nat) : LpOk E (pc_laws_heldNodeResult fu) msk_laws_heldNodeResult (lp_laws_heldNodeResult fu) (loops 0 body_laws_heldNodeResult) := by
  have h : loops 0 body_laws_heldNodeResult = [] := by kernel_rfl
  rw [h]; intro p hp; cases hp
def S_laws_heldNodeResult (fu : Nat) (xs : List (D RT den)) : Option (Out RT den) := match xs with | [.agg [.int .i64 a0_1, .int .i64 a0_3, .int .i64 a0_4, .int .i64 a0_5, .int .i64 a0_6, .rs za0_7 .impl_Entry na0_7 fa0_7, .int .i64 a0_8, .int .i64 a0_9, .rs za0_10 .i64 na0_10 fa0_10, .rs za0_11 .i64 na0_11 fa0_11, .rs za0_12 .i64 na0_12 fa0_12, .rs za0_13 .impl_Mail na0_13 fa0_13], .int .i64 a1_0] => some ⟨Int, F_laws_heldNodeResult fu (⟨a0_1, (⟨a0_3, a0_4, a0_5, a0_6, (⟨za0_7, na0_7, fa0_7⟩ : (Sl S_impl_Entry)), a0_8, a0_9, (⟨za0_10, na0_10, fa0_10⟩ : (Sl Int)), (⟨za0_11, na0_11, fa0_11⟩ : (Sl Int)), (⟨za0_12, na0_12, fa0_12⟩ : (Sl Int))⟩ : S_impl_Node), (⟨za0_13, na0_13, fa0_13⟩ : (Sl S_impl_Mail))⟩ : S_impl_NodeResult) a1_0, enc_i64, fun _ => true⟩ | _ => none
theorem hpc_laws_heldNodeResult (fu : Nat) : ∀ f xs o, pcf_laws_heldNodeResult fu f xs = some o → ∀ y, o.x = some y → Good E Try.prog f xs (o.g y) := by
  intro f xs o h
  unfold pcf_laws_heldNodeResult at h
  split at h
  · exact good_laws_heldNode fu xs o h
  · exact good_laws_heldMailS fu xs o h
  · cases h
theorem hpx_laws_heldNodeResult (fu : Nat) : ∀ f xs ins o, pcx_laws_heldNodeResult fu f xs ins = some o → ∀ y, o.x = some y → GoodX E Try.prog f xs ins (o.g y).1 (o.g y).2 := by
  intro f xs ins o h
  cases h
theorem goodv_laws_heldNodeResult (fu : Nat) (a_0 : S_impl_NodeResult) (k_1 : Int) (y : Int) (hy : F_laws_heldNodeResult fu a_0 k_1 = some y) : Good E Try.prog 29 [(.agg [(.int .i64 a_0.Code), (.int .i64 a_0.Node.Id), (.int .i64 a_0.Node.Peers), (.int .i64 a_0.Node.Term), (.int .i64 a_0.Node.Voted), (.rs a_0.Node.Log.z .impl_Entry a_0.Node.Log.n a_0.Node.Log.f), (.int .i64 a_0.Node.Role), (.int .i64 a_0.Node.Commit), (.rs a_0.Node.Votes.z .i64 a_0.Node.Votes.n a_0.Node.Votes.f), (.rs a_0.Node.Next.z .i64 a_0.Node.Next.n a_0.Node.Next.f), (.rs a_0.Node.Match.z .i64 a_0.Node.Match.n a_0.Node.Match.f), (.rs a_0.Send.z .impl_Mail a_0.Send.n a_0.Send.f)]), (.int .i64 k_1)] (enc_i64 y) :=
  fun_good E_ok (pc_good (pc := pc_laws_heldNodeResult fu) (hpc_laws_heldNodeResult fu) (hpx_laws_heldNodeResult fu)) (fn := Try.f29) (c := body_laws_heldNodeResult) (out := out_i64) (y := y) (by kernel_rfl) (by kernel_rfl) (by kernel_rfl) (lpok_laws_heldNodeResult fu) (fun d hd => out_i64_enc d _ hd) ((ev_laws_heldNodeResult fu a_0 k_1).trans hy)
theorem good_laws_heldNodeResult (fu : Nat) : ∀ xs o, S_laws_heldNodeResult fu xs = some o → ∀ y, o.x = some y → Good E Try.prog 29 xs (o.g y) := by
  intro xs o h y hy
  unfold S_laws_heldNodeResult at h
  split at h
  · rename_i a0_1 a0_3 a0_4 a0_5 a0_6 za0_7 na0_7 fa0_7 a0_8 a0_9 za0_10 na0_10 fa0_10 za0_11 na0_11 fa0_11 za0_12 na0_12 fa0_12 za0_13 na0_13 fa0_13 a1_0
    cases h
    exact goodv_laws_heldNodeResult fu (⟨a0_1, (⟨a0_3, a0_4, a0_5, a0_6, (⟨za0_7, na0_7, fa0_7⟩ : (Sl S_impl_Entry)), a0_8, a0_9, (⟨za0_10, na0_10, fa0_10⟩ : (Sl Int)), (⟨za0_11, na0_11, fa0_11⟩ : (Sl Int)), (⟨za0_12, na0_12, fa0_12⟩ : (Sl Int))⟩ : S_impl_Node), (⟨za0_13, na0_13, fa0_13⟩ : (Sl S_impl_Mail))⟩ : S_impl_NodeResult) a1_0 y hy
  · cases h

/-! laws.FnExactNewNode -/
def F_laws_FnExactNewNode (fu : Nat) (aId_0 : Int) (aPeers_1 : Int) : Option (Bool) :=
  ((F_spec_NewNode_H fu aId_0 aPeers_1).bind fun y194 => ((F_impl_NewNode_H fu aId_0 aPeers_1).bind fun y198 => ((F_laws_eqNodeResult fu (⟨y198.Code, (⟨y198.Node.Id,
    y198.Node.Peers, y198.Node.Term, y198.Node.Voted, (⟨none, y198.Node.Log.n, y198.Node.Log.f⟩ : (Sl S_impl_Entry)), y198.Node.Role, y198.Node.Commit, (⟨none, y198.Node.Votes.n,
    y198.Node.Votes.f⟩ : (Sl Int)), (⟨none, y198.Node.Next.n, y198.Node.Next.f⟩ : (Sl Int)), (⟨none, y198.Node.Match.n, y198.Node.Match.f⟩ : (Sl Int))⟩ : S_impl_Node), (⟨(some true),
    0, (fun _ => dflt .impl_Mail)⟩ : (Sl S_impl_Mail))⟩ : S_impl_NodeResult) (⟨y194.Code, (⟨y194.Node.Id, y194.Node.Peers, y194.Node.Term, y194.Node.Voted, (⟨none, y194.Node.Log.n,
    y194.Node.Log.f⟩ : (Sl S_impl_Entry)), y194.Node.Role, y194.Node.Commit, (⟨none, y194.Node.Votes.n, y194.Node.Votes.f⟩ : (Sl Int)), (⟨none, y194.Node.Next.n, y194.Node.Next.f⟩ : (Sl Int)),
    (⟨none, y194.Node.Match.n, y194.Node.Match.f⟩ : (Sl Int))⟩ : S_impl_Node), (⟨(some true), 0, (fun _ => dflt .impl_Mail)⟩ : (Sl S_impl_Mail))⟩ : S_impl_NodeResult)).bind fun y199 =>
    (bif (!y199) then (some false) else ((F_laws_markNodeResult_L fu y198.Code y198.Node.Id y198.Node.Peers y198.Node.Term y198.Node.Voted y198.Node.Log.n y198.Node.Role y198.Node.Commit y198.Node.Votes.n y198.Node.Next.n y198.Node.Match.n 1 y198.Node.Log.n y198.Node.Log.f y198.Node.Votes.n y198.Node.Votes.f y198.Node.Next.n y198.Node.Next.f y198.Node.Match.n y198.Node.Match.f).bind fun y208 =>
    ((F_laws_heldNodeResult fu (⟨y198.Code, (⟨y198.Node.Id, y198.Node.Peers, y198.Node.Term, y198.Node.Voted, (⟨none, y198.Node.Log.n, y208.2.1.2⟩ : (Sl S_impl_Entry)),
    y198.Node.Role, y198.Node.Commit, (⟨none, y198.Node.Votes.n, y208.2.2.1.2⟩ : (Sl Int)), (⟨none, y198.Node.Next.n, y208.2.2.2.1.2⟩ : (Sl Int)), (⟨none, y198.Node.Match.n,
    y208.2.2.2.2.2⟩ : (Sl Int))⟩ : S_impl_Node), (⟨(some true), 0, (fun _ => dflt .impl_Mail)⟩ : (Sl S_impl_Mail))⟩ : S_impl_NodeResult) 1).bind fun y209 => (bif (decide (y209 < 0)) then
    (some false) else (bif (y209 != y208.1) then (some false) else ((F_impl_NewNode_H fu aId_0 aPeers_1).bind fun y210 => ((F_laws_eqNodeResult fu (⟨y210.Code, (⟨y210.Node.Id,
    y210.Node.Peers, y210.Node.Term, y210.Node.Voted, (⟨none, y210.Node.Log.n, y210.Node.Log.f⟩ : (Sl S_impl_Entry)), y210.Node.Role, y210.Node.Commit, (⟨none, y210.Node.Votes.n,
    y210.Node.Votes.f⟩ : (Sl Int)), (⟨none, y210.Node.Next.n, y210.Node.Next.f⟩ : (Sl Int)), (⟨none, y210.Node.Match.n, y210.Node.Match.f⟩ : (Sl Int))⟩ : S_impl_Node), (⟨(some true),
    0, (fun _ => dflt .impl_Mail)⟩ : (Sl S_impl_Mail))⟩ : S_impl_NodeResult) (⟨y194.Code, (⟨y194.Node.Id, y194.Node.Peers, y194.Node.Term, y194.Node.Voted, (⟨none, y194.Node.Log.n,
    y194.Node.Log.f⟩ : (Sl S_impl_Entry)), y194.Node.Role, y194.Node.Commit, (⟨none, y194.Node.Votes.n, y194.Node.Votes.f⟩ : (Sl Int)), (⟨none, y194.Node.Next.n, y194.Node.Next.f⟩ : (Sl Int)),
    (⟨none, y194.Node.Match.n, y194.Node.Match.f⟩ : (Sl Int))⟩ : S_impl_Node), (⟨(some true), 0, (fun _ => dflt .impl_Mail)⟩ : (Sl S_impl_Mail))⟩ : S_impl_NodeResult)).bind fun y211 =>
    (bif (!y211) then (some false) else ((F_laws_heldNodeResult fu (⟨y198.Code, (⟨y198.Node.Id, y198.Node.Peers, y198.Node.Term, y198.Node.Voted, (⟨none, y198.Node.Log.n,
    y208.2.1.2⟩ : (Sl S_impl_Entry)), y198.Node.Role, y198.Node.Commit, (⟨none, y198.Node.Votes.n, y208.2.2.1.2⟩ : (Sl Int)), (⟨none, y198.Node.Next.n, y208.2.2.2.1.2⟩ : (Sl Int)),
    (⟨none, y198.Node.Match.n, y208.2.2.2.2.2⟩ : (Sl Int))⟩ : S_impl_Node), (⟨(some true), 0, (fun _ => dflt .impl_Mail)⟩ : (Sl S_impl_Mail))⟩ : S_impl_NodeResult) 1).bind fun y212 =>
    (bif (decide (y212 < 0)) then (some false) else (bif (y212 != y208.1) then (some false) else (some true)))))))))))))))
def pcf_laws_FnExactNewNode (fu : Nat) (f : Nat) (xs : List (D RT den)) : Option (Out RT den) := match f with | 27 => S_laws_eqNodeResult fu xs | 29 => S_laws_heldNodeResult fu xs | _ => none
def pcx_laws_FnExactNewNode (fu : Nat) (f : Nat) (xs : List (D RT den)) (ins : List (Ob RT den)) : Option (OutX RT den) := match f with | 25 => S_spec_NewNode_H fu xs ins | 26 => S_impl_NewNode_H fu xs ins | 28 => S_laws_markNodeResult_L fu xs ins | _ => none
def pc_laws_FnExactNewNode (fu : Nat) : Pc RT den := ⟨pcf_laws_FnExactNewNode fu, fun f => match f with | 25 => true | 26 => true | 28 => true | _ => false, fun f => match f with | 28 => true | _ => false, pcx_laws_FnExactNewNode fu⟩
def msk_laws_FnExactNewNode (b : Nat) : List Nat := []
def lp_laws_FnExactNewNode (fu : Nat) : Lp RT den (Bool) := fun b s k => none
theorem ev_laws_FnExactNewNode (fu : Nat) (aId_0 : Int) (aPeers_1 : Int) : evFun E (pc_laws_FnExactNewNode fu) msk_laws_FnExactNewNode (lp_laws_FnExactNewNode fu) out_bo 5 [(.int .i64 aId_0), (.int .i64 aPeers_1)] = F_laws_FnExactNewNode fu aId_0 aPeers_1 := by kernel_rfl
noncomputable def body_laws_FnExactNewNode : Code := Try.f5.body.getD .skip
theorem lpok_laws_FnExactNewNode (fu : Nat) : LpOk E (pc_laws_FnExactNewNode fu) msk_laws_FnExactNewNode (lp_laws_FnExactNewNode fu) (loops 0 body_laws_FnExactNewNode) := by
  have h : loops 0 body_laws_FnExactNewNode = [] := by kernel_rfl
  rw [h]; intro p hp; cases hp
def S_laws_FnExactNewNode (fu : Nat) (xs : List (D RT den)) : Option (Out RT den) := match xs with | [.int .i64 a0_0, .int .i64 a1_0] => some ⟨Bool, F_laws_FnExactNewNode fu a0_0 a1_0, enc_bo, fun _ => true⟩ | _ => none
theorem hpc_laws_FnExactNewNode (fu : Nat) : ∀ f xs o, pcf_laws_FnExactNewNode fu f xs = some o → ∀ y, o.x = some y → Good E Try.prog f xs (o.g y) := by
  intro f xs o h
  unfold pcf_laws_FnExactNewNode at h
  split at h
  · exact good_laws_eqNodeResult fu xs o h
  · exact good_laws_heldNodeResult fu xs o h
  · cases h
theorem hpx_laws_FnExactNewNode (fu : Nat) : ∀ f xs ins o, pcx_laws_FnExactNewNode fu f xs ins = some o → ∀ y, o.x = some y → GoodX E Try.prog f xs ins (o.g y).1 (o.g y).2 := by
  intro f xs ins o h
  unfold pcx_laws_FnExactNewNode at h
  split at h
  · exact good_spec_NewNode_H fu xs ins o h
  · exact good_impl_NewNode_H fu xs ins o h
  · exact good_laws_markNodeResult_L fu xs ins o h
  · cases h
theorem goodv_laws_FnExactNewNode (fu : Nat) (aId_0 : Int) (aPeers_1 : Int) (y : Bool) (hy : F_laws_FnExactNewNode fu aId_0 aPeers_1 = some y) : Good E Try.prog 5 [(.int .i64 aId_0), (.int .i64 aPeers_1)] (enc_bo y) :=
  fun_good E_ok (pc_good (pc := pc_laws_FnExactNewNode fu) (hpc_laws_FnExactNewNode fu) (hpx_laws_FnExactNewNode fu)) (fn := Try.f5) (c := body_laws_FnExactNewNode) (out := out_bo) (y := y) (by kernel_rfl) (by kernel_rfl) (by kernel_rfl) (lpok_laws_FnExactNewNode fu) (fun d hd => out_bo_enc d _ hd) ((ev_laws_FnExactNewNode fu aId_0 aPeers_1).trans hy)
theorem good_laws_FnExactNewNode (fu : Nat) : ∀ xs o, S_laws_FnExactNewNode fu xs = some o → ∀ y, o.x = some y → Good E Try.prog 5 xs (o.g y) := by
  intro xs o h y hy
  unfold S_laws_FnExactNewNode at h
  split at h
  · rename_i a0_0 a1_0
    cases h
    exact goodv_laws_FnExactNewNode fu a0_0 a1_0 y hy
  · cases h

/-! laws.toInt64S -/
def F_laws_toInt64S_H_B0 {ρ : Type} (fu : Nat) (a0_0 : (Sl Int)) (out3_1 : Nat) (on0_3 : Nat) (k0 : (Nat → Int) → Option ρ) (i4_2 : Int) (of0_4 : (Nat → Int)) (go : Int → (Nat → Int) → Option ρ) : Option ρ :=
  (bif (decide (i4_2 < ((a0_0.n : Nat) : Int))) then ((bif (decide (0 ≤ i4_2) && decide ((Int.toNat i4_2) < a0_0.n)) then some () else none : Option Unit).bind fun _ => ((bif (decide (0 ≤ i4_2) &&
    decide ((Int.toNat i4_2) < out3_1)) then some () else none : Option Unit).bind fun _ => (go (IntKind.wrap .i64 (i4_2 + 1)) (fun j => if j = (Int.toNat i4_2) then (a0_0.f (Int.toNat i4_2)) else
    of0_4 j)))) else (k0 of0_4))
def F_laws_toInt64S_H (fu : Nat) (a_0 : (Sl Int)) : Option ((Sl Int)) :=
  (bif (decide (0 ≤ ((a_0.n : Nat) : Int)) && (decide (((a_0.n : Nat) : Int) = ((a_0.n : Nat) : Int)) && (decide ((8 : Int) * ((a_0.n : Nat) : Int) ≤ 281474976710656) && decide (((a_0.n : Nat) : Int) ≤ 9223372036854775807)))) then
    (L (fun w0 go0 => F_laws_toInt64S_H_B0 fu a_0 (Int.toNat ((a_0.n : Nat) : Int)) (Int.toNat ((a_0.n : Nat) : Int)) (fun z234 => (some (⟨none, (Int.toNat ((a_0.n : Nat) : Int)),
    z234⟩ : (Sl Int)))) w0.1 w0.2 (fun q0 q1 => go0 (q0, q1))) fu ((0, (fun _ => 0)) : Int × (Nat → Int))) else none)
def pcf_laws_toInt64S_H (fu : Nat) (f : Nat) (xs : List (D RT den)) : Option (Out RT den) := none
def pcx_laws_toInt64S_H (fu : Nat) (f : Nat) (xs : List (D RT den)) (ins : List (Ob RT den)) : Option (OutX RT den) := none
def pc_laws_toInt64S_H (fu : Nat) : Pc RT den := ⟨pcf_laws_toInt64S_H fu, fun _ => false, fun _ => false, pcx_laws_toInt64S_H fu⟩
def msk_laws_toInt64S_H (b : Nat) : List Nat := match b with | 0 => [1, 2, 5, 6, 7, 8, 9, 10, 11, 12, 13, 14, 15, 16, 17, 18, 19, 20, 21] | 100000 => [0, 1, 4, 5, 6, 7, 8, 9, 10, 11, 12, 13, 14, 15, 16, 17, 18, 19, 20, 21] | _ => []
def ps_laws_toInt64S_H_0 : List (Pat RT) := [.flat (.rs .i64), .flat .dead, .flat .dead, .flat (.os 0), .flat (.int .i64), .flat .dead, .flat .dead, .flat .dead, .flat .dead, .flat .dead, .flat .dead, .flat .dead, .flat .dead, .flat .dead, .flat .dead, .flat .dead, .flat .dead, .flat .dead, .flat .dead, .flat .dead, .flat .dead, .flat .dead]
def os_laws_toInt64S_H_0 : List (OP RT) := [.row false .i64]
def conv_laws_toInt64S_H_0 (r : Raw den ps_laws_toInt64S_H_0 os_laws_toInt64S_H_0) : ((Sl Int) × Nat × Nat) × (Int × (Nat → Int)) := ((r.1.1, r.1.2.2.2.1, r.2.1.1), (r.1.2.2.2.2.1, r.2.1.2))
def back_laws_toInt64S_H_0 (c : (Sl Int) × Nat × Nat) (w : Int × (Nat → Int)) : St RT den := ⟨[(.rs c.1.z .i64 c.1.n c.1.f), .dead, .dead, (.os 0 c.2.1), (.int .i64 w.1), .dead, .dead, .dead, .dead, .dead, .dead, .dead, .dead, .dead, .dead, .dead, .dead, .dead, .dead, .dead, .dead, .dead], [(.row false .i64 c.2.2 w.2)]⟩
def Bk_laws_toInt64S_H_0 {ρ : Type} (fu : Nat) (c : (Sl Int) × Nat × Nat) (k : Ex → St RT den → Option ρ) (w : Int × (Nat → Int)) (go : (Int × (Nat → Int)) → Option ρ) : Option ρ := F_laws_toInt64S_H_B0 fu c.1 c.2.1 c.2.2 (fun a0 => k (.exit 0) ⟨[.dead, .dead, .dead, (.os 0 c.2.1), .dead, .dead, .dead, .dead, .dead, .dead, .dead, .dead, .dead, .dead, .dead, .dead, .dead, .dead, .dead, .dead, .dead, .dead], [(.row false .i64 c.2.2 a0)]⟩) w.1 w.2 (fun q0 q1 => go (q0, q1))
def lp_laws_toInt64S_H (fu : Nat) : Lp RT den ((Sl Int)) := fun b s k => match b with | 0 => handle ps_laws_toInt64S_H_0 os_laws_toInt64S_H_0 conv_laws_toInt64S_H_0 (Bk_laws_toInt64S_H_0 fu) fu s k | _ => none
theorem ev_laws_toInt64S_H (fu : Nat) (a_0 : (Sl Int)) : evFunX E (pc_laws_toInt64S_H fu) msk_laws_toInt64S_H (lp_laws_toInt64S_H fu) out_sl_i64_H 69 [(.rs a_0.z .i64 a_0.n a_0.f)] [] = F_laws_toInt64S_H fu a_0 := by kernel_rfl
noncomputable def body_laws_toInt64S_H : Code := Try.f69.body.getD .skip
noncomputable def lc_laws_toInt64S_H_0 : Code := ((loops 0 body_laws_toInt64S_H).getD 0 (0, .skip)).2
theorem round_laws_toInt64S_H_0 (fu : Nat) (it : St RT den → Option ((Sl Int))) (k : Ex → St RT den → Option ((Sl Int))) c w : evCode E (pc_laws_toInt64S_H fu) msk_laws_toInt64S_H (lp_laws_toInt64S_H fu) 0 lc_laws_toInt64S_H_0 (back_laws_toInt64S_H_0 c w) (after (msk_laws_toInt64S_H 0) (msk_laws_toInt64S_H 100000) 1 it k) = Bk_laws_toInt64S_H_0 fu c k w (fun w => it (back_laws_toInt64S_H_0 c w)) := by kernel_rfl
theorem lpok_laws_toInt64S_H_0 (fu : Nat) : ∀ s k r, lp_laws_toInt64S_H fu 0 s k = some r → ∃ fuel, iter (msk_laws_toInt64S_H 0) (msk_laws_toInt64S_H 100000) s.objs.length (evCode E (pc_laws_toInt64S_H fu) msk_laws_toInt64S_H (lp_laws_toInt64S_H fu) 0 lc_laws_toInt64S_H_0) fuel s k = some r :=
  handle_ok (ps := ps_laws_toInt64S_H_0) (os := os_laws_toInt64S_H_0) (conv := conv_laws_toInt64S_H_0) (B := Bk_laws_toInt64S_H_0 fu) (fu := fu) back_laws_toInt64S_H_0 (fun raw => by kernel_rfl) 1 (fun c w => by kernel_rfl) (round_laws_toInt64S_H_0 fu)
theorem lpok_laws_toInt64S_H (fu : Nat) : LpOk E (pc_laws_toInt64S_H fu) msk_laws_toInt64S_H (lp_laws_toInt64S_H fu) (loops 0 body_laws_toInt64S_H) := loop_all 1 (by kernel_rfl) fun i hi => match i, hi with
  | 0, _ => by
    have h : (loops 0 body_laws_toInt64S_H).getD 0 (0, .skip) = (0, lc_laws_toInt64S_H_0) := by kernel_rfl
    rw [h]; exact lpok_laws_toInt64S_H_0 fu
  | i + 1, hi => absurd hi (by omega)
def S_laws_toInt64S_H (fu : Nat) (xs : List (D RT den)) (ins : List (Ob RT den)) : Option (OutX RT den) := match xs, ins with | [.rs za0_0 .i64 na0_0 fa0_0], [] => some ⟨(Sl Int), F_laws_toInt64S_H fu (⟨za0_0, na0_0, fa0_0⟩ : (Sl Int)), enc_sl_i64_H⟩ | _, _ => none
theorem hpc_laws_toInt64S_H (fu : Nat) : ∀ f xs o, pcf_laws_toInt64S_H fu f xs = some o → ∀ y, o.x = some y → Good E Try.prog f xs (o.g y) := by
  intro f xs o h
  cases h
theorem hpx_laws_toInt64S_H (fu : Nat) : ∀ f xs ins o, pcx_laws_toInt64S_H fu f xs ins = some o → ∀ y, o.x = some y → GoodX E Try.prog f xs ins (o.g y).1 (o.g y).2 := by
  intro f xs ins o h
  cases h
theorem goodv_laws_toInt64S_H (fu : Nat) (a_0 : (Sl Int)) (y : (Sl Int)) (hy : F_laws_toInt64S_H fu a_0 = some y) : GoodX E Try.prog 69 [(.rs a_0.z .i64 a_0.n a_0.f)] [] (enc_sl_i64_H y).1 (enc_sl_i64_H y).2 :=
  funX_good E_ok (pc_good (pc := pc_laws_toInt64S_H fu) (hpc_laws_toInt64S_H fu) (hpx_laws_toInt64S_H fu)) (fn := Try.f69) (c := body_laws_toInt64S_H) (out := out_sl_i64_H) (y := y) (by kernel_rfl) (by kernel_rfl) (by kernel_rfl) (lpok_laws_toInt64S_H fu) (by kernel_rfl) (Nat.zero_le _) (fun d os hd => out_sl_i64_H_enc d os _ hd) ((ev_laws_toInt64S_H fu a_0).trans hy)
theorem good_laws_toInt64S_H (fu : Nat) : ∀ xs ins o, S_laws_toInt64S_H fu xs ins = some o → ∀ y, o.x = some y → GoodX E Try.prog 69 xs ins (o.g y).1 (o.g y).2 := by
  intro xs ins o h y hy
  unfold S_laws_toInt64S_H at h
  split at h
  · rename_i za0_0 na0_0 fa0_0
    cases h
    exact goodv_laws_toInt64S_H fu (⟨za0_0, na0_0, fa0_0⟩ : (Sl Int)) y hy
  · cases h

/-! laws.toNode -/
def F_laws_toNode_H (fu : Nat) (a_0 : S_laws_Node) : Option (S_impl_Node) :=
  ((F_laws_toEntryS_H fu a_0.Log).bind fun y233 => ((F_laws_toInt64S_H fu a_0.Votes).bind fun y235 => ((F_laws_toInt64S_H fu a_0.Next).bind fun y236 => ((F_laws_toInt64S_H fu a_0.Match).bind fun y237 =>
    (some (⟨a_0.Id, a_0.Peers, a_0.Term, a_0.Voted, (⟨none, y233.n, y233.f⟩ : (Sl S_impl_Entry)), a_0.Role, a_0.Commit, (⟨none, y235.n, y235.f⟩ : (Sl Int)), (⟨none, y236.n, y236.f⟩ : (Sl Int)),
    (⟨none, y237.n, y237.f⟩ : (Sl Int))⟩ : S_impl_Node))))))
def pcf_laws_toNode_H (fu : Nat) (f : Nat) (xs : List (D RT den)) : Option (Out RT den) := none
def pcx_laws_toNode_H (fu : Nat) (f : Nat) (xs : List (D RT den)) (ins : List (Ob RT den)) : Option (OutX RT den) := match f with | 10 => S_laws_toEntryS_H fu xs ins | 69 => S_laws_toInt64S_H fu xs ins | _ => none
def pc_laws_toNode_H (fu : Nat) : Pc RT den := ⟨pcf_laws_toNode_H fu, fun f => match f with | 10 => true | 69 => true | _ => false, fun _ => false, pcx_laws_toNode_H fu⟩
def msk_laws_toNode_H (b : Nat) : List Nat := []
def lp_laws_toNode_H (fu : Nat) : Lp RT den (S_impl_Node) := fun b s k => none
theorem ev_laws_toNode_H (fu : Nat) (a_0 : S_laws_Node) : evFunX E (pc_laws_toNode_H fu) msk_laws_toNode_H (lp_laws_toNode_H fu) out_impl_Node_H 32 [(.agg [(.int .i64 a_0.Id), (.int .i64 a_0.Peers), (.int .i64 a_0.Term), (.int .i64 a_0.Voted), (.rs a_0.Log.z .laws_Entry a_0.Log.n a_0.Log.f), (.int .i64 a_0.Role), (.int .i64 a_0.Commit), (.rs a_0.Votes.z .i64 a_0.Votes.n a_0.Votes.f), (.rs a_0.Next.z .i64 a_0.Next.n a_0.Next.f), (.rs a_0.Match.z .i64 a_0.Match.n a_0.Match.f)])] [] = F_laws_toNode_H fu a_0 := by kernel_rfl
noncomputable def body_laws_toNode_H : Code := Try.f32.body.getD .skip
theorem lpok_laws_toNode_H (fu : Nat) : LpOk E (pc_laws_toNode_H fu) msk_laws_toNode_H (lp_laws_toNode_H fu) (loops 0 body_laws_toNode_H) := by
  have h : loops 0 body_laws_toNode_H = [] := by kernel_rfl
  rw [h]; intro p hp; cases hp
def S_laws_toNode_H (fu : Nat) (xs : List (D RT den)) (ins : List (Ob RT den)) : Option (OutX RT den) := match xs, ins with | [.agg [.int .i64 a0_1, .int .i64 a0_2, .int .i64 a0_3, .int .i64 a0_4, .rs za0_5 .laws_Entry na0_5 fa0_5, .int .i64 a0_6, .int .i64 a0_7, .rs za0_8 .i64 na0_8 fa0_8, .rs za0_9 .i64 na0_9 fa0_9, .rs za0_10 .i64 na0_10 fa0_10]], [] => some ⟨S_impl_Node, F_laws_toNode_H fu (⟨a0_1, a0_2, a0_3, a0_4, (⟨za0_5, na0_5, fa0_5⟩ : (Sl S_laws_Entry)), a0_6, a0_7, (⟨za0_8, na0_8, fa0_8⟩ : (Sl Int)), (⟨za0_9, na0_9, fa0_9⟩ : (Sl Int)), (⟨za0_10, na0_10, fa0_10⟩ : (Sl Int))⟩ : S_laws_Node), enc_impl_Node_H⟩ | _, _ => none
theorem hpc_laws_toNode_H (fu : Nat) : ∀ f xs o, pcf_laws_toNode_H fu f xs = some o → ∀ y, o.x = some y → Good E Try.prog f xs (o.g y) := by
  intro f xs o h
  cases h
theorem hpx_laws_toNode_H (fu : Nat) : ∀ f xs ins o, pcx_laws_toNode_H fu f xs ins = some o → ∀ y, o.x = some y → GoodX E Try.prog f xs ins (o.g y).1 (o.g y).2 := by
  intro f xs ins o h
  unfold pcx_laws_toNode_H at h
  split at h
  · exact good_laws_toEntryS_H fu xs ins o h
  · exact good_laws_toInt64S_H fu xs ins o h
  · cases h
theorem goodv_laws_toNode_H (fu : Nat) (a_0 : S_laws_Node) (y : S_impl_Node) (hy : F_laws_toNode_H fu a_0 = some y) : GoodX E Try.prog 32 [(.agg [(.int .i64 a_0.Id), (.int .i64 a_0.Peers), (.int .i64 a_0.Term), (.int .i64 a_0.Voted), (.rs a_0.Log.z .laws_Entry a_0.Log.n a_0.Log.f), (.int .i64 a_0.Role), (.int .i64 a_0.Commit), (.rs a_0.Votes.z .i64 a_0.Votes.n a_0.Votes.f), (.rs a_0.Next.z .i64 a_0.Next.n a_0.Next.f), (.rs a_0.Match.z .i64 a_0.Match.n a_0.Match.f)])] [] (enc_impl_Node_H y).1 (enc_impl_Node_H y).2 :=
  funX_good E_ok (pc_good (pc := pc_laws_toNode_H fu) (hpc_laws_toNode_H fu) (hpx_laws_toNode_H fu)) (fn := Try.f32) (c := body_laws_toNode_H) (out := out_impl_Node_H) (y := y) (by kernel_rfl) (by kernel_rfl) (by kernel_rfl) (lpok_laws_toNode_H fu) (by kernel_rfl) (Nat.zero_le _) (fun d os hd => out_impl_Node_H_enc d os _ hd) ((ev_laws_toNode_H fu a_0).trans hy)
theorem good_laws_toNode_H (fu : Nat) : ∀ xs ins o, S_laws_toNode_H fu xs ins = some o → ∀ y, o.x = some y → GoodX E Try.prog 32 xs ins (o.g y).1 (o.g y).2 := by
  intro xs ins o h y hy
  unfold S_laws_toNode_H at h
  split at h
  · rename_i a0_1 a0_2 a0_3 a0_4 za0_5 na0_5 fa0_5 a0_6 a0_7 za0_8 na0_8 fa0_8 za0_9 na0_9 fa0_9 za0_10 na0_10 fa0_10
    cases h
    exact goodv_laws_toNode_H fu (⟨a0_1, a0_2, a0_3, a0_4, (⟨za0_5, na0_5, fa0_5⟩ : (Sl S_laws_Entry)), a0_6, a0_7, (⟨za0_8, na0_8, fa0_8⟩ : (Sl Int)), (⟨za0_9, na0_9, fa0_9⟩ : (Sl Int)), (⟨za0_10, na0_10, fa0_10⟩ : (Sl Int))⟩ : S_laws_Node) y hy
  · cases h

/-! spec.l8Id -/
def F_spec_l8Id (fu : Nat) (n_0 : S_impl_Node) (id_1 : Int) : Option (Bool) :=
  ((F_spec_l1In fu id_1 0 (IntKind.wrap .i64 (n_0.Peers - 1))).bind fun y256 => (some y256))
def pcf_spec_l8Id (fu : Nat) (f : Nat) (xs : List (D RT den)) : Option (Out RT den) := match f with | 53 => S_spec_l1In fu xs | _ => none
def pcx_spec_l8Id (fu : Nat) (f : Nat) (xs : List (D RT den)) (ins : List (Ob RT den)) : Option (OutX RT den) := none
def pc_spec_l8Id (fu : Nat) : Pc RT den := ⟨pcf_spec_l8Id fu, fun _ => false, fun _ => false, pcx_spec_l8Id fu⟩
def msk_spec_l8Id (b : Nat) : List Nat := []
def lp_spec_l8Id (fu : Nat) : Lp RT den (Bool) := fun b s k => none
theorem ev_spec_l8Id (fu : Nat) (n_0 : S_impl_Node) (id_1 : Int) : evFun E (pc_spec_l8Id fu) msk_spec_l8Id (lp_spec_l8Id fu) out_bo 89 [(.rptr [(.int .i64 n_0.Id), (.int .i64 n_0.Peers), (.int .i64 n_0.Term), (.int .i64 n_0.Voted), (.rs n_0.Log.z .impl_Entry n_0.Log.n n_0.Log.f), (.int .i64 n_0.Role), (.int .i64 n_0.Commit), (.rs n_0.Votes.z .i64 n_0.Votes.n n_0.Votes.f), (.rs n_0.Next.z .i64 n_0.Next.n n_0.Next.f), (.rs n_0.Match.z .i64 n_0.Match.n n_0.Match.f)]), (.int .i64 id_1)] = F_spec_l8Id fu n_0 id_1 := by kernel_rfl
noncomputable def body_spec_l8Id : Code := Try.f89.body.getD .skip
theorem lpok_spec_l8Id (fu : Nat) : LpOk E (pc_spec_l8Id fu) msk_spec_l8Id (lp_spec_l8Id fu) (loops 0 body_spec_l8Id) := by
  have h : loops 0 body_spec_l8Id = [] := by kernel_rfl
  rw [h]; intro p hp; cases hp
def S_spec_l8Id (fu : Nat) (xs : List (D RT den)) : Option (Out RT den) := match xs with | [.rptr (.int .i64 a0_1 :: .int .i64 a0_2 :: .int .i64 a0_3 :: .int .i64 a0_4 :: .rs za0_5 .impl_Entry na0_5 fa0_5 :: .int .i64 a0_6 :: .int .i64 a0_7 :: .rs za0_8 .i64 na0_8 fa0_8 :: .rs za0_9 .i64 na0_9 fa0_9 :: .rs za0_10 .i64 na0_10 fa0_10 :: ra0), .int .i64 a1_0] => some ⟨Bool, F_spec_l8Id fu (⟨a0_1, a0_2, a0_3, a0_4, (⟨za0_5, na0_5, fa0_5⟩ : (Sl S_impl_Entry)), a0_6, a0_7, (⟨za0_8, na0_8, fa0_8⟩ : (Sl Int)), (⟨za0_9, na0_9, fa0_9⟩ : (Sl Int)), (⟨za0_10, na0_10, fa0_10⟩ : (Sl Int))⟩ : S_impl_Node) a1_0, enc_bo, fun _ => true⟩ | _ => none
theorem hpc_spec_l8Id (fu : Nat) : ∀ f xs o, pcf_spec_l8Id fu f xs = some o → ∀ y, o.x = some y → Good E Try.prog f xs (o.g y) := by
  intro f xs o h
  unfold pcf_spec_l8Id at h
  split at h
  · exact good_spec_l1In fu xs o h
  · cases h
theorem hpx_spec_l8Id (fu : Nat) : ∀ f xs ins o, pcx_spec_l8Id fu f xs ins = some o → ∀ y, o.x = some y → GoodX E Try.prog f xs ins (o.g y).1 (o.g y).2 := by
  intro f xs ins o h
  cases h
theorem goodv_spec_l8Id (fu : Nat) (n_0 : S_impl_Node) (id_1 : Int) (y : Bool) (hy : F_spec_l8Id fu n_0 id_1 = some y) : Good E Try.prog 89 [(.rptr [(.int .i64 n_0.Id), (.int .i64 n_0.Peers), (.int .i64 n_0.Term), (.int .i64 n_0.Voted), (.rs n_0.Log.z .impl_Entry n_0.Log.n n_0.Log.f), (.int .i64 n_0.Role), (.int .i64 n_0.Commit), (.rs n_0.Votes.z .i64 n_0.Votes.n n_0.Votes.f), (.rs n_0.Next.z .i64 n_0.Next.n n_0.Next.f), (.rs n_0.Match.z .i64 n_0.Match.n n_0.Match.f)]), (.int .i64 id_1)] (enc_bo y) :=
  fun_good E_ok (pc_good (pc := pc_spec_l8Id fu) (hpc_spec_l8Id fu) (hpx_spec_l8Id fu)) (fn := Try.f89) (c := body_spec_l8Id) (out := out_bo) (y := y) (by kernel_rfl) (by kernel_rfl) (by kernel_rfl) (lpok_spec_l8Id fu) (fun d hd => out_bo_enc d _ hd) ((ev_spec_l8Id fu n_0 id_1).trans hy)
theorem good_spec_l8Id (fu : Nat) : ∀ xs o, S_spec_l8Id fu xs = some o → ∀ y, o.x = some y → Good E Try.prog 89 xs (o.g y) := by
  intro xs o h y hy
  unfold S_spec_l8Id at h
  split at h
  · rename_i a0_1 a0_2 a0_3 a0_4 za0_5 na0_5 fa0_5 a0_6 a0_7 za0_8 na0_8 fa0_8 za0_9 na0_9 fa0_9 za0_10 na0_10 fa0_10 ra0 a1_0
    cases h
    exact (goodv_spec_l8Id fu (⟨a0_1, a0_2, a0_3, a0_4, (⟨za0_5, na0_5, fa0_5⟩ : (Sl S_impl_Entry)), a0_6, a0_7, (⟨za0_8, na0_8, fa0_8⟩ : (Sl Int)), (⟨za0_9, na0_9, fa0_9⟩ : (Sl Int)), (⟨za0_10, na0_10, fa0_10⟩ : (Sl Int))⟩ : S_impl_Node) a1_0 y hy).sub ⟨Sub.of_eq ra0 rfl, .refl _, trivial⟩
  · cases h

/-! spec.LastOf -/
def F_spec_LastOf (fu : Nat) (log_0 : (Sl S_impl_Entry)) : Option (S_impl_Entry) :=
  (bif (((log_0.n : Nat) : Int) == 0) then (some (⟨0, 0, 0, (⟨0, 0, 0, 0, 0, 0⟩ : S_impl_Cmd)⟩ : S_impl_Entry)) else ((bif (decide (0 ≤ (IntKind.wrap .i64 (((log_0.n : Nat) : Int) - 1))) &&
    decide ((Int.toNat (IntKind.wrap .i64 (((log_0.n : Nat) : Int) - 1))) < log_0.n)) then some () else none : Option Unit).bind fun _ => (some (log_0.f (Int.toNat (IntKind.wrap .i64 (((log_0.n : Nat) : Int) - 1)))))))
def pcf_spec_LastOf (fu : Nat) (f : Nat) (xs : List (D RT den)) : Option (Out RT den) := none
def pcx_spec_LastOf (fu : Nat) (f : Nat) (xs : List (D RT den)) (ins : List (Ob RT den)) : Option (OutX RT den) := none
def pc_spec_LastOf (fu : Nat) : Pc RT den := ⟨pcf_spec_LastOf fu, fun _ => false, fun _ => false, pcx_spec_LastOf fu⟩
def msk_spec_LastOf (b : Nat) : List Nat := []
def lp_spec_LastOf (fu : Nat) : Lp RT den (S_impl_Entry) := fun b s k => none
theorem ev_spec_LastOf (fu : Nat) (log_0 : (Sl S_impl_Entry)) : evFun E (pc_spec_LastOf fu) msk_spec_LastOf (lp_spec_LastOf fu) out_impl_Entry 90 [(.rs log_0.z .impl_Entry log_0.n log_0.f)] = F_spec_LastOf fu log_0 := by kernel_rfl
noncomputable def body_spec_LastOf : Code := Try.f90.body.getD .skip
theorem lpok_spec_LastOf (fu : Nat) : LpOk E (pc_spec_LastOf fu) msk_spec_LastOf (lp_spec_LastOf fu) (loops 0 body_spec_LastOf) := by
  have h : loops 0 body_spec_LastOf = [] := by kernel_rfl
  rw [h]; intro p hp; cases hp
def S_spec_LastOf (fu : Nat) (xs : List (D RT den)) : Option (Out RT den) := match xs with | [.rs za0_0 .impl_Entry na0_0 fa0_0] => some ⟨S_impl_Entry, F_spec_LastOf fu (⟨za0_0, na0_0, fa0_0⟩ : (Sl S_impl_Entry)), enc_impl_Entry, fun _ => true⟩ | _ => none
theorem hpc_spec_LastOf (fu : Nat) : ∀ f xs o, pcf_spec_LastOf fu f xs = some o → ∀ y, o.x = some y → Good E Try.prog f xs (o.g y) := by
  intro f xs o h
  cases h
theorem hpx_spec_LastOf (fu : Nat) : ∀ f xs ins o, pcx_spec_LastOf fu f xs ins = some o → ∀ y, o.x = some y → GoodX E Try.prog f xs ins (o.g y).1 (o.g y).2 := by
  intro f xs ins o h
  cases h
theorem goodv_spec_LastOf (fu : Nat) (log_0 : (Sl S_impl_Entry)) (y : S_impl_Entry) (hy : F_spec_LastOf fu log_0 = some y) : Good E Try.prog 90 [(.rs log_0.z .impl_Entry log_0.n log_0.f)] (enc_impl_Entry y) :=
  fun_good E_ok (pc_good (pc := pc_spec_LastOf fu) (hpc_spec_LastOf fu) (hpx_spec_LastOf fu)) (fn := Try.f90) (c := body_spec_LastOf) (out := out_impl_Entry) (y := y) (by kernel_rfl) (by kernel_rfl) (by kernel_rfl) (lpok_spec_LastOf fu) (fun d hd => out_impl_Entry_enc d _ hd) ((ev_spec_LastOf fu log_0).trans hy)
theorem good_spec_LastOf (fu : Nat) : ∀ xs o, S_spec_LastOf fu xs = some o → ∀ y, o.x = some y → Good E Try.prog 90 xs (o.g y) := by
  intro xs o h y hy
  unfold S_spec_LastOf at h
  split at h
  · rename_i za0_0 na0_0 fa0_0
    cases h
    exact goodv_spec_LastOf fu (⟨za0_0, na0_0, fa0_0⟩ : (Sl S_impl_Entry)) y hy
  · cases h

/-! spec.l8Rises -/
def F_spec_l8Rises_B0 {ρ : Type} (fu : Nat) (list0_0 : (Sl Int)) (k0 : Option ρ) (k1 : Option ρ) (i3_1 : Int) (go : Int → Option ρ) : Option ρ :=
  (bif (decide (i3_1 < ((list0_0.n : Nat) : Int))) then ((bif (decide (0 ≤ i3_1) && decide ((Int.toNat i3_1) < list0_0.n)) then some () else none : Option Unit).bind fun _ => ((bif (decide (0 ≤ (IntKind.wrap .i64 (i3_1 - 1))) &&
    decide ((Int.toNat (IntKind.wrap .i64 (i3_1 - 1))) < list0_0.n)) then some () else none : Option Unit).bind fun _ => (bif (decide ((list0_0.f (Int.toNat i3_1)) ≤ (list0_0.f (Int.toNat (IntKind.wrap .i64 (i3_1 - 1)))))) then
    k0 else (go (IntKind.wrap .i64 (i3_1 + 1)))))) else k1)
def F_spec_l8Rises (fu : Nat) (list_0 : (Sl Int)) : Option (Bool) :=
  (L (fun w0 go0 => F_spec_l8Rises_B0 fu list_0 (some false) (some true) w0 go0) fu (1 : Int))
def pcf_spec_l8Rises (fu : Nat) (f : Nat) (xs : List (D RT den)) : Option (Out RT den) := none
def pcx_spec_l8Rises (fu : Nat) (f : Nat) (xs : List (D RT den)) (ins : List (Ob RT den)) : Option (OutX RT den) := none
def pc_spec_l8Rises (fu : Nat) : Pc RT den := ⟨pcf_spec_l8Rises fu, fun _ => false, fun _ => false, pcx_spec_l8Rises fu⟩
def msk_spec_l8Rises (b : Nat) : List Nat := match b with | 0 => [1, 2, 4, 5, 6, 7, 8, 9, 10, 11, 12, 13, 14, 15, 16, 17, 18, 19] | 100000 => [0, 1, 3, 4, 5, 6, 7, 8, 9, 10, 11, 12, 13, 14, 15, 16, 17, 18, 19] | _ => []
def ps_spec_l8Rises_0 : List (Pat RT) := [.flat (.rs .i64), .flat .dead, .flat .dead, .flat (.int .i64), .flat .dead, .flat .dead, .flat .dead, .flat .dead, .flat .dead, .flat .dead, .flat .dead, .flat .dead, .flat .dead, .flat .dead, .flat .dead, .flat .dead, .flat .dead, .flat .dead, .flat .dead, .flat .dead]
def os_spec_l8Rises_0 : List (OP RT) := []
def conv_spec_l8Rises_0 (r : Raw den ps_spec_l8Rises_0 os_spec_l8Rises_0) : ((Sl Int)) × (Int) := (r.1.1, r.1.2.2.2.1)
def back_spec_l8Rises_0 (c : (Sl Int)) (w : Int) : St RT den := ⟨[(.rs c.z .i64 c.n c.f), .dead, .dead, (.int .i64 w), .dead, .dead, .dead, .dead, .dead, .dead, .dead, .dead, .dead, .dead, .dead, .dead, .dead, .dead, .dead, .dead], []⟩
def Bk_spec_l8Rises_0 {ρ : Type} (fu : Nat) (c : (Sl Int)) (k : Ex → St RT den → Option ρ) (w : Int) (go : (Int) → Option ρ) : Option ρ := F_spec_l8Rises_B0 fu c (k .ret ⟨[.dead, .dead, (.bool false), .dead, .dead, .dead, .dead, .dead, .dead, .dead, .dead, .dead, .dead, .dead, .dead, .dead, .dead, .dead, .dead, .dead], []⟩) (k (.exit 0) ⟨[.dead, .dead, .dead, .dead, .dead, .dead, .dead, .dead, .dead, .dead, .dead, .dead, .dead, .dead, .dead, .dead, .dead, .dead, .dead, .dead], []⟩) w go
def lp_spec_l8Rises (fu : Nat) : Lp RT den (Bool) := fun b s k => match b with | 0 => handle ps_spec_l8Rises_0 os_spec_l8Rises_0 conv_spec_l8Rises_0 (Bk_spec_l8Rises_0 fu) fu s k | _ => none
theorem ev_spec_l8Rises (fu : Nat) (list_0 : (Sl Int)) : evFun E (pc_spec_l8Rises fu) msk_spec_l8Rises (lp_spec_l8Rises fu) out_bo 113 [(.rs list_0.z .i64 list_0.n list_0.f)] = F_spec_l8Rises fu list_0 := by kernel_rfl
noncomputable def body_spec_l8Rises : Code := Try.f113.body.getD .skip
noncomputable def lc_spec_l8Rises_0 : Code := ((loops 0 body_spec_l8Rises).getD 0 (0, .skip)).2
theorem round_spec_l8Rises_0 (fu : Nat) (it : St RT den → Option (Bool)) (k : Ex → St RT den → Option (Bool)) c w : evCode E (pc_spec_l8Rises fu) msk_spec_l8Rises (lp_spec_l8Rises fu) 0 lc_spec_l8Rises_0 (back_spec_l8Rises_0 c w) (after (msk_spec_l8Rises 0) (msk_spec_l8Rises 100000) 0 it k) = Bk_spec_l8Rises_0 fu c k w (fun w => it (back_spec_l8Rises_0 c w)) := by kernel_rfl
theorem lpok_spec_l8Rises_0 (fu : Nat) : ∀ s k r, lp_spec_l8Rises fu 0 s k = some r → ∃ fuel, iter (msk_spec_l8Rises 0) (msk_spec_l8Rises 100000) s.objs.length (evCode E (pc_spec_l8Rises fu) msk_spec_l8Rises (lp_spec_l8Rises fu) 0 lc_spec_l8Rises_0) fuel s k = some r :=
  handle_ok (ps := ps_spec_l8Rises_0) (os := os_spec_l8Rises_0) (conv := conv_spec_l8Rises_0) (B := Bk_spec_l8Rises_0 fu) (fu := fu) back_spec_l8Rises_0 (fun raw => by kernel_rfl) 0 (fun c w => by kernel_rfl) (round_spec_l8Rises_0 fu)
theorem lpok_spec_l8Rises (fu : Nat) : LpOk E (pc_spec_l8Rises fu) msk_spec_l8Rises (lp_spec_l8Rises fu) (loops 0 body_spec_l8Rises) := loop_all 1 (by kernel_rfl) fun i hi => match i, hi with
  | 0, _ => by
    have h : (loops 0 body_spec_l8Rises).getD 0 (0, .skip) = (0, lc_spec_l8Rises_0) := by kernel_rfl
    rw [h]; exact lpok_spec_l8Rises_0 fu
  | i + 1, hi => absurd hi (by omega)
def S_spec_l8Rises (fu : Nat) (xs : List (D RT den)) : Option (Out RT den) := match xs with | [.rs za0_0 .i64 na0_0 fa0_0] => some ⟨Bool, F_spec_l8Rises fu (⟨za0_0, na0_0, fa0_0⟩ : (Sl Int)), enc_bo, fun _ => true⟩ | _ => none
theorem hpc_spec_l8Rises (fu : Nat) : ∀ f xs o, pcf_spec_l8Rises fu f xs = some o → ∀ y, o.x = some y → Good E Try.prog f xs (o.g y) := by
  intro f xs o h
  cases h
theorem hpx_spec_l8Rises (fu : Nat) : ∀ f xs ins o, pcx_spec_l8Rises fu f xs ins = some o → ∀ y, o.x = some y → GoodX E Try.prog f xs ins (o.g y).1 (o.g y).2 := by
  intro f xs ins o h
  cases h
theorem goodv_spec_l8Rises (fu : Nat) (list_0 : (Sl Int)) (y : Bool) (hy : F_spec_l8Rises fu list_0 = some y) : Good E Try.prog 113 [(.rs list_0.z .i64 list_0.n list_0.f)] (enc_bo y) :=
  fun_good E_ok (pc_good (pc := pc_spec_l8Rises fu) (hpc_spec_l8Rises fu) (hpx_spec_l8Rises fu)) (fn := Try.f113) (c := body_spec_l8Rises) (out := out_bo) (y := y) (by kernel_rfl) (by kernel_rfl) (by kernel_rfl) (lpok_spec_l8Rises fu) (fun d hd => out_bo_enc d _ hd) ((ev_spec_l8Rises fu list_0).trans hy)
theorem good_spec_l8Rises (fu : Nat) : ∀ xs o, S_spec_l8Rises fu xs = some o → ∀ y, o.x = some y → Good E Try.prog 113 xs (o.g y) := by
  intro xs o h y hy
  unfold S_spec_l8Rises at h
  split at h
  · rename_i za0_0 na0_0 fa0_0
    cases h
    exact goodv_spec_l8Rises fu (⟨za0_0, na0_0, fa0_0⟩ : (Sl Int)) y hy
  · cases h
end Go.Proofs.Ytmdjkdgjmbfegaa.Pc
