/- The functions' evaluated forms, each a proved summary. Conditions: none. -/
import Derived.Test.YtbcggnoogkfgkaaPcF2
namespace Go.Proofs.Ytbcggnoogkfgkaa.Pc
open Go Go.RowKit Go.Proofs Vm
set_option linter.unusedVariables false
set_option linter.unusedSimpArgs false
set_option maxRecDepth 100000
/-! laws.eqInt64S -/
def F_laws_eqInt64S_B0 {ρ : Type} (fu : Nat) (a0_0 : (Sl Int)) (b1_1 : (Sl Int)) (k0 : Option ρ) (k1 : Option ρ) (i5_2 : Int) (go : Int → Option ρ) : Option ρ :=
  (bif (decide (i5_2 < ((a0_0.n : Nat) : Int))) then ((bif (decide (0 ≤ i5_2) && decide ((Int.toNat i5_2) < a0_0.n)) then some () else none : Option Unit).bind fun _ => ((bif (decide (0 ≤ i5_2) &&
    decide ((Int.toNat i5_2) < b1_1.n)) then some () else none : Option Unit).bind fun _ => (bif ((a0_0.f (Int.toNat i5_2)) != (b1_1.f (Int.toNat i5_2))) then k0 else (go (IntKind.wrap .i64 (i5_2 + 1)))))) else
    k1)
def F_laws_eqInt64S (fu : Nat) (a_0 : (Sl Int)) (b_1 : (Sl Int)) : Option (Bool) :=
  (bif (((a_0.n : Nat) : Int) != ((b_1.n : Nat) : Int)) then (some false) else (L (fun w0 go0 => F_laws_eqInt64S_B0 fu a_0 b_1 (some false) (some true) w0 go0) fu (0 : Int)))
def pc_laws_eqInt64S (fu : Nat) : Pc RT den := fun f xs => none
def msk_laws_eqInt64S (b : Nat) : List Nat := match b with | 0 => [2, 3, 4, 6, 7, 8, 9, 10, 11, 12, 13, 14, 15, 16, 17, 18, 19, 20, 21, 22, 23, 24, 25] | 100000 => [0, 1, 2, 3, 5, 6, 7, 8, 9, 10, 11, 12, 13, 14, 15, 16, 17, 18, 19, 20, 21, 22, 23, 24, 25] | _ => []
def ps_laws_eqInt64S_0 : List (Pat RT) := [.flat (.rs .i64), .flat (.rs .i64), .flat .dead, .flat .dead, .flat .dead, .flat (.int .i64), .flat .dead, .flat .dead, .flat .dead, .flat .dead, .flat .dead, .flat .dead, .flat .dead, .flat .dead, .flat .dead, .flat .dead, .flat .dead, .flat .dead, .flat .dead, .flat .dead, .flat .dead, .flat .dead, .flat .dead, .flat .dead, .flat .dead, .flat .dead]
def os_laws_eqInt64S_0 : List (OP RT) := []
def conv_laws_eqInt64S_0 (r : Raw den ps_laws_eqInt64S_0 os_laws_eqInt64S_0) : ((Sl Int) × (Sl Int)) × (Int) := ((r.1.1, r.1.2.1), r.1.2.2.2.2.2.1)
def back_laws_eqInt64S_0 (c : (Sl Int) × (Sl Int)) (w : Int) : St RT den := ⟨[(.rs c.1.z .i64 c.1.n c.1.f), (.rs c.2.z .i64 c.2.n c.2.f), .dead, .dead, .dead, (.int .i64 w), .dead, .dead, .dead, .dead, .dead, .dead, .dead, .dead, .dead, .dead, .dead, .dead, .dead, .dead, .dead, .dead, .dead, .dead, .dead, .dead], []⟩
def Bk_laws_eqInt64S_0 {ρ : Type} (fu : Nat) (c : (Sl Int) × (Sl Int)) (k : Ex → St RT den → Option ρ) (w : Int) (go : (Int) → Option ρ) : Option ρ := F_laws_eqInt64S_B0 fu c.1 c.2 (k .ret ⟨[.dead, .dead, .dead, .dead, (.bool false), .dead, .dead, .dead, .dead, .dead, .dead, .dead, .dead, .dead, .dead, .dead, .dead, .dead, .dead, .dead, .dead, .dead, .dead, .dead, .dead, .dead], []⟩) (k (.exit 0) ⟨[.dead, .dead, .dead, .dead, .dead, .dead, .dead, .dead, .dead, .dead, .dead, .dead, .dead, .dead, .dead, .dead, .dead, .dead, .dead, .dead, .dead, .dead, .dead, .dead, .dead, .dead], []⟩) w go
def lp_laws_eqInt64S (fu : Nat) : Lp RT den (Bool) := fun b s k => match b with | 0 => handle ps_laws_eqInt64S_0 os_laws_eqInt64S_0 conv_laws_eqInt64S_0 (Bk_laws_eqInt64S_0 fu) fu s k | _ => none
theorem ev_laws_eqInt64S (fu : Nat) (a_0 : (Sl Int)) (b_1 : (Sl Int)) : evFun E (pc_laws_eqInt64S fu) msk_laws_eqInt64S (lp_laws_eqInt64S fu) out_b 48 [(.rs a_0.z .i64 a_0.n a_0.f), (.rs b_1.z .i64 b_1.n b_1.f)] = F_laws_eqInt64S fu a_0 b_1 := by kernel_rfl
noncomputable def body_laws_eqInt64S : Code := Try.f48.body.getD .skip
noncomputable def lc_laws_eqInt64S_0 : Code := ((loops 0 body_laws_eqInt64S).getD 0 (0, .skip)).2
theorem round_laws_eqInt64S_0 (fu : Nat) (it : St RT den → Option (Bool)) (k : Ex → St RT den → Option (Bool)) c w : evCode E (pc_laws_eqInt64S fu) msk_laws_eqInt64S (lp_laws_eqInt64S fu) 0 lc_laws_eqInt64S_0 (back_laws_eqInt64S_0 c w) (after (msk_laws_eqInt64S 0) (msk_laws_eqInt64S 100000) 0 it k) = Bk_laws_eqInt64S_0 fu c k w (fun w => it (back_laws_eqInt64S_0 c w)) := by kernel_rfl
theorem lpok_laws_eqInt64S_0 (fu : Nat) : ∀ s k r, lp_laws_eqInt64S fu 0 s k = some r → ∃ fuel, iter (msk_laws_eqInt64S 0) (msk_laws_eqInt64S 100000) s.objs.length (evCode E (pc_laws_eqInt64S fu) msk_laws_eqInt64S (lp_laws_eqInt64S fu) 0 lc_laws_eqInt64S_0) fuel s k = some r :=
  handle_ok (ps := ps_laws_eqInt64S_0) (os := os_laws_eqInt64S_0) (conv := conv_laws_eqInt64S_0) (B := Bk_laws_eqInt64S_0 fu) (fu := fu) back_laws_eqInt64S_0 (fun raw => by kernel_rfl) 0 (fun c w => by kernel_rfl) (round_laws_eqInt64S_0 fu)
theorem lpok_laws_eqInt64S (fu : Nat) : LpOk E (pc_laws_eqInt64S fu) msk_laws_eqInt64S (lp_laws_eqInt64S fu) (loops 0 body_laws_eqInt64S) := loop_all 1 (by kernel_rfl) fun i hi => match i, hi with
  | 0, _ => by
    have h : (loops 0 body_laws_eqInt64S).getD 0 (0, .skip) = (0, lc_laws_eqInt64S_0) := by kernel_rfl
    rw [h]; exact lpok_laws_eqInt64S_0 fu
  | i + 1, hi => absurd hi (by omega)
def S_laws_eqInt64S (fu : Nat) (xs : List (D RT den)) : Option (Out RT den) := match xs with | [.rs za0_0 .i64 na0_0 fa0_0, .rs za1_0 .i64 na1_0 fa1_0] => some ⟨Bool, F_laws_eqInt64S fu (⟨za0_0, na0_0, fa0_0⟩ : (Sl Int)) (⟨za1_0, na1_0, fa1_0⟩ : (Sl Int)), enc_b, fun _ => true⟩ | _ => none
theorem hpc_laws_eqInt64S (fu : Nat) : ∀ f xs o, pc_laws_eqInt64S fu f xs = some o → ∀ y, o.x = some y → Good E Try.prog f xs (o.g y) := by
  intro f xs o h
  cases h
theorem goodv_laws_eqInt64S (fu : Nat) (a_0 : (Sl Int)) (b_1 : (Sl Int)) (y : Bool) (hy : F_laws_eqInt64S fu a_0 b_1 = some y) : Good E Try.prog 48 [(.rs a_0.z .i64 a_0.n a_0.f), (.rs b_1.z .i64 b_1.n b_1.f)] (enc_b y) :=
  fun_good E_ok (pc_good (hpc_laws_eqInt64S fu)) (fn := Try.f48) (c := body_laws_eqInt64S) (out := out_b) (y := y) (by kernel_rfl) (by kernel_rfl) (by kernel_rfl) (lpok_laws_eqInt64S fu) (fun d hd => out_b_enc d _ hd) ((ev_laws_eqInt64S fu a_0 b_1).trans hy)
theorem good_laws_eqInt64S (fu : Nat) : ∀ xs o, S_laws_eqInt64S fu xs = some o → ∀ y, o.x = some y → Good E Try.prog 48 xs (o.g y) := by
  intro xs o h y hy
  unfold S_laws_eqInt64S at h
  split at h
  · rename_i za0_0 na0_0 fa0_0 za1_0 na1_0 fa1_0
    cases h
    exact goodv_laws_eqInt64S fu (⟨za0_0, na0_0, fa0_0⟩ : (Sl Int)) (⟨za1_0, na1_0, fa1_0⟩ : (Sl Int)) y hy
  · cases h

/-! laws.eqNode -/
def F_laws_eqNode (fu : Nat) (a_0 : S_impl_Node) (b_1 : S_impl_Node) : Option (Bool) :=
  (bif (a_0.Id != b_1.Id) then (some false) else (bif (a_0.Peers != b_1.Peers) then (some false) else (bif (a_0.Term != b_1.Term) then (some false) else (bif (a_0.Voted != b_1.Voted) then
    (some false) else ((F_laws_eqEntryS fu a_0.Log b_1.Log).bind fun y254 => (bif (!y254) then (some false) else (bif (a_0.Role != b_1.Role) then (some false) else (bif (a_0.Commit != b_1.Commit) then
    (some false) else ((F_laws_eqInt64S fu a_0.Votes b_1.Votes).bind fun y255 => (bif (!y255) then (some false) else ((F_laws_eqInt64S fu a_0.Next b_1.Next).bind fun y256 => (bif (!y256) then
    (some false) else ((F_laws_eqInt64S fu a_0.Match b_1.Match).bind fun y257 => (bif (!y257) then (some false) else (some true)))))))))))))))
def pc_laws_eqNode (fu : Nat) : Pc RT den := fun f xs => match f with | 13 => S_laws_eqEntryS fu xs | 48 => S_laws_eqInt64S fu xs | _ => none
def msk_laws_eqNode (b : Nat) : List Nat := []
def lp_laws_eqNode (fu : Nat) : Lp RT den (Bool) := fun b s k => none
theorem ev_laws_eqNode (fu : Nat) (a_0 : S_impl_Node) (b_1 : S_impl_Node) : evFun E (pc_laws_eqNode fu) msk_laws_eqNode (lp_laws_eqNode fu) out_b 27 [(.agg [(.int .i64 a_0.Id), (.int .i64 a_0.Peers), (.int .i64 a_0.Term), (.int .i64 a_0.Voted), (.rs a_0.Log.z .impl_Entry a_0.Log.n a_0.Log.f), (.int .i64 a_0.Role), (.int .i64 a_0.Commit), (.rs a_0.Votes.z .i64 a_0.Votes.n a_0.Votes.f), (.rs a_0.Next.z .i64 a_0.Next.n a_0.Next.f), (.rs a_0.Match.z .i64 a_0.Match.n a_0.Match.f)]), (.agg [(.int .i64 b_1.Id), (.int .i64 b_1.Peers), (.int .i64 b_1.Term), (.int .i64 b_1.Voted), (.rs b_1.Log.z .impl_Entry b_1.Log.n b_1.Log.f), (.int .i64 b_1.Role), (.int .i64 b_1.Commit), (.rs b_1.Votes.z .i64 b_1.Votes.n b_1.Votes.f), (.rs b_1.Next.z .i64 b_1.Next.n b_1.Next.f), (.rs b_1.Match.z .i64 b_1.Match.n b_1.Match.f)])] = F_laws_eqNode fu a_0 b_1 := by kernel_rfl
noncomputable def body_laws_eqNode : Code := Try.f27.body.getD .skip
theorem lpok_laws_eqNode (fu : Nat) : LpOk E (pc_laws_eqNode fu) msk_laws_eqNode (lp_laws_eqNode fu) (loops 0 body_laws_eqNode) := by
  have h : loops 0 body_laws_eqNode = [] := by kernel_rfl
  rw [h]; intro p hp; cases hp
def S_laws_eqNode (fu : Nat) (xs : List (D RT den)) : Option (Out RT den) := match xs with | [.agg [.int .i64 a0_1, .int .i64 a0_2, .int .i64 a0_3, .int .i64 a0_4, .rs za0_5 .impl_Entry na0_5 fa0_5, .int .i64 a0_6, .int .i64 a0_7, .rs za0_8 .i64 na0_8 fa0_8, .rs za0_9 .i64 na0_9 fa0_9, .rs za0_10 .i64 na0_10 fa0_10], .agg [.int .i64 a1_1, .int .i64 a1_2, .int .i64 a1_3, .int .i64 a1_4, .rs za1_5 .impl_Entry na1_5 fa1_5, .int .i64 a1_6, .int .i64 a1_7, .rs za1_8 .i64 na1_8 fa1_8, .rs za1_9 .i64 na1_9 fa1_9, .rs za1_10 .i64 na1_10 fa1_10]] => some ⟨Bool, F_laws_eqNode fu (⟨a0_1, a0_2, a0_3, a0_4, (⟨za0_5, na0_5, fa0_5⟩ : (Sl S_impl_Entry)), a0_6, a0_7, (⟨za0_8, na0_8, fa0_8⟩ : (Sl Int)), (⟨za0_9, na0_9, fa0_9⟩ : (Sl Int)), (⟨za0_10, na0_10, fa0_10⟩ : (Sl Int))⟩ : S_impl_Node) (⟨a1_1, a1_2, a1_3, a1_4, (⟨za1_5, na1_5, fa1_5⟩ : (Sl S_impl_Entry)), a1_6, a1_7, (⟨za1_8, na1_8, fa1_8⟩ : (Sl Int)), (⟨za1_9, na1_9, fa1_9⟩ : (Sl Int)), (⟨za1_10, na1_10, fa1_10⟩ : (Sl Int))⟩ : S_impl_Node), enc_b, fun _ => true⟩ | _ => none
theorem hpc_laws_eqNode (fu : Nat) : ∀ f xs o, pc_laws_eqNode fu f xs = some o → ∀ y, o.x = some y → Good E Try.prog f xs (o.g y) := by
  intro f xs o h
  unfold pc_laws_eqNode at h
  split at h
  · exact good_laws_eqEntryS fu xs o h
  · exact good_laws_eqInt64S fu xs o h
  · cases h
theorem goodv_laws_eqNode (fu : Nat) (a_0 : S_impl_Node) (b_1 : S_impl_Node) (y : Bool) (hy : F_laws_eqNode fu a_0 b_1 = some y) : Good E Try.prog 27 [(.agg [(.int .i64 a_0.Id), (.int .i64 a_0.Peers), (.int .i64 a_0.Term), (.int .i64 a_0.Voted), (.rs a_0.Log.z .impl_Entry a_0.Log.n a_0.Log.f), (.int .i64 a_0.Role), (.int .i64 a_0.Commit), (.rs a_0.Votes.z .i64 a_0.Votes.n a_0.Votes.f), (.rs a_0.Next.z .i64 a_0.Next.n a_0.Next.f), (.rs a_0.Match.z .i64 a_0.Match.n a_0.Match.f)]), (.agg [(.int .i64 b_1.Id), (.int .i64 b_1.Peers), (.int .i64 b_1.Term), (.int .i64 b_1.Voted), (.rs b_1.Log.z .impl_Entry b_1.Log.n b_1.Log.f), (.int .i64 b_1.Role), (.int .i64 b_1.Commit), (.rs b_1.Votes.z .i64 b_1.Votes.n b_1.Votes.f), (.rs b_1.Next.z .i64 b_1.Next.n b_1.Next.f), (.rs b_1.Match.z .i64 b_1.Match.n b_1.Match.f)])] (enc_b y) :=
  fun_good E_ok (pc_good (hpc_laws_eqNode fu)) (fn := Try.f27) (c := body_laws_eqNode) (out := out_b) (y := y) (by kernel_rfl) (by kernel_rfl) (by kernel_rfl) (lpok_laws_eqNode fu) (fun d hd => out_b_enc d _ hd) ((ev_laws_eqNode fu a_0 b_1).trans hy)
theorem good_laws_eqNode (fu : Nat) : ∀ xs o, S_laws_eqNode fu xs = some o → ∀ y, o.x = some y → Good E Try.prog 27 xs (o.g y) := by
  intro xs o h y hy
  unfold S_laws_eqNode at h
  split at h
  · rename_i a0_1 a0_2 a0_3 a0_4 za0_5 na0_5 fa0_5 a0_6 a0_7 za0_8 na0_8 fa0_8 za0_9 na0_9 fa0_9 za0_10 na0_10 fa0_10 a1_1 a1_2 a1_3 a1_4 za1_5 na1_5 fa1_5 a1_6 a1_7 za1_8 na1_8 fa1_8 za1_9 na1_9 fa1_9 za1_10 na1_10 fa1_10
    cases h
    exact goodv_laws_eqNode fu (⟨a0_1, a0_2, a0_3, a0_4, (⟨za0_5, na0_5, fa0_5⟩ : (Sl S_impl_Entry)), a0_6, a0_7, (⟨za0_8, na0_8, fa0_8⟩ : (Sl Int)), (⟨za0_9, na0_9, fa0_9⟩ : (Sl Int)), (⟨za0_10, na0_10, fa0_10⟩ : (Sl Int))⟩ : S_impl_Node) (⟨a1_1, a1_2, a1_3, a1_4, (⟨za1_5, na1_5, fa1_5⟩ : (Sl S_impl_Entry)), a1_6, a1_7, (⟨za1_8, na1_8, fa1_8⟩ : (Sl Int)), (⟨za1_9, na1_9, fa1_9⟩ : (Sl Int)), (⟨za1_10, na1_10, fa1_10⟩ : (Sl Int))⟩ : S_impl_Node) y hy
  · cases h

/-! laws.FnExactNodeFault -/
def F_laws_FnExactNodeFault (fu : Nat) (aN_0 : S_laws_Node) : Option (Bool) :=
  ((F_laws_szNode fu aN_0 1048576).bind fun y182 => (bif (decide (y182 < 0)) then (some true) else ((F_laws_toNode fu aN_0).bind fun y183 => ((F_spec_NodeFault fu y183).bind fun y184 =>
    ((F_laws_toNode fu aN_0).bind fun y185 => ((F_impl_NodeFault fu y185).bind fun y186 => (bif (y186 != y184) then (some false) else ((F_laws_toNode fu aN_0).bind fun y187 =>
    ((F_laws_eqNode fu y185 y187).bind fun y188 => (bif (!y188) then (some false) else (some true)))))))))))
def pc_laws_FnExactNodeFault (fu : Nat) : Pc RT den := fun f xs => match f with | 23 => S_laws_szNode fu xs | 24 => S_spec_NodeFault fu xs | 25 => S_laws_toNode fu xs | 26 => S_impl_NodeFault fu xs | 27 => S_laws_eqNode fu xs | _ => none
def msk_laws_FnExactNodeFault (b : Nat) : List Nat := []
def lp_laws_FnExactNodeFault (fu : Nat) : Lp RT den (Bool) := fun b s k => none
theorem ev_laws_FnExactNodeFault (fu : Nat) (aN_0 : S_laws_Node) : evFun E (pc_laws_FnExactNodeFault fu) msk_laws_FnExactNodeFault (lp_laws_FnExactNodeFault fu) out_b 8 [(.agg [(.int .i64 aN_0.Id), (.int .i64 aN_0.Peers), (.int .i64 aN_0.Term), (.int .i64 aN_0.Voted), (.rs aN_0.Log.z .laws_Entry aN_0.Log.n aN_0.Log.f), (.int .i64 aN_0.Role), (.int .i64 aN_0.Commit), (.rs aN_0.Votes.z .i64 aN_0.Votes.n aN_0.Votes.f), (.rs aN_0.Next.z .i64 aN_0.Next.n aN_0.Next.f), (.rs aN_0.Match.z .i64 aN_0.Match.n aN_0.Match.f)])] = F_laws_FnExactNodeFault fu aN_0 := by kernel_rfl
noncomputable def body_laws_FnExactNodeFault : Code := Try.f8.body.getD .skip
theorem lpok_laws_FnExactNodeFault (fu : Nat) : LpOk E (pc_laws_FnExactNodeFault fu) msk_laws_FnExactNodeFault (lp_laws_FnExactNodeFault fu) (loops 0 body_laws_FnExactNodeFault) := by
  have h : loops 0 body_laws_FnExactNodeFault = [] := by kernel_rfl
  rw [h]; intro p hp; cases hp
def S_laws_FnExactNodeFault (fu : Nat) (xs : List (D RT den)) : Option (Out RT den) := match xs with | [.agg [.int .i64 a0_1, .int .i64 a0_2, .int .i64 a0_3, .int .i64 a0_4, .rs za0_5 .laws_Entry na0_5 fa0_5, .int .i64 a0_6, .int .i64 a0_7, .rs za0_8 .i64 na0_8 fa0_8, .rs za0_9 .i64 na0_9 fa0_9, .rs za0_10 .i64 na0_10 fa0_10]] => some ⟨Bool, F_laws_FnExactNodeFault fu (⟨a0_1, a0_2, a0_3, a0_4, (⟨za0_5, na0_5, fa0_5⟩ : (Sl S_laws_Entry)), a0_6, a0_7, (⟨za0_8, na0_8, fa0_8⟩ : (Sl Int)), (⟨za0_9, na0_9, fa0_9⟩ : (Sl Int)), (⟨za0_10, na0_10, fa0_10⟩ : (Sl Int))⟩ : S_laws_Node), enc_b, fun _ => true⟩ | _ => none
theorem hpc_laws_FnExactNodeFault (fu : Nat) : ∀ f xs o, pc_laws_FnExactNodeFault fu f xs = some o → ∀ y, o.x = some y → Good E Try.prog f xs (o.g y) := by
  intro f xs o h
  unfold pc_laws_FnExactNodeFault at h
  split at h
  · exact good_laws_szNode fu xs o h
  · exact good_spec_NodeFault fu xs o h
  · exact good_laws_toNode fu xs o h
  · exact good_impl_NodeFault fu xs o h
  · exact good_laws_eqNode fu xs o h
  · cases h
theorem goodv_laws_FnExactNodeFault (fu : Nat) (aN_0 : S_laws_Node) (y : Bool) (hy : F_laws_FnExactNodeFault fu aN_0 = some y) : Good E Try.prog 8 [(.agg [(.int .i64 aN_0.Id), (.int .i64 aN_0.Peers), (.int .i64 aN_0.Term), (.int .i64 aN_0.Voted), (.rs aN_0.Log.z .laws_Entry aN_0.Log.n aN_0.Log.f), (.int .i64 aN_0.Role), (.int .i64 aN_0.Commit), (.rs aN_0.Votes.z .i64 aN_0.Votes.n aN_0.Votes.f), (.rs aN_0.Next.z .i64 aN_0.Next.n aN_0.Next.f), (.rs aN_0.Match.z .i64 aN_0.Match.n aN_0.Match.f)])] (enc_b y) :=
  fun_good E_ok (pc_good (hpc_laws_FnExactNodeFault fu)) (fn := Try.f8) (c := body_laws_FnExactNodeFault) (out := out_b) (y := y) (by kernel_rfl) (by kernel_rfl) (by kernel_rfl) (lpok_laws_FnExactNodeFault fu) (fun d hd => out_b_enc d _ hd) ((ev_laws_FnExactNodeFault fu aN_0).trans hy)
theorem good_laws_FnExactNodeFault (fu : Nat) : ∀ xs o, S_laws_FnExactNodeFault fu xs = some o → ∀ y, o.x = some y → Good E Try.prog 8 xs (o.g y) := by
  intro xs o h y hy
  unfold S_laws_FnExactNodeFault at h
  split at h
  · rename_i a0_1 a0_2 a0_3 a0_4 za0_5 na0_5 fa0_5 a0_6 a0_7 za0_8 na0_8 fa0_8 za0_9 na0_9 fa0_9 za0_10 na0_10 fa0_10
    cases h
    exact goodv_laws_FnExactNodeFault fu (⟨a0_1, a0_2, a0_3, a0_4, (⟨za0_5, na0_5, fa0_5⟩ : (Sl S_laws_Entry)), a0_6, a0_7, (⟨za0_8, na0_8, fa0_8⟩ : (Sl Int)), (⟨za0_9, na0_9, fa0_9⟩ : (Sl Int)), (⟨za0_10, na0_10, fa0_10⟩ : (Sl Int))⟩ : S_laws_Node) y hy
  · cases h
end Go.Proofs.Ytbcggnoogkfgkaa.Pc
