/- The law of what a leader is asked. Conditions: none. -/
import Derived.Test.YtohlgllpplbehaaPcPlAgree
namespace Go.Proofs.Ytohlgllpplbehaa.Pc
open Go Go.RowKit Go.Proofs Vm
set_option linter.unusedVariables false
set_option linter.unusedSimpArgs false
set_option maxRecDepth 100000

/-- A result that tells a node and no mails. -/
def likeN (x : Option S_impl_NodeResult) (r : S_impl_NodeResult) : Prop :=
  ∃ z1 z2 z3 z4, x = some ⟨r.Code, ⟨r.Node.Id, r.Node.Peers, r.Node.Term, r.Node.Voted, ⟨z1, r.Node.Log.n, r.Node.Log.f⟩, r.Node.Role, r.Node.Commit, ⟨z2, r.Node.Votes.n, r.Node.Votes.f⟩, ⟨z3, r.Node.Next.n, r.Node.Next.f⟩, ⟨z4, r.Node.Match.n, r.Node.Match.f⟩⟩, ⟨some true, 0, fun _ => dflt .impl_Mail⟩⟩
def sl0 (τ : RT) : Sl (den τ) := ⟨none, 0, fun _ => dflt τ⟩
def badN (c : Int) : S_impl_NodeResult := ⟨c, ⟨0, 0, 0, 0, sl0 .impl_Entry, 0, 0, sl0 .i64, sl0 .i64, sl0 .i64⟩, ⟨some true, 0, fun _ => dflt .impl_Mail⟩⟩
theorem likeN_bad (c : Int) : likeN (some ⟨c, ⟨0, 0, 0, 0, ⟨some true, 0, fun _ => dflt .impl_Entry⟩, 0, 0, ⟨some true, 0, fun _ => dflt .i64⟩, ⟨some true, 0, fun _ => dflt .i64⟩, ⟨some true, 0, fun _ => dflt .i64⟩⟩, ⟨some true, 0, fun _ => dflt .impl_Mail⟩⟩) (badN c) := ⟨_, _, _, _, rfl⟩
theorem badN_len (c : Int) : NodeLen (badN c).Node := ⟨Nat.zero_le _, Nat.zero_le _, Nat.zero_le _, Nat.zero_le _⟩

/-- The log with an entry behind it. -/
def behindE (l : Sl S_impl_Entry) (e : S_impl_Entry) : Nat → S_impl_Entry := fun i => if i < l.n then l.f i else [e].getD (i - l.n) (dflt .impl_Entry)
def askN (x : S_impl_Node) (e : S_impl_Entry) : S_impl_Node :=
  ⟨x.Id, x.Peers, x.Term, x.Voted, ⟨none, x.Log.n + 1, behindE x.Log e⟩, x.Role,
    agr x.Peers x.Term (x.Log.n + 1) (behindE x.Log e) x.Match.n (fun j => if j = x.Id.toNat then ((x.Log.n + 1 : Nat) : Int) else x.Match.f j) x.Commit,
    fresh x.Votes, ⟨none, x.Next.n, fun j => if j = x.Id.toNat then ((x.Log.n + 1 : Nat) : Int) + 1 else x.Next.f j⟩, ⟨none, x.Match.n, fun j => if j = x.Id.toNat then ((x.Log.n + 1 : Nat) : Int) else x.Match.f j⟩⟩
def askR (x : S_impl_Node) (e : S_impl_Entry) : S_impl_NodeResult :=
  bif nodef x != 0 then badN (nodef x) else bif x.Role != 2 then badN 10 else bif entf e != 0 then badN (entf e) else bif e.Term != x.Term then badN 1 else bif decide (40 ≤ x.Log.n) then badN 2 else ⟨0, askN x e, ⟨some true, 0, fun _ => dflt .impl_Mail⟩⟩

theorem right_lead {x : S_impl_Node} (h : Right x) (hr : (x.Role != 2) = false) : x.Id.toNat < x.Match.n ∧ x.Id.toNat < x.Next.n := by
  have e : x.Role = 2 := by simpa using hr
  have hw : want x = x.Peers := by unfold want; rw [e]; rfl
  have := h.next
  have := h.mat
  have := h.id
  rw [hw] at *
  omega

theorem s_AskNode {fu : Nat} (hf : 2000000 ≤ fu) (x : S_impl_Node) (e : S_impl_Entry) (hx : NodeLen x) : likeN (F_spec_AskNode_H fu x e) (askR x e) := by
  unfold F_spec_AskNode_H askR F_spec_l8Bad_E
  simp only [s_NodeFault0 hf x hx, s_EntryFault, Option.bind_some]
  cases h1 : (nodef x != 0) with
  | true => exact likeN_bad _
  | false =>
  cases h2 : (x.Role != 2) with
  | true => exact likeN_bad _
  | false =>
  simp only [cond_false]
  cases h3 : (entf e != 0) with
  | true => exact likeN_bad _
  | false =>
  cases h4 : (e.Term != x.Term) with
  | true => exact likeN_bad _
  | false =>
  simp only [cond_false]
  rw [show decide ((x.Log.n : Int) ≥ 40) = decide (40 ≤ x.Log.n) from decide_eq_decide.2 (by omega)]
  cases h5 : decide (40 ≤ x.Log.n) with
  | true => exact likeN_bad _
  | false =>
  have hR := nodef_right h1
  obtain ⟨i1, i2⟩ := right_lead hR h2
  have hi := hR.id
  have hc := hR.commit
  have hl := logf_len hR.log
  have k1 : x.Log.n + 1 ≤ 9223372036854775807 := by omega
  have k2 : (x.Log.n + 1) * 72 ≤ 140737488355328 := by omega
  have k3 : IntKind.wrap .i64 (((x.Log.n + 1 : Nat) : Int) + 1) = ((x.Log.n + 1 : Nat) : Int) + 1 := wrap64 (by omega) (by omega)
  simp only [c_l8Copy fu x hx, Option.bind_some, fresh, cond_false, k1, k2, hi.1, i1, i2, k3, decide_true, Bool.and_self, cond_true]
  rw [s_Agree hf _ _ _ _ _ _ _ _ _ _ _ _ _ _ _ _ _ _ _ (show x.Log.n + 1 ≤ 1048576 by omega) hx.mat hc.1 (show x.Commit ≤ ((x.Log.n + 1 : Nat) : Int) by omega)]
  exact ⟨_, _, _, _, rfl⟩
theorem i_AskNode {fu : Nat} (hf : 2000000 ≤ fu) (x : S_impl_Node) (e : S_impl_Entry) (hx : NodeLen x) : likeN (F_impl_AskNode_H fu x e) (askR x e) := by
  unfold F_impl_AskNode_H askR
  simp only [i_leadFault hf x hx, i_EntryFault, Option.bind_some]
  cases h1 : (nodef x != 0) with
  | true =>
    have e1 : (nodef x == 0) = false := by rw [bne, Bool.not_eq_true'] at h1; exact h1
    simp only [cond_true, e1, cond_false, h1]
    exact likeN_bad _
  | false =>
  cases h2 : (x.Role != 2) with
  | true =>
    simp only [cond_true, cond_false, show ((10 : Int) == 0) = false from rfl, show ((10 : Int) != 0) = true from rfl]
    exact likeN_bad _
  | false =>
  simp only [cond_false, show ((0 : Int) == 0) = true from rfl, cond_true]
  cases h3 : (entf e != 0) with
  | true => exact likeN_bad _
  | false =>
  cases h4 : (e.Term != x.Term) with
  | true => exact likeN_bad _
  | false =>
  simp only [cond_false]
  have hR := nodef_right h1
  have hl40 := logf_len hR.log
  rw [show ((x.Log.n : Int) == 40) = decide (40 ≤ x.Log.n) from by rw [Bool.eq_iff_iff, beq_iff_eq, decide_eq_true_eq]; omega]
  cases h5 : decide (40 ≤ x.Log.n) with
  | true => exact likeN_bad _
  | false =>
  obtain ⟨i1, i2⟩ := right_lead hR h2
  have hi := hR.id
  have hc := hR.commit
  have hl := logf_len hR.log
  have k1 : x.Log.n + 1 ≤ 9223372036854775807 := by omega
  have k2 : (x.Log.n + 1) * 72 ≤ 140737488355328 := by omega
  have k3 : IntKind.wrap .i64 (((x.Log.n + 1 : Nat) : Int) + 1) = ((x.Log.n + 1 : Nat) : Int) + 1 := wrap64 (by omega) (by omega)
  simp only [c_copied fu x hx, Option.bind_some, fresh, cond_false, k1, k2, hi.1, i1, i2, k3, decide_true, Bool.and_self, cond_true, F_impl_size_impl_Entry]
  rw [i_agree hf _ _ _ _ _ _ _ _ _ _ _ _ _ _ _ _ _ _ (show x.Log.n + 1 ≤ 1048576 by omega) hx.mat hc.1 (show x.Commit ≤ ((x.Log.n + 1 : Nat) : Int) by omega)]
  exact ⟨_, _, _, _, rfl⟩

theorem askR_len (x : S_impl_Node) (e : S_impl_Entry) (hx : NodeLen x) : NodeLen (askR x e).Node := by
  unfold askR
  cases h1 : (nodef x != 0) with
  | true => exact badN_len _
  | false =>
  cases (x.Role != 2) with
  | true => exact badN_len _
  | false =>
  cases (entf e != 0) with
  | true => exact badN_len _
  | false =>
  cases (e.Term != x.Term) with
  | true => exact badN_len _
  | false =>
  cases decide (40 ≤ x.Log.n) with
  | true => exact badN_len _
  | false =>
  have hl := logf_len (nodef_right h1).log
  refine ⟨?_, hx.votes, hx.next, hx.mat⟩
  show x.Log.n + 1 ≤ 1048576
  omega

theorem plain_FnExactAskNode (x : S_laws_Node) (e : S_laws_Entry) (w : W_laws_Node x) {q : Prop} (w' : q) : F_laws_FnExactAskNode plainFuel x e = some true := by
  unfold F_laws_FnExactAskNode
  obtain ⟨y, hy, hs⟩ := sz_Node plainFuel x w (left := 1048576) (by omega) (by omega)
  simp only [hy, Option.bind_some]
  rcases hs.neg with hneg | ⟨h0, h1, hlen⟩
  · simp [hneg]
  · have hn : ¬ y < 0 := by omega
    simp only [hn, decide_false, cond_false]
    have hN : NodeLen (toN x) := toN_len hlen
    simp only [tH_Node pf x hlen, t_Entry, Option.bind_some]
    have hz : (⟨(toN x).Id, (toN x).Peers, (toN x).Term, (toN x).Voted, ⟨none, (toN x).Log.n, (toN x).Log.f⟩, (toN x).Role, (toN x).Commit, ⟨none, (toN x).Votes.n, (toN x).Votes.f⟩, ⟨none, (toN x).Next.n, (toN x).Next.f⟩, ⟨none, (toN x).Match.n, (toN x).Match.f⟩⟩ : S_impl_Node) = toN x := rfl
    simp only [hz]
    obtain ⟨z1, z2, z3, z4, e1⟩ := s_AskNode pf (toN x) (toE e) hN
    obtain ⟨y1, y2, y3, y4, e2⟩ := i_AskNode pf (toN x) (toE e) hN
    have hL := askR_len (toN x) (toE e) hN
    simp only [e1, e2, Option.bind_some]
    generalize askR (toN x) (toE e) = r at hL
    have hE := e_NodeResult0 pf (⟨r.Code, ⟨r.Node.Id, r.Node.Peers, r.Node.Term, r.Node.Voted, ⟨none, r.Node.Log.n, r.Node.Log.f⟩, r.Node.Role, r.Node.Commit, ⟨none, r.Node.Votes.n, r.Node.Votes.f⟩, ⟨none, r.Node.Next.n, r.Node.Next.f⟩, ⟨none, r.Node.Match.n, r.Node.Match.f⟩⟩, ⟨some true, 0, fun _ => dflt .impl_Mail⟩⟩) ⟨hL.log, hL.votes, hL.next, hL.mat⟩ rfl
    simp only [hE, e_Node pf (toN x) hN, Option.bind_some, Bool.not_true, cond_false]
    have hm0 := m_Node pf (toN x).Id (toN x).Peers (toN x).Term (toN x).Voted (toN x).Role (toN x).Commit (toN x).Log.n (toN x).Votes.n (toN x).Next.n (toN x).Match.n (toN x).Log.n (toN x).Votes.n (toN x).Next.n (toN x).Match.n (toN x).Log.f (toN x).Votes.f (toN x).Next.f (toN x).Match.f hN.log hN.votes hN.next hN.mat
    have hk0 : ¬ (markEnd (toN x).Log.n (toN x).Votes.n (toN x).Next.n (toN x).Match.n < 0) := by unfold markEnd; omega
    simp only [hm0, Option.bind_some, hk0, decide_false, cond_false]
    unfold F_laws_markNodeResult_L F_laws_heldNodeResult
    have hk : ¬ (markEnd r.Node.Log.n r.Node.Votes.n r.Node.Next.n r.Node.Match.n < 0) := by unfold markEnd; omega
    have hm := m_Node pf r.Node.Id r.Node.Peers r.Node.Term r.Node.Voted r.Node.Role r.Node.Commit r.Node.Log.n r.Node.Votes.n r.Node.Next.n r.Node.Match.n r.Node.Log.n r.Node.Votes.n r.Node.Next.n r.Node.Match.n r.Node.Log.f r.Node.Votes.f r.Node.Next.f r.Node.Match.f hL.log hL.votes hL.next hL.mat
    have hh := h_Node pf r.Node.Id r.Node.Peers r.Node.Term r.Node.Voted r.Node.Role r.Node.Commit r.Node.Log.n r.Node.Votes.n r.Node.Next.n r.Node.Match.n r.Node.Log.f r.Node.Votes.f r.Node.Next.f r.Node.Match.f hL.log hL.votes hL.next hL.mat
    simp only [hm, m_MailS0 pf, Option.bind_some]
    simp only [hh, h_MailS0 pf ⟨some true, 0, fun _ => dflt .impl_Mail⟩ rfl, Option.bind_some, hk, decide_false, cond_false, bne_self_eq_false]

end Go.Proofs.Ytohlgllpplbehaa.Pc
