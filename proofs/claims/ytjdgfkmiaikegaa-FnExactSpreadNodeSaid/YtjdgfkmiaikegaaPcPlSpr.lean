/- The law of what a leader sends. Conditions: none. -/
import Derived.Test.YtjdgfkmiaikegaaPcPlSpread
namespace Go.Proofs.Ytjdgfkmiaikegaa.Pc
open Go Go.RowKit Go.Proofs Vm
set_option linter.unusedVariables false
set_option linter.unusedSimpArgs false
set_option maxRecDepth 100000

/-- What a node lacks: from where on, and the mail that tells it. -/
def idA (x : S_impl_Node) (i : Nat) : Int := x.Next.f i - 1
def upA (x : S_impl_Node) (i : Nat) : Int := bif decide ((x.Log.n : Int) < idA x i + 4) then (x.Log.n : Int) else idA x i + 4
def mailA (x : S_impl_Node) (i : Nat) : S_impl_Mail := ⟨3, x.Id, i, x.Term, idA x i, bif decide (idA x i > 0) then (x.Log.f ((idA x i).toNat - 1)).Term else 0, x.Commit, false,
  ⟨none, (upA x i).toNat - (idA x i).toNat, fun j => x.Log.f ((idA x i).toNat + j)⟩⟩
def nA (x : S_impl_Node) : Nat → Nat
  | 0 => 0
  | i + 1 => bif ((i : Int) != x.Id) then nA x i + 1 else nA x i
def fA (x : S_impl_Node) (M : Nat → S_impl_Mail) : Nat → Nat → S_impl_Mail
  | 0 => fun _ => dflt .impl_Mail
  | i + 1 => bif ((i : Int) != x.Id) then (fun j => if j < nA x i then fA x M i j else M i) else fA x M i
theorem nA_le (x : S_impl_Node) : ∀ i, nA x i ≤ i
  | 0 => Nat.le_refl _
  | i + 1 => by
    have := nA_le x i
    unfold nA
    cases ((i : Int) != x.Id) <;> simp only [cond_true, cond_false] <;> omega
theorem fA_len {x : S_impl_Node} {M : Nat → S_impl_Mail} (hM : ∀ i, (M i).Entries.n ≤ 1048576) : ∀ i, MailsL (nA x i) (fA x M i)
  | 0 => fun m hm => absurd hm (Nat.not_lt_zero _)
  | i + 1 => fun m hm => by
    have ih := fA_len (x := x) hM i
    unfold nA at hm
    unfold fA
    cases h : ((i : Int) != x.Id) with
    | false => rw [h] at hm; exact ih m hm
    | true =>
      rw [h] at hm
      simp only [cond_true]
      by_cases hlt : m < nA x i
      · simp only [hlt, if_true]; exact ih m hlt
      · simp only [hlt, if_false]; exact hM i
theorem up_len (x : S_impl_Node) (i : Nat) : (mailA x i).Entries.n ≤ 1048576 := by
  show (upA x i).toNat - (idA x i).toNat ≤ 1048576
  unfold upA
  cases h : decide ((x.Log.n : Int) < idA x i + 4) with
  | true =>
    have := of_decide_eq_true h
    simp only [cond_true]; omega
  | false => simp only [cond_false]; omega

def freshN (x : S_impl_Node) : S_impl_Node := ⟨x.Id, x.Peers, x.Term, x.Voted, fresh x.Log, x.Role, x.Commit, fresh x.Votes, fresh x.Next, fresh x.Match⟩
def spreadR (x : S_impl_Node) : NodeT :=
  bif nodef x != 0 then failN (nodef x) else bif x.Role != 2 then failN 10 else nodeT 0 (freshN x) (nA x x.Peers.toNat) (fA x (mailA x) x.Peers.toNat)

theorem bad_U (fu : Nat) (c : Int) : F_spec_l8Bad_U fu c = some (failN c) := rfl

structure At (x : S_impl_Node) (i : Nat) : Prop where
  lt : i < x.Next.n
  lo : 0 ≤ idA x i
  hi : idA x i ≤ (x.Log.n : Int)
theorem right_at {x : S_impl_Node} (h : Right x) (hr : (x.Role != 2) = false) {i : Nat} (hi : i < x.Peers.toNat) : At x i := by
  have e : x.Role = 2 := by simpa using hr
  have hw : want x = x.Peers := by unfold want; rw [e]; rfl
  have hn := h.next
  rw [hw] at hn
  have hp := h.peers
  have hlt : i < x.Next.n := by omega
  have hf := h.fits
  simp only [Bool.and_eq_true] at hf
  have := rng_iff.1 (allb_iff.1 hf.1 i hlt)
  unfold nexts at hf
  exact ⟨hlt, by unfold idA; omega, by unfold idA; omega⟩

theorem s_Append {fu : Nat} (hf : 2000000 ≤ fu) (x : S_impl_Node) (hl : x.Log.n ≤ 1048576) {i : Nat} (h : At x i) : F_spec_l8Append_H fu x (i : Int) = some (mailA x i) := by
  obtain ⟨h1, h2, h3⟩ := h
  have e1 : IntKind.wrap .i64 (x.Next.f i - 1) = idA x i := by unfold idA at *; rw [wrap64 (by omega) (by omega)]
  have e2 : IntKind.wrap .i64 (idA x i + 4) = idA x i + 4 := wrap64 (by omega) (by omega)
  have e3 : F_spec_l1Min fu (x.Log.n : Int) (idA x i + 4) = some (upA x i) := by
    unfold F_spec_l1Min upA
    cases decide ((x.Log.n : Int) < idA x i + 4) <;> rfl
  have u1 : idA x i ≤ upA x i ∧ (upA x i).toNat ≤ x.Log.n ∧ (upA x i).toNat - (idA x i).toNat ≤ 1048576 := by
    unfold upA
    cases h : decide ((x.Log.n : Int) < idA x i + 4) with
    | true =>
      have := of_decide_eq_true h
      simp only [cond_true]; omega
    | false =>
      have := of_decide_eq_false h
      simp only [cond_false]; omega
  unfold F_spec_l8Append_H
  simp only [Int.toNat_natCast, Int.natCast_nonneg, h1, h2, e1, e2, e3, u1.1, u1.2.1, decide_true, Bool.and_self, cond_true, Option.bind_some, c_l7Copy fu ⟨x.Log.z, (upA x i).toNat - (idA x i).toNat, fun j => x.Log.f ((idA x i).toNat + j)⟩ u1.2.2]
  unfold mailA fresh
  cases h4 : decide (idA x i > 0) with
  | false => simp only [cond_false]
  | true =>
    have h5 := of_decide_eq_true h4
    have e4 : IntKind.wrap .i64 (idA x i - 1) = idA x i - 1 := wrap64 (by omega) (by omega)
    have h6 : 0 ≤ idA x i - 1 ∧ (idA x i - 1).toNat < x.Log.n := by omega
    simp only [cond_true, e4, h6.1, h6.2, decide_true, Bool.and_self, Option.bind_some]
    rw [show (idA x i - 1).toNat = (idA x i).toNat - 1 by omega]

theorem s_SpreadNode {fu : Nat} (hf : 2000000 ≤ fu) (x : S_impl_Node) (hx : NodeLen x) : F_spec_SpreadNode_U fu x = some (spreadR x) := by
  unfold F_spec_SpreadNode_U spreadR
  simp only [s_NodeFault0 hf x hx, bad_U, Option.bind_some]
  cases h1 : (nodef x != 0) with
  | true => rfl
  | false =>
  cases h2 : (x.Role != 2) with
  | true => rfl
  | false =>
  have hR := nodef_right h1
  have hp := hR.peers
  have hn := hx.next
  simp only [cond_false, c_l8Copy fu x hx, Option.bind_some]
  refine stepL x.Peers.toNat (fun i => ((i : Int), nA x i, nA x i, nA x i, fA x (mailA x) i)) (by omega) rfl (fun i go hi => ?_) (fun go => ?_)
  · have hA := right_at hR h2 hi
    have hle := nA_le x i
    unfold F_spec_SpreadNode_U_B0
    have hlt : (i : Int) < x.Peers := by omega
    have hz : (⟨x.Id, x.Peers, x.Term, x.Voted, x.Log, x.Role, x.Commit, x.Votes, x.Next, x.Match⟩ : S_impl_Node) = x := rfl
    simp only [hlt, decide_true, cond_true, hz, s_Append hf x hx.log hA, Option.bind_some, wsucc (show i < 4611686018427387904 by omega)]
    have k1 : nA x i + 1 ≤ 9223372036854775807 := by omega
    have k2 : (nA x i + 1) * 88 ≤ 140737488355328 := by omega
    simp only [nA, fA, k1, k2, Nat.le_refl, decide_true, Bool.and_self, cond_true]
    cases ((i : Int) != x.Id) <;> rfl
  · unfold F_spec_SpreadNode_U_B0
    have hlt : ¬ ((x.Peers.toNat : Nat) : Int) < x.Peers := by omega
    simp only [hlt, decide_false, cond_false, Nat.le_refl, decide_true, Bool.and_self, cond_true]
    rfl

theorem i_SpreadNode {fu : Nat} (hf : 2000000 ≤ fu) (x : S_impl_Node) (hx : NodeLen x) : F_impl_SpreadNode_U fu x = some (spreadR x) := by
  unfold F_impl_SpreadNode_U spreadR
  simp only [i_leadFault hf x hx, Option.bind_some]
  cases h1 : (nodef x != 0) with
  | true => simp only [cond_true, h1]; rfl
  | false =>
  cases h2 : (x.Role != 2) with
  | true => rfl
  | false =>
  have hR := nodef_right h1
  have hp := hR.peers
  have hn := hx.next
  have hlog := hx.log
  simp only [cond_false, show ((0 : Int) != 0) = false from rfl, c_copied fu x hx, Option.bind_some]
  refine stepL x.Peers.toNat (fun i => ((i : Int), nA x i, nA x i, nA x i, fA x (mailA x) i)) (by omega) rfl (fun i go hi => ?_) (fun go => ?_)
  · obtain ⟨h3, h4, h5⟩ := right_at hR h2 hi
    have hle := nA_le x i
    unfold F_impl_SpreadNode_U_i0_B0
    have hlt : (i : Int) < x.Peers := by omega
    have e1 : IntKind.wrap .i64 (x.Next.f i - 1) = idA x i := by unfold idA at *; rw [wrap64 (by omega) (by omega)]
    have e2 : IntKind.wrap .i64 (idA x i + 4) = idA x i + 4 := wrap64 (by omega) (by omega)
    have e3 : minInt (idA x i + 4) (x.Log.n : Int) = upA x i := rfl
    have u1 : idA x i ≤ upA x i ∧ (upA x i).toNat ≤ x.Log.n ∧ (upA x i).toNat - (idA x i).toNat ≤ 1048576 := by
      unfold upA
      cases h : decide ((x.Log.n : Int) < idA x i + 4) with
      | true =>
        have := of_decide_eq_true h
        simp only [cond_true]; omega
      | false =>
        have := of_decide_eq_false h
        simp only [cond_false]; omega
    have u2 : (idA x i).toNat ≤ x.Log.n := by omega
    have hlast : (lastE (⟨x.Log.z, (idA x i).toNat - 0, fun j => x.Log.f (0 + j)⟩ : Sl S_impl_Entry)).Term = (mailA x i).Last := by
      unfold lastE mailA
      simp only [Nat.sub_zero, Nat.zero_add]
      by_cases h0 : (idA x i).toNat = 0
      · have : ¬ idA x i > 0 := by omega
        simp only [h0, if_true, this, decide_false, cond_false]
        rfl
      · have : idA x i > 0 := by omega
        simp only [h0, if_false, this, decide_true, cond_true]
    have k1 : nA x i + 1 ≤ 9223372036854775807 := by omega
    have k2 : (nA x i + 1) * 88 ≤ 140737488355328 := by omega
    simp only [hlt, decide_true, cond_true, fresh, Int.toNat_natCast, Int.natCast_nonneg, h3, h4, e1, e2, u2, Bool.and_self, Option.bind_some, wsucc (show i < 4611686018427387904 by omega),
      i_last fu ⟨x.Log.z, (idA x i).toNat - 0, fun j => x.Log.f (0 + j)⟩ (show (idA x i).toNat - 0 ≤ 1048576 by omega), F_impl_size_impl_Entry, e3, u1.1, u1.2.1,
      c_Clone fu ⟨x.Log.z, (upA x i).toNat - (idA x i).toNat, fun j => x.Log.f ((idA x i).toNat + j)⟩ u1.2.2, hlast, nA, fA, k1, k2, Nat.le_refl]
    cases ((i : Int) != x.Id) <;> rfl
  · unfold F_impl_SpreadNode_U_i0_B0
    have hlt : ¬ ((x.Peers.toNat : Nat) : Int) < x.Peers := by omega
    simp only [hlt, decide_false, cond_false, Nat.le_refl, decide_true, Bool.and_self, cond_true]
    rfl

theorem spreadR_like {x : S_impl_Node} (hx : NodeLen x) : ∃ c nd mn mf, spreadR x = nodeT c nd mn mf ∧ NodeLen nd ∧ mn ≤ 64 ∧ MailsL mn mf := by
  unfold spreadR
  cases h1 : (nodef x != 0) with
  | true => exact ⟨_, _, _, _, rfl, noN_len, Nat.zero_le _, fun m hm => absurd hm (Nat.not_lt_zero _)⟩
  | false =>
  cases h2 : (x.Role != 2) with
  | true => exact ⟨_, _, _, _, rfl, noN_len, Nat.zero_le _, fun m hm => absurd hm (Nat.not_lt_zero _)⟩
  | false =>
  have hp := (nodef_right h1).peers
  have := nA_le x x.Peers.toNat
  exact ⟨_, _, _, _, rfl, ⟨hx.log, hx.votes, hx.next, hx.mat⟩, by omega, fA_len (up_len x) _⟩

theorem plain_FnExactSpreadNode (x : S_laws_Node) (w : W_laws_Node x) : F_laws_FnExactSpreadNode plainFuel x = some true := by
  unfold F_laws_FnExactSpreadNode
  obtain ⟨y, hy, hs⟩ := sz_Node plainFuel x w (left := 1048576) (by omega) (by omega)
  simp only [hy, Option.bind_some]
  rcases hs.neg with hneg | ⟨h0, h1, hlen⟩
  · simp [hneg]
  · have hn : ¬ y < 0 := by omega
    simp only [hn, decide_false, cond_false]
    have hN : NodeLen (toN x) := toN_len hlen
    simp only [tH_Node pf x hlen, Option.bind_some]
    have hz : (⟨(toN x).Id, (toN x).Peers, (toN x).Term, (toN x).Voted, ⟨none, (toN x).Log.n, (toN x).Log.f⟩, (toN x).Role, (toN x).Commit, ⟨none, (toN x).Votes.n, (toN x).Votes.f⟩, ⟨none, (toN x).Next.n, (toN x).Next.f⟩, ⟨none, (toN x).Match.n, (toN x).Match.f⟩⟩ : S_impl_Node) = toN x := rfl
    simp only [hz, s_SpreadNode pf (toN x) hN, i_SpreadNode pf (toN x) hN, Option.bind_some]
    obtain ⟨c, nd, mn, mf, e, hL, hmn, hmf⟩ := spreadR_like hN
    rw [e]
    simp only [nodeT]
    have hE := eS_NodeResult pf (⟨c, ⟨nd.Id, nd.Peers, nd.Term, nd.Voted, ⟨none, nd.Log.n, nd.Log.f⟩, nd.Role, nd.Commit, ⟨none, nd.Votes.n, nd.Votes.f⟩, ⟨none, nd.Next.n, nd.Next.f⟩, ⟨none, nd.Match.n, nd.Match.f⟩⟩, ⟨none, mn, mf⟩⟩) ⟨hL.log, hL.votes, hL.next, hL.mat⟩ hmn hmf
    simp only [hE, e_Node pf (toN x) hN, Option.bind_some, Bool.not_true, cond_false]
    have hm0 := m_Node pf (toN x).Id (toN x).Peers (toN x).Term (toN x).Voted (toN x).Role (toN x).Commit (toN x).Log.n (toN x).Votes.n (toN x).Next.n (toN x).Match.n (toN x).Log.n (toN x).Votes.n (toN x).Next.n (toN x).Match.n (toN x).Log.f (toN x).Votes.f (toN x).Next.f (toN x).Match.f hN.log hN.votes hN.next hN.mat
    have hk0 : ¬ (markEnd (toN x).Log.n (toN x).Votes.n (toN x).Next.n (toN x).Match.n < 0) := by unfold markEnd; omega
    simp only [hm0, Option.bind_some, hk0, decide_false, cond_false]
    obtain ⟨k, g1, g2, g3, g4, gm, m1, m2, m3⟩ := xy_NodeResult pf c nd.Id nd.Peers nd.Term nd.Voted nd.Role nd.Commit nd.Log.n nd.Votes.n nd.Next.n nd.Match.n mn nd.Log.f nd.Votes.f nd.Next.f nd.Match.f mf hL.log hL.votes hL.next hL.mat hmn hmf
    simp only [m1, m3, m2, hE, Option.bind_some, decide_false, cond_false, bne_self_eq_false, Bool.not_true]

end Go.Proofs.Ytjdgfkmiaikegaa.Pc
