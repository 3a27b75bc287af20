/- The law of what a leader sends. Conditions: none. -/
import Derived.Test.YtjdgfkmiaikegaaPdPlSpread
namespace Go.Proofs.Ytjdgfkmiaikegaa.Pd
open Go Go.RowKit Go.Proofs Vm
set_option linter.unusedVariables false
set_option linter.unusedSimpArgs false
set_option maxRecDepth 100000

/-- What a node lacks: from where on, and the mail that tells it. -/
def idA (x : S_impl_Node) (i : Nat) : Int := x.Next.f i - 1
def upA (x : S_impl_Node) (i : Nat) : Int := bif decide ((x.Log.n : Int) < idA x i + 4) then (x.Log.n : Int) else idA x i + 4
def mailA (x : S_impl_Node) (i : Nat) : S_impl_Mail := ⟨3, x.Id, i, x.Term, idA x i, bif decide (idA x i > 0) then (x.Log.f ((idA x i).toNat - 1)).Term else 0, x.Commit, false,
  ⟨none, (upA x i).toNat - (idA x i).toNat, fun j => x.Log.f ((idA x i).toNat + j)⟩⟩
def nA (x : S_impl_Node) : Nat → Nat
  | 0 => 0
  | i + 1 => bif ((i : Int) != x.Id) then nA x i + 1 else nA x i
def fA (x : S_impl_Node) (M : Nat → S_impl_Mail) : Nat → Nat → S_impl_Mail
  | 0 => fun _ => dflt .impl_Mail
  | i + 1 => bif ((i : Int) != x.Id) then (fun j => if j < nA x i then fA x M i j else M i) else fA x M i
theorem nA_le (x : S_impl_Node) : ∀ i, nA x i ≤ i
  | 0 => Nat.le_refl _
  | i + 1 => by
    have := nA_le x i
    unfold nA
    cases ((i : Int) != x.Id) <;> simp only [cond_true, cond_false] <;> omega
theorem fA_len {x : S_impl_Node} {M : Nat → S_impl_Mail} (hM : ∀ i, (M i).Entries.n ≤ 1048576) : ∀ i, MailsL (nA x i) (fA x M i)
  | 0 => fun m hm => absurd hm (Nat.not_lt_zero _)
  | i + 1 => fun m hm => by
    have ih := fA_len (x := x) hM i
    unfold nA at hm
    unfold fA
    cases h : ((i : Int) != x.Id) with
    | false => rw [h] at hm; exact ih m hm
    | true =>
      rw [h] at hm
      simp only [cond_true]
      by_cases hlt : m < nA x i
      · simp only [hlt, if_true]; exact ih m hlt
      · simp only [hlt, if_false]; exact hM i
theorem up_len (x : S_impl_Node) (i : Nat) : (mailA x i).Entries.n ≤ 1048576 := by
  show (upA x i).toNat - (idA x i).toNat ≤ 1048576
  unfold upA
  cases h : decide ((x.Log.n : Int) < idA x i + 4) with
  | true =>
    have := of_decide_eq_true h
    simp only [cond_true]; omega
  | false => simp only [cond_false]; omega

def freshN (x : S_impl_Node) : S_impl_Node := ⟨x.Id, x.Peers, x.Term, x.Voted, fresh x.Log, x.Role, x.Commit, fresh x.Votes, fresh x.Next, fresh x.Match⟩
def spreadR (x : S_impl_Node) : NodeT :=
  bif nodef x != 0 then failN (nodef x) else bif x.Role != 2 then failN 10 else nodeT 0 (freshN x) (nA x x.Peers.toNat) (fA x (mailA x) x.Peers.toNat)

theorem bad_U (fu : Nat) (c : Int) : F_spec_l8Bad_U fu c = some (failN c) := rfl

structure At (x : S_impl_Node) (i : Nat) : Prop where
  lt : i < x.Next.n
  lo : 0 ≤ idA x i
  hi : idA x i ≤ (x.Log.n : Int)
theorem right_at {x : S_impl_Node} (h : Right x) (hr : (x.Role != 2) = false) {i : Nat} (hi : i < x.Peers.toNat) : At x i := by
  have e : x.Role = 2 := by simpa using hr
  have hw : want x = x.Peers := by unfold want; rw [e]; rfl
  have hn := h.next
  rw [hw] at hn
  have hp := h.peers
  have hlt : i < x.Next.n := by omega
  have hf := h.fits
  simp only [Bool.and_eq_true] at hf
  have := rng_iff.1 (allb_iff.1 hf.1 i hlt)
  unfold nexts at hf
  exact ⟨hlt, by unfold idA; omega, by unfold idA; omega⟩

theorem spreadR_like {x : S_impl_Node} (hx : NodeLen x) : ∃ c nd mn mf, spreadR x = nodeT c nd mn mf ∧ NodeLen nd ∧ mn ≤ 64 ∧ MailsL mn mf := by
  unfold spreadR
  cases h1 : (nodef x != 0) with
  | true => exact ⟨_, _, _, _, rfl, noN_len, Nat.zero_le _, fun m hm => absurd hm (Nat.not_lt_zero _)⟩
  | false =>
  cases h2 : (x.Role != 2) with
  | true => exact ⟨_, _, _, _, rfl, noN_len, Nat.zero_le _, fun m hm => absurd hm (Nat.not_lt_zero _)⟩
  | false =>
  have hp := (nodef_right h1).peers
  have := nA_le x x.Peers.toNat
  exact ⟨_, _, _, _, rfl, ⟨hx.log, hx.votes, hx.next, hx.mat⟩, by omega, fA_len (up_len x) _⟩

end Go.Proofs.Ytjdgfkmiaikegaa.Pd
