/- Plain laws of what a quorum has, and of a right node. Conditions: none. -/
import Derived.Test.YtjdgfkmiaikegaaPePlCrash
namespace Go.Proofs.Ytjdgfkmiaikegaa.Pe
open Go Go.RowKit Go.Proofs Vm
set_option linter.unusedVariables false
set_option linter.unusedSimpArgs false
set_option maxRecDepth 100000
structure Right (x : S_impl_Node) : Prop where
 peers : 1 ≤ x.Peers ∧ x.Peers ≤ 5
 id : 0 ≤ x.Id ∧ x.Id < x.Peers
 term : 0 ≤ x.Term ∧ x.Term ≤ 100000
 log : logf x.Log = 0
 commit : 0 ≤ x.Commit ∧ x.Commit ≤ (x.Log.n : Int)
 last : (lastE x.Log).Term ≤ x.Term
 lists : lists x = true
 next : (x.Next.n : Int) = want x
 mat : (x.Match.n : Int) = want x
 fits : (nexts x && matchs x) = true
 role : roleBad x = false
theorem rng_iff {a b c : Int} : rng a b c = true ↔ b ≤ a ∧ a ≤ c := by simp [rng]
theorem nodef_right {x : S_impl_Node} (h : (nodef x != 0) = false) : Right x := by
 have h : nodef x = 0 := by simpa using h
 unfold nodef at h
 cases h1 : head x with
 | false => rw [h1] at h; cases h
 | true =>
 rw [h1] at h
 simp only [Bool.not_true, cond_false] at h
 cases h2 : (logf x.Log != 0) with
 | true => rw [h2] at h; simp only [cond_true] at h; rw [h] at h2; cases h2
 | false =>
 rw [h2] at h
 simp only [cond_false] at h
 cases h3 : decide ((lastE x.Log).Term > x.Term) with
 | true => rw [h3] at h; cases h
 | false =>
 rw [h3] at h
 simp only [cond_false] at h
 cases h4 : rng x.Commit 0 (x.Log.n : Int) with
 | false => rw [h4] at h; cases h
 | true =>
 rw [h4] at h
 simp only [Bool.not_true, cond_false] at h
 cases h5 : lists x with
 | false => rw [h5] at h; cases h
 | true =>
 rw [h5] at h
 simp only [Bool.not_true, cond_false] at h
 cases h6 : (nexts x && matchs x) with
 | false => rw [h6] at h; cases h
 | true =>
 rw [h6] at h
 simp only [Bool.not_true, cond_false] at h
 cases h7 : roleBad x with
 | true => rw [h7] at h; cases h
 | false =>
 unfold head at h1
 simp only [Bool.and_eq_true, rng_iff] at h1
 obtain ⟨p, i, t, v, r⟩ := h1
 have e : pm x = x.Peers - 1 := by unfold pm; rw [wrap64 (by omega) (by omega)]
 rw [e] at i v
 have h5' := h5
 unfold lists at h5'
 simp only [Bool.and_eq_true, beq_iff_eq] at h5'
 exact ⟨p, ⟨i.1, by omega⟩, t, by simpa using h2, rng_iff.1 h4, by have := of_decide_eq_false h3; omega, h5, h5'.2.2.2.1, h5'.2.2.2.2, h6, h7⟩
def cnt (f : Nat → Int) (k : Int) : Nat → Int
 | 0 => 0
 | m + 1 => bif decide (f m ≥ k) then cnt f k m + 1 else cnt f k m
theorem cnt_le (f : Nat → Int) (k : Int) : ∀ m, 0 ≤ cnt f k m ∧ cnt f k m ≤ m
 | 0 => by simp [cnt]
 | m + 1 => by
  have := cnt_le f k m
  simp only [cnt]
  cases decide (f m ≥ k) <;> simp only [cond_true, cond_false] <;> omega
def agrAt (p t : Int) (n : Nat) (f : Nat → S_impl_Entry) (m : Nat) (g : Nat → Int) (i : Nat) : Option Int :=
 bif decide (IntKind.wrap .i64 (2 * cnt g ((n : Int) - i) m) > p) && ((f (n - i - 1)).Term == t) then some ((n : Int) - i) else none
def agr (p t : Int) (n : Nat) (f : Nat → S_impl_Entry) (m : Nat) (g : Nat → Int) (c : Int) : Int := (scan (agrAt p t n f m g) ((n : Int) - c).toNat 0).getD c
theorem c_l8Copy (fu : Nat) (x : S_impl_Node) (hx : NodeLen x) : F_spec_l8Copy_H fu x = some ⟨x.Id, x.Peers, x.Term, x.Voted, fresh x.Log, x.Role, x.Commit, fresh x.Votes, fresh x.Next, fresh x.Match⟩ := by
 unfold F_spec_l8Copy_H
 have hv := hx.votes
 have hn := hx.next
 have hm := hx.mat
 have a1 : x.Votes.n ≤ 9223372036854775807 := by omega
 have a2 : x.Votes.n * 8 ≤ 140737488355328 := by omega
 have b1 : x.Next.n ≤ 9223372036854775807 := by omega
 have b2 : x.Next.n * 8 ≤ 140737488355328 := by omega
 have d1 : x.Match.n ≤ 9223372036854775807 := by omega
 have d2 : x.Match.n * 8 ≤ 140737488355328 := by omega
 simp only [c_l7Copy fu x.Log hx.log, Option.bind_some, a1, a2, b1, b2, d1, d2, decide_true, Bool.and_self, cond_true]
 rfl
theorem c_CloneI (fu : Nat) (x : Sl Int) (hx : x.n ≤ 1048576) : F_slices_Clone_int64_int64_H fu x = some (fresh x) := by
 unfold F_slices_Clone_int64_int64_H
 have h1 : x.n ≤ 9223372036854775807 := by omega
 have h2 : x.n * 8 ≤ 140737488355328 := by omega
 simp only [h1, h2, decide_true, Bool.and_self, cond_true]
 rfl
theorem c_copied (fu : Nat) (x : S_impl_Node) (hx : NodeLen x) : F_impl_Node_copied_H fu x = some ⟨x.Id, x.Peers, x.Term, x.Voted, fresh x.Log, x.Role, x.Commit, fresh x.Votes, fresh x.Next, fresh x.Match⟩ := by
 unfold F_impl_Node_copied_H
 simp only [c_Clone fu x.Log hx.log, c_CloneI fu x.Votes hx.votes, c_CloneI fu x.Next hx.next, c_CloneI fu x.Match hx.mat, Option.bind_some]
 rfl
theorem i_leadFault {fu : Nat} (hf : 2000000 ≤ fu) (x : S_impl_Node) (hx : NodeLen x) : F_impl_leadFault fu x = some (bif nodef x != 0 then nodef x else bif x.Role != 2 then 10 else 0) := by
 unfold F_impl_leadFault
 simp only [i_NodeFault hf x hx, Option.bind_some]
 cases h : (nodef x != 0) with
 | true =>
  have e : (nodef x == 0) = false := by rw [bne, Bool.not_eq_true'] at h; exact h
  rw [e]; rfl
 | false =>
  have e : (nodef x == 0) = true := by rw [bne, Bool.not_eq_false'] at h; exact h
  have e0 : nodef x = 0 := by simpa using e
  rw [e, e0]
  cases (x.Role != 2) <;> rfl
end Go.Proofs.Ytjdgfkmiaikegaa.Pe

