/- The law of what a leader is asked. Conditions: none. -/
import Derived.Test.YtjdgfkmiaikegaaPePlAgree
namespace Go.Proofs.Ytjdgfkmiaikegaa.Pe
open Go Go.RowKit Go.Proofs Vm
set_option linter.unusedVariables false
set_option linter.unusedSimpArgs false
set_option maxRecDepth 100000
def sl0 (τ : RT) : Sl (den τ) := ⟨none, 0, fun _ => dflt τ⟩
def behindE (l : Sl S_impl_Entry) (e : S_impl_Entry) : Nat → S_impl_Entry := fun i => if i < l.n then l.f i else [e].getD (i - l.n) (dflt .impl_Entry)
def askN (x : S_impl_Node) (e : S_impl_Entry) : S_impl_Node :=
 ⟨x.Id, x.Peers, x.Term, x.Voted, ⟨none, x.Log.n + 1, behindE x.Log e⟩, x.Role,
  agr x.Peers x.Term (x.Log.n + 1) (behindE x.Log e) x.Match.n (fun j => if j = x.Id.toNat then ((x.Log.n + 1 : Nat) : Int) else x.Match.f j) x.Commit,
  fresh x.Votes, ⟨none, x.Next.n, fun j => if j = x.Id.toNat then ((x.Log.n + 1 : Nat) : Int) + 1 else x.Next.f j⟩, ⟨none, x.Match.n, fun j => if j = x.Id.toNat then ((x.Log.n + 1 : Nat) : Int) else x.Match.f j⟩⟩
theorem right_lead {x : S_impl_Node} (h : Right x) (hr : (x.Role != 2) = false) : x.Id.toNat < x.Match.n ∧ x.Id.toNat < x.Next.n := by
 have e : x.Role = 2 := by simpa using hr
 have hw : want x = x.Peers := by unfold want; rw [e]; rfl
 have := h.next
 have := h.mat
 have := h.id
 rw [hw] at *
 omega
end Go.Proofs.Ytjdgfkmiaikegaa.Pe

