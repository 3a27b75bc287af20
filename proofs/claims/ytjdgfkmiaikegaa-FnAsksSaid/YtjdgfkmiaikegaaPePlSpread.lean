/- Plain laws of mails in rows: marks and what holds them; results that tell a node and mails. Conditions: none. -/
import Derived.Test.YtjdgfkmiaikegaaPePlAgree
namespace Go.Proofs.Ytjdgfkmiaikegaa.Pe
open Go Go.RowKit Go.Proofs Vm
set_option linter.unusedVariables false
set_option linter.unusedSimpArgs false
set_option maxRecDepth 100000
abbrev NodeT : Type := Int × Int × Int × Int × Int × Nat × Int × Int × Nat × Nat × Nat × Nat × Nat × (Nat → S_impl_Entry) × Nat × (Nat → Int) × Nat × (Nat → Int) × Nat × (Nat → Int) × Nat × (Nat → S_impl_Mail)
def nodeT (c : Int) (x : S_impl_Node) (mn : Nat) (mf : Nat → S_impl_Mail) : NodeT := (c, x.Id, x.Peers, x.Term, x.Voted, x.Log.n, x.Role, x.Commit, x.Votes.n, x.Next.n, x.Match.n, mn, x.Log.n, x.Log.f, x.Votes.n, x.Votes.f, x.Next.n, x.Next.f, x.Match.n, x.Match.f, mn, mf)
def noN : S_impl_Node := ⟨0, 0, 0, 0, ⟨none, 0, fun _ => dflt .impl_Entry⟩, 0, 0, ⟨none, 0, fun _ => dflt .i64⟩, ⟨none, 0, fun _ => dflt .i64⟩, ⟨none, 0, fun _ => dflt .i64⟩⟩
def failN (c : Int) : NodeT := nodeT c noN 0 (fun _ => dflt .impl_Mail)
end Go.Proofs.Ytjdgfkmiaikegaa.Pe

