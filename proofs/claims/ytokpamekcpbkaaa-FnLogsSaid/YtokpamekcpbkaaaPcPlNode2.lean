/- Plain laws of nodes: NodeFault. Conditions: none. -/
import Derived.Test.YtokpamekcpbkaaaPcPlNode
namespace Go.Proofs.Ytokpamekcpbkaaa.Pc
open Go Go.RowKit Go.Proofs Vm
set_option linter.unusedVariables false
set_option linter.unusedSimpArgs false
set_option maxRecDepth 100000

def szf (left : Int) (n : Nat) : Int := if IntKind.wrap .i64 (left - (n : Int)) < 0 then -1 else IntKind.wrap .i64 (left - (n : Int))
theorem szf_cut {left : Int} {n : Nat} (h0 : 0 ≤ left) (h1 : left ≤ 1048576) (hn : n ≤ maxLen) (h : ¬ szf left n < 0) : szf left n = left - n ∧ (n : Int) ≤ left := sz_cut h0 h1 hn rfl h
/-- What is left, and what holds where nothing is short. -/
structure Szd (left y : Int) (p : Prop) : Prop where
  neg : y < 0 ∨ (0 ≤ y ∧ y ≤ left ∧ p)

theorem sz_one {left : Int} {n : Nat} (h0 : 0 ≤ left) (h1 : left ≤ 1048576) (hn : n ≤ maxLen) : Szd left (szf left n) (n ≤ 1048576) := ⟨by
  by_cases h : szf left n < 0
  · exact .inl h
  · obtain ⟨a, b⟩ := szf_cut h0 h1 hn h
    exact .inr ⟨by omega, by omega, by omega⟩⟩

end Go.Proofs.Ytokpamekcpbkaaa.Pc
