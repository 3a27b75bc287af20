/- Plain laws of nodes: NodeFault. Conditions: none. -/
import Derived.Test.YtjdgfkmiaikegaaPePlNode
namespace Go.Proofs.Ytjdgfkmiaikegaa.Pe
open Go Go.RowKit Go.Proofs Vm
set_option linter.unusedVariables false
set_option linter.unusedSimpArgs false
set_option maxRecDepth 100000
structure Szd (left y : Int) (p : Prop) : Prop where
 neg : y < 0 ∨ (0 ≤ y ∧ y ≤ left ∧ p)
end Go.Proofs.Ytjdgfkmiaikegaa.Pe

