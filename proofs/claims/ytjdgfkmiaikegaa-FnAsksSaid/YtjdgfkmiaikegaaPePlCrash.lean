/- Plain laws of new nodes and of nodes that crash. Conditions: none. -/
import Derived.Test.YtjdgfkmiaikegaaPePlMark
namespace Go.Proofs.Ytjdgfkmiaikegaa.Pe
open Go Go.RowKit Go.Proofs Vm
set_option linter.unusedVariables false
set_option linter.unusedSimpArgs false
set_option maxRecDepth 100000
end Go.Proofs.Ytjdgfkmiaikegaa.Pe

