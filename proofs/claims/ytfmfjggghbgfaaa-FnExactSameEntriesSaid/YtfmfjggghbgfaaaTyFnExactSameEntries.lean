/- Struct types of the law FnExactSameEntries's parameters. -/
import Derived.Test.YtfmfjggghbgfaaaPFnExactSameEntriesx0
namespace Go.Proofs.Ytfmfjggghbgfaaa.PFnExactSameEntries
open Go.RowKit Go.Proofs.YtfmfjggghbgfaaaW.PrintWords
end Go.Proofs.Ytfmfjggghbgfaaa.PFnExactSameEntries
