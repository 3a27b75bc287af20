/- Struct types of the law FnExactLastOf's parameters. -/
import Derived.Test.YtfmfjggghbgfaaaPFnExactLastOfx0
namespace Go.Proofs.Ytfmfjggghbgfaaa.PFnExactLastOf
open Go.RowKit Go.Proofs.YtfmfjggghbgfaaaW.PrintWords
end Go.Proofs.Ytfmfjggghbgfaaa.PFnExactLastOf
