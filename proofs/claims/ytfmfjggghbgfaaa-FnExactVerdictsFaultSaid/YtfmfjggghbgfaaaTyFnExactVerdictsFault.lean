/- Struct types of the law FnExactVerdictsFault's parameters. -/
import Derived.Test.YtfmfjggghbgfaaaPFnExactVerdictsFaultx0
namespace Go.Proofs.Ytfmfjggghbgfaaa.PFnExactVerdictsFault
open Go.RowKit Go.Proofs.YtfmfjggghbgfaaaW.PrintWords
end Go.Proofs.Ytfmfjggghbgfaaa.PFnExactVerdictsFault
