/- Struct types of the law FnExactHealthFault's parameters. -/
import Derived.Test.YtfmfjggghbgfaaaPFnExactHealthFaultx0
namespace Go.Proofs.Ytfmfjggghbgfaaa.PFnExactHealthFault
open Go.RowKit Go.Proofs.YtfmfjggghbgfaaaW.PrintWords
structure S23 where
  f0 : Int
  f1 : Bool
  f2 : Int
def k23 : Kd S23 := Kd.iso (Kd.pair (Kd.int .i64) (Kd.pair Kd.bool (Kd.int .i64))) (fun x : S23 => (x.f0, x.f1, x.f2))
theorem k23_open {w : World} {x : S23} {cs : List Value} (h : k23.K w x cs) : cs = [.int .i64 x.f0, .bool x.f1, .int .i64 x.f2] := by
  obtain ⟨_, _, rfl, rfl, ⟨_, _, rfl, rfl, rfl⟩⟩ := h
  exact rfl
end Go.Proofs.Ytfmfjggghbgfaaa.PFnExactHealthFault
