/- Plain laws of the verdicts. Conditions: none. -/
import Derived.Test.YtcmfekgdlaffkaaGreatDoorPxPlHealth
namespace Go.Proofs.YtcmfekgdlaffkaaGreatDoor.Px
open Go Go.RowKit Go.Proofs Vm
set_option linter.unusedVariables false
set_option linter.unusedSimpArgs false
set_option maxRecDepth 100000

/-! ### The best verdict of a prober -/

def saysI (i : Nat) (s : Int) : Prop := s = -1 ∨ (0 ≤ s ∧ s < (i : Int))
/-! ### The verdict of many -/

def verdEnd (m : Int) (s : Int × Int) : Int := bif decide (IntKind.wrap .i64 (2 * s.1) > m) then 1 else bif decide (IntKind.wrap .i64 (2 * s.2) > m) then 2 else 0
end Go.Proofs.YtcmfekgdlaffkaaGreatDoor.Px
