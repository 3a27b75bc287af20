/- Plain law of UpCmds. Conditions: none. -/
import Derived.Test.YtcmfekgdlaffkaaGreatDoorPxPlTool
namespace Go.Proofs.YtcmfekgdlaffkaaGreatDoor.Px
open Go Go.RowKit Go.Proofs Vm
set_option linter.unusedVariables false
set_option linter.unusedSimpArgs false
set_option maxRecDepth 100000

/-! ### Services -/
def Vips (n : Nat) (f : Nat → S_impl_Vip) : Prop := ∀ m, m < n → (f m).Names.n ≤ 1048576
/-! ### Copies -/
end Go.Proofs.YtcmfekgdlaffkaaGreatDoor.Px
