
/- The value machine: functions that turn variables lent to them, and hand new rows over in them. Conditions: none. -/
import Derived.Test.YtcmfekgdlaffkaaGreatDoorVmS
namespace Go.Proofs.YtcmfekgdlaffkaaGreatDoor.Vm
open Go Go.RowKit
set_option linter.unusedVariables false
set_option linter.unusedSimpArgs false
variable {RT : Type} {den : RT → Type} {E : Env RT den} {P : Program} {ke : Bool}
section
variable (E : Env RT den) (ke : Bool) (pc : Pc RT den) {ρ : Type}
end
end Go.Proofs.YtcmfekgdlaffkaaGreatDoor.Vm
