
/- The value machine: functions that hand rows of own rows over, or turn such that are lent. Conditions: none. -/
import Derived.Test.YtcmfekgdlaffkaaGreatDoorVmT
namespace Go.Proofs.YtcmfekgdlaffkaaGreatDoor.Vm
open Go Go.RowKit
set_option linter.unusedVariables false
set_option linter.unusedSimpArgs false
variable {RT : Type} {den : RT → Type} {E : Env RT den} {P : Program}
section
variable (E : Env RT den) (pc : Pc RT den) {ρ : Type}
end
end Go.Proofs.YtcmfekgdlaffkaaGreatDoor.Vm
