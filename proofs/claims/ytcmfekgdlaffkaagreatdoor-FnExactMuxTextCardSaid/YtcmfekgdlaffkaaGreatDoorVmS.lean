
/- The value machine: functions that hand over own rows, and functions that turn rows lent to them. Conditions: none. -/
import Derived.Test.YtcmfekgdlaffkaaGreatDoorVmM
namespace Go.Proofs.YtcmfekgdlaffkaaGreatDoor.Vm
open Go Go.RowKit
set_option linter.unusedVariables false
set_option linter.unusedSimpArgs false
variable {RT : Type} {den : RT → Type} {E : Env RT den} {P : Program} {ke : Bool}
structure Behind (E : Env RT den) (F : Frz) (w0 w : World) (p : Nat) (b0 β' : Bet) (outs : List (Ob RT den)) : Prop where
  objs : ∀ o ob, outs[o]? = some ob → ∀ b m, β' o = some (b, m) → ORep E F w β' b m ob
  keep : ∀ o, o < p → β' o = b0 o
  names : ∀ o b m, β' o = some (b, m) → b < w.heap.size ∧ (∀ off, ¬ F b off) ∧ o < outs.length ∧ (w0.heap.size ≤ b ∨ ∃ m', b0 o = some (b, m'))
  inj : ∀ o o' b m m', β' o = some (b, m) → β' o' = some (b, m') → o = o'
  none : ∀ o q, β'.h o q = none
section
variable (E : Env RT den) (ke : Bool) (pc : Pc RT den) {ρ : Type}
end
end Go.Proofs.YtcmfekgdlaffkaaGreatDoor.Vm
