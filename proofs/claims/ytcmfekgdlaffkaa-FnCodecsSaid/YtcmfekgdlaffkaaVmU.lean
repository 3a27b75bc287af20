
/- The value machine: functions that hand rows of own rows over, or turn such that are lent. Conditions: none. -/
import Derived.Test.YtcmfekgdlaffkaaVmT
namespace Go.Proofs.Ytcmfekgdlaffkaa.Vm
open Go Go.RowKit
set_option linter.unusedVariables false
set_option linter.unusedSimpArgs false
variable {RT : Type} {den : RT → Type} {E : Env RT den} {P : Program}
section
variable (E : Env RT den) (pc : Pc RT den) {ρ : Type}
end
def Fulls : List (Ob RT den) → Prop
 | [] => True
 | .deep _ _ n p _ :: l => n ≤ p ∧ Fulls l
 | _ :: l => Fulls l
theorem Fulls.get : ∀ {outs : List (Ob RT den)} (m : Nat), Fulls (outs.drop m) → ∀ (k : Nat) l τ n p g, m ≤ k → outs[k]? = some (Ob.deep l τ n p g) → n ≤ p
 | [], m, _, k, l, τ, n, p, g, _, h => by simp at h
 | ob :: outs, 0, hf, 0, l, τ, n, p, g, _, h => by
  simp only [List.getElem?_cons_zero, Option.some.injEq] at h
  subst h
  exact hf.1
 | ob :: outs, 0, hf, k + 1, l, τ, n, p, g, _, h => by
  have hf' : Fulls outs := by
   cases ob with
   | deep => exact hf.2
   | _ => exact hf
  exact Fulls.get (outs := outs) 0 hf' k l τ n p g (Nat.zero_le _) (by simpa using h)
 | ob :: outs, m + 1, hf, 0, l, τ, n, p, g, hk, h => absurd hk (by omega)
 | ob :: outs, m + 1, hf, k + 1, l, τ, n, p, g, hk, h => Fulls.get (outs := outs) m hf k l τ n p g (by omega) (by simpa using h)
end Go.Proofs.Ytcmfekgdlaffkaa.Vm

