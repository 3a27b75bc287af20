/- Plain law of new fleets. Conditions: none. -/
import Derived.Test.YtaghkcpgpjbdnaaPnF3
import Derived.Test.YtaghkcpgpjbdnaaVmP
namespace Go.Proofs.Ytaghkcpgpjbdnaa.Pn
open Go Go.RowKit Go.Proofs Vm
set_option linter.unusedVariables false
set_option linter.unusedSimpArgs false
set_option maxRecDepth 100000

def plainFuel : Nat := 2000000
def rng (a b c : Int) : Bool := decide (b ≤ a) && decide (a ≤ c)
theorem p_l1In (fu : Nat) (a b c : Int) : F_spec_l1In fu a b c = some (rng a b c) := by
  unfold F_spec_l1In rng
  by_cases h : b ≤ a <;> simp [h]
theorem p_in (fu : Nat) (a b c : Int) : F_impl_in fu a b c = some (rng a b c) := by
  unfold F_impl_in rng
  by_cases h : b ≤ a <;> simp [h]

theorem clu_1 : F_laws_FnExactNewFleet plainFuel 1 = some true := by kernel_rfl
theorem clu_2 : F_laws_FnExactNewFleet plainFuel 2 = some true := by kernel_rfl
theorem clu_3 : F_laws_FnExactNewFleet plainFuel 3 = some true := by kernel_rfl
theorem clu_6 : F_laws_FnExactNewFleet plainFuel 6 = some true := by kernel_rfl
theorem clu_out (a : Int) (h : rng a 1 3 = false) : F_laws_FnExactNewFleet plainFuel a = some true := by
  have h6 : rng 6 1 3 = false := rfl
  have e1 : F_spec_NewFleet_H plainFuel a = F_spec_NewFleet_H plainFuel 6 := by unfold F_spec_NewFleet_H; simp only [p_l1In, h, h6, Option.bind_some, Bool.not_false, cond_true]
  have e2 : F_impl_NewFleet_H plainFuel a = F_impl_NewFleet_H plainFuel 6 := by unfold F_impl_NewFleet_H; simp only [p_in, h, h6, Option.bind_some, Bool.not_false, cond_true]
  have := clu_6
  unfold F_laws_FnExactNewFleet at this ⊢
  rw [e1, e2]
  exact this

theorem plain_FnExactNewFleet (a : Int) {p : Prop} (w : p) : F_laws_FnExactNewFleet plainFuel a = some true := by
  cases h : rng a 1 3 with
  | false => exact clu_out a h
  | true =>
    simp only [rng, Bool.and_eq_true, decide_eq_true_eq] at h
    have : a = 1 ∨ a = 2 ∨ a = 3 := by omega
    rcases this with rfl | rfl | rfl
    · exact clu_1
    · exact clu_2
    · exact clu_3

end Go.Proofs.Ytaghkcpgpjbdnaa.Pn
