/- Plain law of new muxes. Conditions: none. -/
import Derived.Test.YtaghkcpgpjbdnaaPcF2
import Derived.Test.YtaghkcpgpjbdnaaVmP
namespace Go.Proofs.Ytaghkcpgpjbdnaa.Pc
open Go Go.RowKit Go.Proofs Vm
set_option linter.unusedVariables false
set_option linter.unusedSimpArgs false
set_option maxRecDepth 100000

def plainFuel : Nat := 2000000
def rng (a b c : Int) : Bool := decide (b ≤ a) && decide (a ≤ c)
theorem p_l1In (fu : Nat) (a b c : Int) : F_spec_l1In fu a b c = some (rng a b c) := by
  unfold F_spec_l1In rng
  by_cases h : b ≤ a <;> simp [h]
theorem p_in (fu : Nat) (a b c : Int) : F_impl_in fu a b c = some (rng a b c) := by
  unfold F_impl_in rng
  by_cases h : b ≤ a <;> simp [h]

theorem plain_FnExactNewMux (a : Int) {p : Prop} (w : p) : F_laws_FnExactNewMux plainFuel a = some true := by
  show F_laws_FnExactNewMux (1999999 + 1) a = some true
  generalize 1999999 = k
  unfold F_laws_FnExactNewMux F_spec_NewMux_H F_impl_NewMux_H F_spec_l14Bad_H F_impl_isAddress F_spec_l2Address
  simp only [p_l1In, p_in, Option.bind_some]
  cases rng a 0 4294967295 <;> simp [L, F_laws_markByteS_L_B0, F_laws_markByteS_L, F_laws_markBackendS_L_B0, F_laws_markBackendS_L, F_laws_markVipS_L_B0, F_laws_markVipS_L, F_laws_markConfig_L, F_laws_markWatch_L, F_laws_markInt64SS_L_B0, F_laws_markInt64SS_L, F_laws_markHeldS_L_B0, F_laws_markHeldS_L, F_laws_markMux_L, F_laws_markMuxResult_L, F_laws_eqByteS_B0, F_laws_eqByteS, F_laws_eqBackend, F_laws_eqBackendS_B0, F_laws_eqBackendS, F_laws_eqInt64S_B0, F_laws_eqInt64S, F_laws_eqVip, F_laws_eqVipS_B0, F_laws_eqVipS, F_laws_eqConfig, F_laws_eqWatch, F_laws_eqInt64SS_B0, F_laws_eqInt64SS, F_laws_eqFlow, F_laws_eqHeld, F_laws_eqHeldS_B0, F_laws_eqHeldS, F_laws_eqMux, F_laws_eqMuxResult, F_laws_heldByteS_B0, F_laws_heldByteS, F_laws_heldBackendS_B0, F_laws_heldBackendS, F_laws_heldInt64S_B0, F_laws_heldInt64S, F_laws_heldVipS_B0, F_laws_heldVipS, F_laws_heldConfig, F_laws_heldWatch, F_laws_heldInt64SS_B0, F_laws_heldInt64SS, F_laws_heldHeldS_B0, F_laws_heldHeldS, F_laws_heldMux, F_laws_heldMuxResult]

end Go.Proofs.Ytaghkcpgpjbdnaa.Pc
