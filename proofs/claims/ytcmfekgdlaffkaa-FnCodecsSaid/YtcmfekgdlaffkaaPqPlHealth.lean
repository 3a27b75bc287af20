/- Plain laws of the health of a backend. Conditions: none. -/
import Derived.Test.YtcmfekgdlaffkaaPqPlBase
namespace Go.Proofs.Ytcmfekgdlaffkaa.Pq
open Go Go.RowKit Go.Proofs Vm
set_option linter.unusedVariables false
set_option linter.unusedSimpArgs false
set_option maxRecDepth 100000
theorem run_inr {α σ : Type} {f : Nat → σ → Sum α σ} (h : ∀ i s, ∃ s', f i s = .inr s') : ∀ (m i : Nat) (s : σ), ∃ s', run f m i s = .inr s'
  | 0, _, s => ⟨s, rfl⟩
  | m + 1, i, s => by
    obtain ⟨s', e⟩ := h i s
    obtain ⟨t, et⟩ := run_inr h m (i + 1) s'
    exact ⟨t, by simp only [run, e]; exact et⟩
end Go.Proofs.Ytcmfekgdlaffkaa.Pq
namespace Go.Proofs.Ytcmfekgdlaffkaa.Pq
open Go Go.RowKit Go.Proofs Vm
set_option linter.unusedVariables false
set_option linter.unusedSimpArgs false
set_option maxRecDepth 100000
def saysI (i : Nat) (s : Int) : Prop := s = -1 ∨ (0 ≤ s ∧ s < (i : Int))
def verdEnd (m : Int) (s : Int × Int) : Int := bif decide (IntKind.wrap .i64 (2 * s.1) > m) then 1 else bif decide (IntKind.wrap .i64 (2 * s.2) > m) then 2 else 0
end Go.Proofs.Ytcmfekgdlaffkaa.Pq
