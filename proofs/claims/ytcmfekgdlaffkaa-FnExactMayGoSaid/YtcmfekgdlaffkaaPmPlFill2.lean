/- Plain laws of tables that are filled: the program's loops and the reference's. Conditions: none. -/
import Derived.Test.YtcmfekgdlaffkaaPmPlFill
namespace Go.Proofs.Ytcmfekgdlaffkaa.Pm
open Go Go.RowKit Go.Proofs Vm
set_option linter.unusedVariables false
set_option linter.unusedSimpArgs false
set_option maxRecDepth 100000

theorem runI_inr {α σ : Type} {f : Nat → σ → Sum α σ} {I : Nat → σ → Prop} : ∀ (n i : Nat) (s : σ), I i s → (∀ j s, i ≤ j → j < i + n → I j s → ∃ s', f j s = .inr s' ∧ I (j + 1) s') → ∃ s', run f n i s = .inr s' ∧ I (i + n) s'
  | 0, i, s, h, _ => ⟨s, rfl, h⟩
  | n + 1, i, s, h, hs => by
    obtain ⟨s1, e1, h1⟩ := hs i s (Nat.le_refl _) (by omega) h
    obtain ⟨s2, e2, h2⟩ := runI_inr n (i + 1) s1 h1 (fun j s a b => hs j s (by omega) (by omega))
    exact ⟨s2, by simp only [run, e1]; exact e2, by rw [show i + (n + 1) = i + 1 + n by omega]; exact h2⟩

/-! ### The reference -/

def T0 : Nat → Int := fun _ => 0
/-! ### The program -/

theorem scan_at {α : Type} {f : Nat → Option α} {a : α} {q : Nat} : ∀ (m i : Nat), i ≤ q → q < i + m → (∀ k, i ≤ k → k < q → f k = none) → f q = some a → scan f m i = some a
  | 0, i, h1, h2, _, _ => by omega
  | m + 1, i, h1, h2, h3, h4 => by
    rw [scan_succ]
    by_cases hiq : i = q
    · subst hiq; rw [h4]
    · rw [h3 i (Nat.le_refl _) (by omega)]
      exact scan_at m (i + 1) (by omega) (by omega) (fun k a b => h3 k (by omega) b) h4

structure Perm (name : Int) (P : Sl Int) : Prop where
  n : P.n = 31
  f : ∀ x, x < 31 → P.f x = (pl name x : Int)
theorem zeros_le (T : Nat → Int) : zeros T 31 ≤ 31 := by
  unfold zeros
  have := List.countP_le_length (p := fun p => T p == 0) (l := List.range 31)
  simpa using this

theorem T0_zeros : zeros T0 31 = 31 := rfl
end Go.Proofs.Ytcmfekgdlaffkaa.Pm
