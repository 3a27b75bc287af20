/- Tools for marks, copies and loops that end. Conditions: none. -/
import Derived.Test.YtcmfekgdlaffkaaPqPlMach
namespace Go.Proofs.Ytcmfekgdlaffkaa.Pq
open Go Go.RowKit Go.Proofs Vm
set_option linter.unusedVariables false
set_option linter.unusedSimpArgs false
set_option maxRecDepth 100000
theorem stepL {ρ V : Type} {B : V → (V → Option ρ) → Option ρ} {fu : Nat} {v : V} {ke : Option ρ} (n : Nat) (st : Nat → V) (hf : n < fu) (hv : v = st 0) (h1 : ∀ i go, i < n → B (st i) go = go (st (i + 1))) (h2 : ∀ go, B (st n) go = ke) : L B fu v = ke := by
  subst hv
  have key : ∀ m i fu, i + m = n → m < fu → L B fu (st i) = ke := by
    intro m
    induction m with
    | zero =>
      intro i fu hi hf
      obtain ⟨fu, rfl⟩ : ∃ k, fu = k + 1 := ⟨fu - 1, by omega⟩
      have : i = n := by omega
      subst this
      simp only [L, h2]
    | succ m ih =>
      intro i fu hi hf
      obtain ⟨fu, rfl⟩ : ∃ k, fu = k + 1 := ⟨fu - 1, by omega⟩
      simp only [L]
      rw [h1 i _ (by omega)]
      exact ih (i + 1) fu (by omega) (by omega)
  exact key n 0 fu (by omega) hf
def marks {α : Type} (mk : Int → α) (w k : Int) (n : Nat) (f : Nat → α) : Nat → α := fun i => if i < n then mk (k + w * i) else f i
theorem marks_succ {α : Type} (mk : Int → α) (w k : Int) (i : Nat) (f : Nat → α) : (fun j => if j = i then mk (k + w * i) else marks mk w k i f j) = marks mk w k (i + 1) f := by
  funext j
  unfold marks
  by_cases h1 : j = i
  · subst h1; simp
  · by_cases h2 : j < i
    · have : j < i + 1 := by omega
      simp [h1, h2, this]
    · have : ¬ j < i + 1 := by omega
      simp [h1, h2, this]
theorem marks_at {α : Type} {mk : Int → α} {w k : Int} {n : Nat} {f : Nat → α} {i : Nat} (h : i < n) : marks mk w k n f i = mk (k + w * i) := by unfold marks; rw [if_pos h]
theorem cp_succ {α β : Type} (n : Nat) (f : Nat → α) (T : α → β) (d : β) : (fun j => if j = n then T (f n) else if j < n then T (f j) else d) = (fun j => if j < n + 1 then T (f j) else d) := by
  funext j
  by_cases h1 : j = n
  · subst h1; simp
  · by_cases h2 : j < n
    · have : j < n + 1 := by omega
      simp [h1, h2, this]
    · have : ¬ j < n + 1 := by omega
      simp [h1, h2, this]
theorem totL {ρ V : Type} {B : V → (V → Option ρ) → Option ρ} {fu : Nat} {v : V} {Q : ρ → Prop} (n : Nat) (I : Nat → V → Prop) (hf : n < fu) (h0 : I 0 v) (h1 : ∀ i v go, i < n → I i v → ∃ v', I (i + 1) v' ∧ B v go = go v') (h2 : ∀ v go, I n v → ∃ y, B v go = some y ∧ Q y) : ∃ y, L B fu v = some y ∧ Q y := by
  have key : ∀ m i fu v, i + m = n → m < fu → I i v → ∃ y, L B fu v = some y ∧ Q y := by
    intro m
    induction m with
    | zero =>
      intro i fu v hi hf hv
      obtain ⟨fu, rfl⟩ : ∃ k, fu = k + 1 := ⟨fu - 1, by omega⟩
      have : i = n := by omega
      subst this
      exact h2 v _ hv
    | succ m ih =>
      intro i fu v hi hf hv
      obtain ⟨fu, rfl⟩ : ∃ k, fu = k + 1 := ⟨fu - 1, by omega⟩
      obtain ⟨v', hv', e⟩ := h1 i v (L B fu) (by omega) hv
      obtain ⟨y, e2, hq⟩ := ih (i + 1) fu v' (by omega) (by omega) hv'
      exact ⟨y, by simp only [L]; rw [e, e2], hq⟩
  exact key n 0 fu v (by omega) hf h0
def Goes {V ρ : Type} (I : V → Prop) (go : V → Option ρ) (z : Option ρ) : Prop := ∃ v', I v' ∧ z = go v'
end Go.Proofs.Ytcmfekgdlaffkaa.Pq
namespace Go.Proofs.Ytcmfekgdlaffkaa.Pq
open Go Go.RowKit Go.Proofs Vm
set_option linter.unusedVariables false
set_option linter.unusedSimpArgs false
set_option maxRecDepth 100000
def Vips (n : Nat) (f : Nat → S_impl_Vip) : Prop := ∀ m, m < n → (f m).Names.n ≤ 1048576
end Go.Proofs.Ytcmfekgdlaffkaa.Pq
