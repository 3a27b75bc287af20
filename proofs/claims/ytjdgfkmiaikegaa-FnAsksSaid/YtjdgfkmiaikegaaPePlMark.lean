/- Plain laws of copies, marks and what holds them. Conditions: none. -/
import Derived.Test.YtjdgfkmiaikegaaPePlNode2
namespace Go.Proofs.Ytjdgfkmiaikegaa.Pe
open Go Go.RowKit Go.Proofs Vm
set_option linter.unusedVariables false
set_option linter.unusedSimpArgs false
set_option maxRecDepth 100000
theorem stepL {ρ V : Type} {B : V → (V → Option ρ) → Option ρ} {fu : Nat} {v : V} {ke : Option ρ} (n : Nat) (st : Nat → V) (hf : n < fu) (hv : v = st 0) (h1 : ∀ i go, i < n → B (st i) go = go (st (i + 1))) (h2 : ∀ go, B (st n) go = ke) : L B fu v = ke := by
 subst hv
 have key : ∀ m i fu, i + m = n → m < fu → L B fu (st i) = ke := by
  intro m
  induction m with
  | zero =>
   intro i fu hi hf
   obtain ⟨fu, rfl⟩ : ∃ k, fu = k + 1 := ⟨fu - 1, by omega⟩
   have : i = n := by omega
   subst this
   simp only [L, h2]
  | succ m ih =>
   intro i fu hi hf
   obtain ⟨fu, rfl⟩ : ∃ k, fu = k + 1 := ⟨fu - 1, by omega⟩
   simp only [L]
   rw [h1 i _ (by omega)]
   exact ih (i + 1) fu (by omega) (by omega)
 exact key n 0 fu (by omega) hf
def fresh {α : Type} (x : Sl α) : Sl α := ⟨none, x.n, x.f⟩
theorem c_l7Copy (fu : Nat) (x : Sl S_impl_Entry) (hx : x.n ≤ 1048576) : F_spec_l7Copy_H fu x = some (fresh x) := by
 unfold F_spec_l7Copy_H
 have h1 : x.n ≤ 9223372036854775807 := by omega
 have h2 : x.n * 72 ≤ 140737488355328 := by omega
 simp [h1, h2, fresh]
theorem c_Clone (fu : Nat) (x : Sl S_impl_Entry) (hx : x.n ≤ 1048576) : F_slices_Clone_impl_Entry_impl_Entry_H fu x = some (fresh x) := by
 unfold F_slices_Clone_impl_Entry_impl_Entry_H
 have h1 : x.n ≤ 9223372036854775807 := by omega
 have h2 : x.n * 72 ≤ 140737488355328 := by omega
 simp [h1, h2, fresh]
end Go.Proofs.Ytjdgfkmiaikegaa.Pe

