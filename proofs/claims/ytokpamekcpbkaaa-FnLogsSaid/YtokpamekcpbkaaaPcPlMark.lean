/- Plain laws of copies, marks and what holds them. Conditions: none. -/
import Derived.Test.YtokpamekcpbkaaaPcPlNode2
namespace Go.Proofs.Ytokpamekcpbkaaa.Pc
open Go Go.RowKit Go.Proofs Vm
set_option linter.unusedVariables false
set_option linter.unusedSimpArgs false
set_option maxRecDepth 100000

theorem runL {ρ V α σ : Type} {B : V → (V → Option ρ) → Option ρ} {fu : Nat} {r : Option ρ} {v : V} (n : Nat) (st : Nat → σ → V) (s : σ) (f : Nat → σ → Sum α σ) (kr : α → Option ρ) (ke : σ → Option ρ) (I : Nat → σ → Prop) (hf : n < fu) (hv : v = st 0 s) (h0 : I 0 s)
    (h1 : ∀ i s go, i < n → I i s → B (st i s) go = (f i s).elim kr (fun s' => go (st (i + 1) s'))) (hI : ∀ i s s', i < n → I i s → f i s = .inr s' → I (i + 1) s') (h2 : ∀ s go, I n s → B (st n s) go = ke s) (hr : (run f n 0 s).elim kr ke = r) : L B fu v = r := by
  subst hv
  have h := L_runI (B := B) st n f kr ke I (fun i s go hi hs => by rw [h1 i s go hi hs]; cases f i s <;> rfl) hI h2 n 0 s fu (by omega) hf h0
  rw [h, ← hr]
  cases run f n 0 s <;> rfl

/-- A loop without an early end. -/
theorem stepL {ρ V : Type} {B : V → (V → Option ρ) → Option ρ} {fu : Nat} {v : V} {ke : Option ρ} (n : Nat) (st : Nat → V) (hf : n < fu) (hv : v = st 0) (h1 : ∀ i go, i < n → B (st i) go = go (st (i + 1))) (h2 : ∀ go, B (st n) go = ke) : L B fu v = ke := by
  subst hv
  have key : ∀ m i fu, i + m = n → m < fu → L B fu (st i) = ke := by
    intro m
    induction m with
    | zero =>
      intro i fu hi hf
      obtain ⟨fu, rfl⟩ : ∃ k, fu = k + 1 := ⟨fu - 1, by omega⟩
      have : i = n := by omega
      subst this
      simp only [L, h2]
    | succ m ih =>
      intro i fu hi hf
      obtain ⟨fu, rfl⟩ : ∃ k, fu = k + 1 := ⟨fu - 1, by omega⟩
      simp only [L]
      rw [h1 i _ (by omega)]
      exact ih (i + 1) fu (by omega) (by omega)
  exact key n 0 fu (by omega) hf

/-- Marks, written from k on, w to an element. -/
def marks {α : Type} (mk : Int → α) (w k : Int) (n : Nat) (f : Nat → α) : Nat → α := fun i => if i < n then mk (k + w * i) else f i
theorem marks_succ {α : Type} (mk : Int → α) (w k : Int) (i : Nat) (f : Nat → α) : (fun j => if j = i then mk (k + w * i) else marks mk w k i f j) = marks mk w k (i + 1) f := by
  funext j
  unfold marks
  by_cases h1 : j = i
  · subst h1; simp
  · by_cases h2 : j < i
    · have : j < i + 1 := by omega
      simp [h1, h2, this]
    · have : ¬ j < i + 1 := by omega
      simp [h1, h2, this]
theorem marks_at {α : Type} {mk : Int → α} {w k : Int} {n : Nat} {f : Nat → α} {i : Nat} (h : i < n) : marks mk w k n f i = mk (k + w * i) := by unfold marks; rw [if_pos h]

def mkE (k : Int) : S_impl_Entry := ⟨k, k + 1, k + 1 + 1, ⟨k + 1 + 1 + 1, k + 1 + 1 + 1 + 1, k + 1 + 1 + 1 + 1 + 1, k + 1 + 1 + 1 + 1 + 1 + 1, k + 1 + 1 + 1 + 1 + 1 + 1 + 1, k + 1 + 1 + 1 + 1 + 1 + 1 + 1 + 1⟩⟩

/-! ### Copies that are handed over -/

/-- A row in new memory. -/
def fresh {α : Type} (x : Sl α) : Sl α := ⟨none, x.n, x.f⟩
theorem c_l7Copy (fu : Nat) (x : Sl S_impl_Entry) (hx : x.n ≤ 1048576) : F_spec_l7Copy_H fu x = some (fresh x) := by
  unfold F_spec_l7Copy_H
  have h1 : x.n ≤ 9223372036854775807 := by omega
  have h2 : x.n * 72 ≤ 140737488355328 := by omega
  simp [h1, h2, fresh]
theorem c_Clone (fu : Nat) (x : Sl S_impl_Entry) (hx : x.n ≤ 1048576) : F_slices_Clone_impl_Entry_impl_Entry_H fu x = some (fresh x) := by
  unfold F_slices_Clone_impl_Entry_impl_Entry_H
  have h1 : x.n ≤ 9223372036854775807 := by omega
  have h2 : x.n * 72 ≤ 140737488355328 := by omega
  simp [h1, h2, fresh]

end Go.Proofs.Ytokpamekcpbkaaa.Pc
