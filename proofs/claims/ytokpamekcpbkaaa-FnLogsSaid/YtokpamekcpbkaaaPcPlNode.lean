/- Plain laws of nodes and mails: what the reference and the program compute is one. Conditions: none. -/
import Derived.Test.YtokpamekcpbkaaaPcPlLog2
namespace Go.Proofs.Ytokpamekcpbkaaa.Pc
open Go Go.RowKit Go.Proofs Vm
set_option linter.unusedVariables false
set_option linter.unusedSimpArgs false
set_option maxRecDepth 100000

/-- Do all places have something? -/
def allb (n : Nat) (g : Nat → Bool) : Bool := (List.range n).all g
theorem allb_iff {n : Nat} {g : Nat → Bool} : allb n g = true ↔ ∀ i, i < n → g i = true := by simp [allb]
theorem allb_congr {n : Nat} {g h : Nat → Bool} (e : ∀ i, i < n → g i = h i) : allb n g = allb n h := by
  rw [Bool.eq_iff_iff, allb_iff, allb_iff]
  exact ⟨fun a i hi => by rw [← e i hi]; exact a i hi, fun a i hi => by rw [e i hi]; exact a i hi⟩
theorem allb_and (n : Nat) (g h : Nat → Bool) : allb n (fun i => g i && h i) = (allb n g && allb n h) := by
  rw [Bool.eq_iff_iff, Bool.and_eq_true, allb_iff, allb_iff, allb_iff]
  constructor
  · intro a
    exact ⟨fun i hi => ((Bool.and_eq_true _ _).mp (a i hi)).1, fun i hi => ((Bool.and_eq_true _ _).mp (a i hi)).2⟩
  · rintro ⟨a, b⟩ i hi
    exact (Bool.and_eq_true _ _).mpr ⟨a i hi, b i hi⟩

/-- A loop that ends at the first bad place. -/
theorem L_all {ρ V : Type} {B : V → (V → Option ρ) → Option ρ} (st : Nat → V) (n i0 : Nat) (bad : Nat → Bool) (k0 k1 : Option ρ) (h0 : i0 ≤ n)
    (h1 : ∀ i go, i0 ≤ i → i < n → B (st i) go = bif bad i then k0 else go (st (i + 1))) (h2 : ∀ go, B (st n) go = k1) (fu : Nat) (hf : n < fu) :
    L B fu (st i0) = bif allb n (fun i => decide (i < i0) || !bad i) then k1 else k0 := by
  have key : ∀ m i fu, i + m = n → m < fu → i0 ≤ i → L B fu (st i) = bif allb n (fun j => decide (j < i) || !bad j) then k1 else k0 := by
    intro m
    induction m with
    | zero =>
      intro i fu hi hf hl
      obtain ⟨fu, rfl⟩ : ∃ k, fu = k + 1 := ⟨fu - 1, by omega⟩
      have : i = n := by omega
      subst this
      have e : allb i (fun j => decide (j < i) || !bad j) = true := allb_iff.2 (fun j hj => by simp [hj])
      rw [e]
      simp only [L, h2, cond_true]
    | succ m ih =>
      intro i fu hi hf hl
      obtain ⟨fu, rfl⟩ : ∃ k, fu = k + 1 := ⟨fu - 1, by omega⟩
      simp only [L]
      rw [h1 i _ hl (by omega)]
      cases hb : bad i with
      | true =>
        have e : allb n (fun j => decide (j < i) || !bad j) = false := by
          rw [Bool.eq_false_iff]
          intro h
          have := allb_iff.1 h i (by omega)
          simp [hb] at this
        rw [e]; rfl
      | false =>
        simp only [cond_false]
        rw [ih (i + 1) fu (by omega) (by omega) (by omega)]
        congr 1
        refine allb_congr (fun j hj => ?_)
        by_cases hji : j = i
        · subst hji; simp [hb]
        · have : decide (j < i + 1) = decide (j < i) := by
            rw [decide_eq_decide]; omega
          rw [this]
  exact key (n - i0) i0 fu (by omega) (by omega) (Nat.le_refl _)

theorem L_all0 {ρ V : Type} {B : V → (V → Option ρ) → Option ρ} (st : Nat → V) (n : Nat) (bad : Nat → Bool) (k0 k1 : Option ρ)
    (h1 : ∀ i go, i < n → B (st i) go = bif bad i then k0 else go (st (i + 1))) (h2 : ∀ go, B (st n) go = k1) (fu : Nat) (hf : n < fu) :
    L B fu (st 0) = bif allb n (fun i => !bad i) then k1 else k0 := by
  rw [L_all st n 0 bad k0 k1 (Nat.zero_le _) (fun i go _ hi => h1 i go hi) h2 fu hf]
  simp

/-! ### Nodes -/

def rise (v : Sl Int) : Bool := allb v.n (fun i => !(decide (0 < i) && decide (v.f i ≤ v.f (i - 1))))
end Go.Proofs.Ytokpamekcpbkaaa.Pc
