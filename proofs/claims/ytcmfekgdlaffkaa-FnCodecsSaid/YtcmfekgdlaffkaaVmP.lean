/- Plain tools for the evaluated forms: numbers that fit, loops by their rounds. Conditions: none. -/
import Derived.Test.YtcmfekgdlaffkaaVmO
namespace Go.Proofs.Ytcmfekgdlaffkaa.Vm
open Go Go.RowKit
set_option linter.unusedVariables false
set_option linter.unusedSimpArgs false
theorem wrap64 {x : Int} (h1 : -9223372036854775808 ≤ x) (h2 : x ≤ 9223372036854775807) : IntKind.wrap .i64 x = x := by
 have e : IntKind.wrap .i64 x = if 9223372036854775808 ≤ x % 18446744073709551616 then x % 18446744073709551616 - 18446744073709551616 else x % 18446744073709551616 := by
  simp [IntKind.wrap, IntKind.bits, IntKind.signed]
 rw [e]
 by_cases h : 9223372036854775808 ≤ x % 18446744073709551616
 ·rw [if_pos h]; omega
 ·rw [if_neg h]; omega
def Fit (x : Int) : Prop := -9223372036854775808 ≤ x ∧ x ≤ 9223372036854775807
theorem fit_of_wf {n : Int} (h : (Lit.int .i64 n).wf = true) : Fit n := by
 simp [Lit.wf, IntKind.min, IntKind.max, IntKind.bits, IntKind.signed] at h
 exact ⟨by omega, by omega⟩
def run {α σ : Type} (f : Nat → σ → Sum α σ) : Nat → Nat → σ → Sum α σ
 | 0, _, s => .inr s
 | m + 1, i, s => match f i s with
  | .inl a => .inl a
  | .inr s' => run f m (i + 1) s'
theorem run_congr {α σ : Type} {f g : Nat → σ → Sum α σ} : ∀ (m i : Nat) (s : σ), (∀ j s, i ≤ j → j < i + m → f j s = g j s) → run f m i s = run g m i s
 | 0, _, _, _ => rfl
 | m + 1, i, s, h => by
  simp only [run]
  rw [h i s (Nat.le_refl _) (by omega)]
  split
  ·rfl
  ·exact run_congr m (i + 1) _ (fun j s h1 h2 => h j s (by omega) (by omega))
theorem L_run {ρ V α σ : Type} {B : V → (V → Option ρ) → Option ρ} (st : Nat → σ → V) (n : Nat) (f : Nat → σ → Sum α σ) (kr : α → Option ρ) (ke : σ → Option ρ)
  (h1 : ∀ i s go, i < n → B (st i s) go = match f i s with | .inl a => kr a | .inr s' => go (st (i + 1) s')) (h2 : ∀ s go, B (st n s) go = ke s) :
  ∀ (m i : Nat) (s : σ) (fu : Nat), i + m = n → m < fu → L B fu (st i s) = match run f m i s with | .inl a => kr a | .inr s' => ke s'
 | 0, i, s, fu, hi, hf => by
  obtain ⟨fu, rfl⟩ : ∃ k, fu = k + 1 := ⟨fu - 1, by omega⟩
  simp only [Nat.add_zero] at hi
  subst hi
  simp only [L, run, h2]
 | m + 1, i, s, fu, hi, hf => by
  obtain ⟨fu, rfl⟩ : ∃ k, fu = k + 1 := ⟨fu - 1, by omega⟩
  simp only [L, run]
  rw [h1 i s _ (by omega)]
  cases f i s with
  | inl a => rfl
  | inr s' => exact L_run st n f kr ke h1 h2 m (i + 1) s' fu (by omega) (by omega)
theorem L_runI {ρ V α σ : Type} {B : V → (V → Option ρ) → Option ρ} (st : Nat → σ → V) (n : Nat) (f : Nat → σ → Sum α σ) (kr : α → Option ρ) (ke : σ → Option ρ) (I : Nat → σ → Prop)
  (h1 : ∀ i s go, i < n → I i s → B (st i s) go = match f i s with | .inl a => kr a | .inr s' => go (st (i + 1) s')) (hI : ∀ i s s', i < n → I i s → f i s = .inr s' → I (i + 1) s') (h2 : ∀ s go, I n s → B (st n s) go = ke s) :
  ∀ (m i : Nat) (s : σ) (fu : Nat), i + m = n → m < fu → I i s → L B fu (st i s) = match run f m i s with | .inl a => kr a | .inr s' => ke s'
 | 0, i, s, fu, hi, hf, hs => by
  obtain ⟨fu, rfl⟩ : ∃ k, fu = k + 1 := ⟨fu - 1, by omega⟩
  simp only [Nat.add_zero] at hi
  subst hi
  simp only [L, run, h2 s _ hs]
 | m + 1, i, s, fu, hi, hf, hs => by
  obtain ⟨fu, rfl⟩ : ∃ k, fu = k + 1 := ⟨fu - 1, by omega⟩
  simp only [L, run]
  rw [h1 i s _ (by omega) hs]
  cases hq : f i s with
  | inl a => rfl
  | inr s' => exact L_runI st n f kr ke I h1 hI h2 m (i + 1) s' fu (by omega) (by omega) (hI i s s' (by omega) hs hq)
theorem runI {α σ : Type} {f : Nat → σ → Sum α σ} (I : Nat → σ → Prop) : ∀ (m i : Nat) (s s' : σ), (∀ j s s', i ≤ j → j < i + m → I j s → f j s = .inr s' → I (j + 1) s') → I i s → run f m i s = .inr s' → I (i + m) s'
 | 0, i, s, s', _, hs, h => by simp only [run, Sum.inr.injEq] at h; subst h; exact hs
 | m + 1, i, s, s', hI, hs, h => by
  simp only [run] at h
  cases hq : f i s with
  | inl a => rw [hq] at h; cases h
  | inr t =>
   rw [hq] at h
   have := runI I m (i + 1) t s' (fun j s s' h1 h2 => hI j s s' (by omega) (by omega)) (hI i s t (Nat.le_refl _) (by omega) hs hq) h
   rwa [show i + 1 + m = i + (m + 1) by omega] at this
def scan {α : Type} (f : Nat → Option α) (m i : Nat) : Option α :=
 match run (σ := Unit) (fun i _ => match f i with | some a => Sum.inl a | none => Sum.inr ()) m i () with | .inl a => some a | .inr _ => none
theorem scan_zero {α : Type} (f : Nat → Option α) (i : Nat) : scan f 0 i = none := rfl
theorem scan_succ {α : Type} (f : Nat → Option α) (m i : Nat) : scan f (m + 1) i = match f i with | some a => some a | none => scan f m (i + 1) := by
 unfold scan
 simp only [run]
 cases f i <;> rfl
theorem scan_congr {α : Type} {f g : Nat → Option α} {m i : Nat} (h : ∀ j, i ≤ j → j < i + m → f j = g j) : scan f m i = scan g m i := by
 unfold scan
 rw [run_congr m i () (fun j s h1 h2 => by rw [h j h1 h2])]
theorem scan_none {α : Type} {f : Nat → Option α} : ∀ {m i : Nat}, scan f m i = none ↔ ∀ j, i ≤ j → j < i + m → f j = none
 | 0, i => by simp [scan_zero]; omega
 | m + 1, i => by
  rw [scan_succ]
  constructor
  ·intro h j h1 h2
   cases hq : f i with
   | some a => rw [hq] at h; simp at h
   | none =>
    rw [hq] at h
    by_cases e : j = i
    ·subst e; exact hq
    ·exact (scan_none.1 h) j (by omega) (by omega)
  ·intro h
   rw [h i (Nat.le_refl _) (by omega)]
   exact scan_none.2 (fun j h1 h2 => h j (by omega) (by omega))
theorem L_scan {ρ V α : Type} {B : V → (V → Option ρ) → Option ρ} (st : Nat → V) (n : Nat) (f : Nat → Option α) (kr : α → Option ρ) (ke : Option ρ)
  (h1 : ∀ i go, i < n → B (st i) go = match f i with | some a => kr a | none => go (st (i + 1))) (h2 : ∀ go, B (st n) go = ke) (m i : Nat) (fu : Nat) (hi : i + m = n) (hf : m < fu) :
  L B fu (st i) = match scan f m i with | some a => kr a | none => ke := by
 have := L_run (σ := Unit) (B := B) (fun i _ => st i) n (fun i _ => match f i with | some a => Sum.inl a | none => Sum.inr ()) kr (fun _ => ke) (fun i s go hi => by rw [h1 i go hi]; cases f i <;> rfl) (fun s go => h2 go) m i () fu hi hf
 rw [this]
 unfold scan
 split <;> simp_all
theorem L_scanE {ρ V α : Type} {B : V → (V → Option ρ) → Option ρ} (st : Nat → V) (n : Nat) (f : Nat → Option α) (kr : α → Option ρ) (ke : Option ρ)
  (h1 : ∀ i go, i < n → B (st i) go = match f i with | some a => kr a | none => go (st (i + 1))) (h2 : ∀ go, B (st n) go = ke) (m i : Nat) (fu : Nat) (hi : i + m = n) (hf : m < fu) :
  L B fu (st i) = (scan f m i).elim ke kr := by
 rw [L_scan st n f kr ke h1 h2 m i fu hi hf]
 cases scan f m i <;> rfl
end Go.Proofs.Ytcmfekgdlaffkaa.Vm

