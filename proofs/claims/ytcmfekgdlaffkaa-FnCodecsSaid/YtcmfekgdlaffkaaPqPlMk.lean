/- Marks and what holds them: configs, updates. Conditions: none. -/
import Derived.Test.YtcmfekgdlaffkaaPqPlTool
namespace Go.Proofs.Ytcmfekgdlaffkaa.Pq
open Go Go.RowKit Go.Proofs Vm
set_option linter.unusedVariables false
set_option linter.unusedSimpArgs false
set_option maxRecDepth 100000
def mkB (k : Int) : S_impl_Backend := ⟨k, k + 1, k + 1 + 1, k + 1 + 1 + 1, Int.tmod (k + 1 + 1 + 1 + 1) 3 == 0⟩
def mkC (k : Int) : S_impl_Cmd := ⟨k, k + 1, k + 1 + 1, k + 1 + 1 + 1, k + 1 + 1 + 1 + 1, k + 1 + 1 + 1 + 1 + 1⟩
def kV (f : Nat → S_impl_Vip) (k : Int) : Nat → Int
  | 0 => k
  | i + 1 => kV f k i + 1 + 1 + 1 + 1 * ((f i).Names.n : Int)
def mkV (v : S_impl_Vip) (k : Int) : S_impl_Vip := ⟨k, k + 1, k + 1 + 1, ⟨none, v.Names.n, marks id 1 (k + 1 + 1 + 1) v.Names.n v.Names.f⟩⟩
def gV (f : Nat → S_impl_Vip) (k : Int) (i : Nat) : Nat → S_impl_Vip := fun j => if j < i then mkV (f j) (kV f k j) else f j
theorem kV_bound {n : Nat} {f : Nat → S_impl_Vip} {k : Int} (hI : Vips n f) : ∀ i, i ≤ n → k ≤ kV f k i ∧ kV f k i ≤ k + 1048579 * i
  | 0, _ => ⟨Int.le_refl _, by simp [kV]⟩
  | i + 1, h => by
    obtain ⟨a, b⟩ := kV_bound (k := k) hI i (by omega)
    have := hI i (by omega)
    unfold kV
    constructor <;> omega
def copyV (v : S_impl_Vip) : S_impl_Vip := ⟨v.Address, v.Port, v.Proto, ⟨none, v.Names.n, v.Names.f⟩⟩
def copyS (f : Nat → S_impl_Vip) : Nat → Nat → S_impl_Vip
  | 0 => fun _ => dflt .impl_Vip
  | i + 1 => fun j => if j < i then copyS f i j else copyV (f i)
theorem copyS_at (f : Nat → S_impl_Vip) : ∀ i j, j < i → copyS f i j = copyV (f j)
  | 0, j, h => absurd h (Nat.not_lt_zero _)
  | i + 1, j, h => by
    unfold copyS
    by_cases h1 : j < i
    · simp only [h1, if_true]; exact copyS_at f i j h1
    · have : j = i := by omega
      subst this
      simp only [h1, if_false]
def copyI (f : Nat → S_impl_Vip) (i : Nat) : Nat → S_impl_Vip := fun j => if j < i then copyV (f j) else f j
theorem copyI_succ (f : Nat → S_impl_Vip) (i : Nat) : upd_impl_Vip_3_1 (copyI f i) i ⟨none, (f i).Names.n, (f i).Names.f⟩ = copyI f (i + 1) := by
  funext j
  unfold upd_impl_Vip_3_1
  by_cases hj : j = i
  · subst hj
    have h1 : ¬ j < j := by omega
    have h2 : j < j + 1 := by omega
    simp only [copyI, h1, h2, if_true, if_false, copyV]
  · by_cases h2 : j < i
    · have h3 : j < i + 1 := by omega
      simp only [copyI, hj, h2, h3, if_true, if_false]
    · have h3 : ¬ j < i + 1 := by omega
      simp only [copyI, hj, h2, h3, if_false]
theorem copy_same (f : Nat → S_impl_Vip) (n i : Nat) (h : i < n) : copyI f n i = copyS f n i := by
  rw [copyS_at f n i h]
  simp [copyI, h]
theorem copy_vips {n : Nat} {f : Nat → S_impl_Vip} (h : Vips n f) : Vips n (copyI f n) := fun m hm => by
  simp only [copyI, hm, if_true, copyV]
  exact h m hm
abbrev FullT : Type := Int × Int × Int × Bool × Int × Nat × Nat × Nat × Nat × (Nat → S_impl_Backend) × Nat × (Nat → S_impl_Vip) × Nat × (Nat → S_impl_Cmd)
end Go.Proofs.Ytcmfekgdlaffkaa.Pq
