/- Marks and what holds them: configs, updates. Conditions: none. -/
import Derived.Test.YtcmfekgdlaffkaaGreatDoorPxPlUpcA
namespace Go.Proofs.YtcmfekgdlaffkaaGreatDoor.Px
open Go Go.RowKit Go.Proofs Vm
set_option linter.unusedVariables false
set_option linter.unusedSimpArgs false
set_option maxRecDepth 100000

def mkB (k : Int) : S_impl_Backend := ⟨k, k + 1, k + 1 + 1, k + 1 + 1 + 1, Int.tmod (k + 1 + 1 + 1 + 1) 3 == 0⟩
/-! ### Services: each as long as its names -/
def kV (f : Nat → S_impl_Vip) (k : Int) : Nat → Int
  | 0 => k
  | i + 1 => kV f k i + 1 + 1 + 1 + 1 * ((f i).Names.n : Int)
def mkV (v : S_impl_Vip) (k : Int) : S_impl_Vip := ⟨k, k + 1, k + 1 + 1, ⟨none, v.Names.n, marks id 1 (k + 1 + 1 + 1) v.Names.n v.Names.f⟩⟩
def gV (f : Nat → S_impl_Vip) (k : Int) (i : Nat) : Nat → S_impl_Vip := fun j => if j < i then mkV (f j) (kV f k j) else f j
theorem kV_bound {n : Nat} {f : Nat → S_impl_Vip} {k : Int} (hI : Vips n f) : ∀ i, i ≤ n → k ≤ kV f k i ∧ kV f k i ≤ k + 1048579 * i
  | 0, _ => ⟨Int.le_refl _, by simp [kV]⟩
  | i + 1, h => by
    obtain ⟨a, b⟩ := kV_bound (k := k) hI i (by omega)
    have := hI i (by omega)
    unfold kV
    constructor <;> omega
/-! ### Updates -/
/-! ### What is alike is equal -/
theorem q_VipS {fu : Nat} (hf : 2000000 ≤ fu) (x y : Sl S_impl_Vip) (hx : x.n ≤ 1048576) (hI : Vips x.n x.f) (hn : x.n = y.n) (h : ∀ i, i < x.n → x.f i = y.f i) : F_laws_eqVipS fu x y = some true := by
  unfold F_laws_eqVipS
  have hb : ((((x.n : Nat) : Int) != ((y.n : Nat) : Int))) = false := by rw [hn]; simp
  simp only [hb, cond_false]
  refine eqL x.n (by omega) (fun i go hi => ?_) (fun go => ?_)
  · unfold F_laws_eqVipS_B0
    have hy : i < y.n := hn ▸ hi
    simp [hi, hy, ← hn, ← h i hi, wsucc (show i < 4611686018427387904 by omega), e_Vip hf (x.f i) (hI i hi)]
  · unfold F_laws_eqVipS_B0; simp
/-! ### Copies -/
def copyV (v : S_impl_Vip) : S_impl_Vip := ⟨v.Address, v.Port, v.Proto, ⟨none, v.Names.n, v.Names.f⟩⟩
def copyS (f : Nat → S_impl_Vip) : Nat → Nat → S_impl_Vip
  | 0 => fun _ => dflt .impl_Vip
  | i + 1 => fun j => if j < i then copyS f i j else copyV (f i)
theorem copyS_at (f : Nat → S_impl_Vip) : ∀ i j, j < i → copyS f i j = copyV (f j)
  | 0, j, h => absurd h (Nat.not_lt_zero _)
  | i + 1, j, h => by
    unfold copyS
    by_cases h1 : j < i
    · simp only [h1, if_true]; exact copyS_at f i j h1
    · have : j = i := by omega
      subst this
      simp only [h1, if_false]
def copyI (f : Nat → S_impl_Vip) (i : Nat) : Nat → S_impl_Vip := fun j => if j < i then copyV (f j) else f j
theorem copy_same (f : Nat → S_impl_Vip) (n i : Nat) (h : i < n) : copyI f n i = copyS f n i := by
  rw [copyS_at f n i h]
  simp [copyI, h]
theorem copy_vips {n : Nat} {f : Nat → S_impl_Vip} (h : Vips n f) : Vips n (copyI f n) := fun m hm => by
  simp only [copyI, hm, if_true, copyV]
  exact h m hm

end Go.Proofs.YtcmfekgdlaffkaaGreatDoor.Px
