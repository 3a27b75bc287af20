/- The sum over the words of bytes. Conditions: none. -/
import Derived.Test.YtcmfekgdlaffkaaPmPlByt
namespace Go.Proofs.Ytcmfekgdlaffkaa.Pm
open Go Go.RowKit Go.Proofs Vm
set_option linter.unusedVariables false
set_option linter.unusedSimpArgs false
set_option maxRecDepth 100000

def red (s : Int) : Int := if s > 65535 then s - 65535 else s
def wordV (f : Nat → Int) (n k : Nat) : Int := 256 * f (2 * k) + (if 2 * k + 1 < n then f (2 * k + 1) else 0)
def sumK (f : Nat → Int) (n : Nat) : Nat → Int
  | 0 => 0
  | k + 1 => red (sumK f n k + wordV f n k)
theorem word_fit {n : Nat} {f : Nat → Int} (h : Byt n f) {k : Nat} (hk : 2 * k < n) : 0 ≤ wordV f n k ∧ wordV f n k ≤ 65535 := by
  have := h (2 * k) hk
  unfold wordV
  split
  · rename_i h2
    have := h (2 * k + 1) h2
    omega
  · omega
theorem red_fit {s : Int} (h0 : 0 ≤ s) (h1 : s ≤ 131070) : 0 ≤ red s ∧ red s ≤ 65535 := by
  unfold red; split <;> omega
theorem sumK_fit {n : Nat} {f : Nat → Int} (h : Byt n f) : ∀ k, 2 * k ≤ n + 1 → 0 ≤ sumK f n k ∧ sumK f n k ≤ 65535
  | 0, _ => by simp [sumK]
  | k + 1, hk => by
    have := sumK_fit h k (by omega)
    have := word_fit h (k := k) (by omega)
    exact red_fit (by omega) (by omega)
theorem sumK_congr {n : Nat} {f g : Nat → Int} (h : ∀ i, i < n → f i = g i) : ∀ k, 2 * k ≤ n + 1 → sumK f n k = sumK g n k
  | 0, _ => rfl
  | k + 1, hk => by
    simp only [sumK]
    rw [sumK_congr h k (by omega)]
    have : wordV f n k = wordV g n k := by
      unfold wordV
      rw [h (2 * k) (by omega)]
      split
      · rename_i h2; rw [h _ h2]
      · rfl
    rw [this]
def sumV (x : Sl Int) : Int := 65535 - sumK x.f x.n ((x.n + 1) / 2)
theorem sumV_fit {x : Sl Int} (h : Byt x.n x.f) : 0 ≤ sumV x ∧ sumV x ≤ 65535 := by
  have := sumK_fit h ((x.n + 1) / 2) (by omega)
  unfold sumV; omega
theorem wr64 {n : Int} (h1 : -9223372036854775808 ≤ n) (h2 : n ≤ 9223372036854775807) : RowKit.wrap64 n = n := by
  unfold RowKit.wrap64; omega
theorem or8b {n b : Int} (h0 : 0 ≤ n) (h1 : n ≤ 255) (h2 : 0 ≤ b) (h3 : b ≤ 255) : bits BinOp.or IntKind.i64 (n * 256) b = n * 256 + b := by
  obtain ⟨N, rfl⟩ := Int.eq_ofNat_of_zero_le h0
  obtain ⟨B, rfl⟩ := Int.eq_ofNat_of_zero_le h2
  unfold bits
  have hb : (IntKind.i64).bits = 64 := rfl
  simp only
  rw [show ((N : Int) * 256) = ((256 * N : Nat) : Int) by omega, BitVec.ofInt_natCast, BitVec.ofInt_natCast, BitVec.toNat_or, BitVec.toNat_ofNat, BitVec.toNat_ofNat, hb]
  rw [Nat.mod_eq_of_lt (by omega), Nat.mod_eq_of_lt (by omega)]
  have := Nat.two_pow_add_eq_or_of_lt (i := 8) (b := B) (by omega) N
  rw [show (2 : Nat) ^ 8 = 256 from rfl] at this
  rw [← this, Vm.wrap64 (by omega) (by omega)]
  rfl
theorem hsum_is {n : Nat} {f : Nat → Int} (h : Byt n f) : ∀ k, 2 * k ≤ n + 1 → hsum f n (List.range k) = sumK f n k
  | 0, _ => rfl
  | k + 1, hk => by
    have s := sumK_fit h k (by omega)
    have w := word_fit h (k := k) (by omega)
    have a := h (2 * k) (by omega)
    rw [List.range_succ, hsum_snoc, hsum_is h k (by omega)]
    have e : wordN f n k = wordV f n k := by
      unfold wordN wordV
      rw [wr64 (n := f (2 * k)) (by omega) (by omega), wr64 (n := f (2 * k) * 256) (by omega) (by omega)]
      split
      · rename_i h2
        have b := h (2 * k + 1) h2
        rw [wr64 (n := f (2 * k + 1)) (by omega) (by omega), or8b a.1 a.2 b.1 b.2]
        omega
      · omega
    unfold stepW
    rw [e, wr64 (n := sumK f n k + wordV f n k) (by omega) (by omega)]
    simp only [sumK, red]
    split
    · rename_i h1
      rw [wr64 (by omega) (by omega)]
    · rfl
theorem i_Sum (fu : Nat) {x : Sl Int} (h : Byt x.n x.f) (hn : x.n ≤ 1048576) : F_impl_SumWords fu x = some (sumV x) := by
  unfold F_impl_SumWords hand_SumWords sumV
  have s := sumK_fit h ((x.n + 1) / 2) (by omega)
  rw [hsum_is h _ (by omega), wr64 (by omega) (by omega), decide_eq_true (show x.n ≤ 9000000000000000 by omega)]
  rfl
theorem s_red {g : Nat} {ρ : Type} (x : Sl Int) (i : Int) (k0 : Int → Option ρ) {s : Int} (h0 : 0 ≤ s) (h1 : s ≤ 131070) {fu : Nat} (hf : 2 ≤ fu) : L (fun (w2 : Int) go2 => F_spec_SumWords_B2 g x i k0 w2 go2) fu s = k0 (red s) := by
  obtain ⟨fu, rfl⟩ : ∃ k, fu = k + 2 := ⟨fu - 2, by omega⟩
  simp only [L]
  unfold F_spec_SumWords_B2 red
  by_cases h : s > 65535
  · have h2 : ¬ s - 65535 > 65535 := by omega
    simp only [h, decide_true, cond_true, if_true, Vm.wrap64 (show -9223372036854775808 ≤ s - 65535 by omega) (show s - 65535 ≤ 9223372036854775807 by omega), h2, decide_false, cond_false]
  · simp only [h, decide_false, cond_false, if_false]
theorem s_Sum {fu : Nat} (hf : 2000000 ≤ fu) {x : Sl Int} (h : Byt x.n x.f) (hn : x.n ≤ 1048576) : F_spec_SumWords fu x = some (sumV x) := by
  unfold F_spec_SumWords sumV
  have sE := sumK_fit h ((x.n + 1) / 2) (by omega)
  refine stepL ((x.n + 1) / 2) (fun k => (sumK x.f x.n k, ((2 * k : Nat) : Int))) (by omega) rfl (fun k go hk => ?_) (fun go => ?_)
  · have s := sumK_fit h k (by omega)
    have w := word_fit h (k := k) (by omega)
    have hlt : 2 * k < x.n := by omega
    have a := h (2 * k) hlt
    have e1 : IntKind.wrap .i64 (((2 * k : Nat) : Int) + 1) = ((2 * k + 1 : Nat) : Int) := wsucc (by omega)
    have e2 : IntKind.wrap .i64 (((2 * k : Nat) : Int) + 2) = ((2 * (k + 1) : Nat) : Int) := by rw [Vm.wrap64 (by omega) (by omega)]; omega
    unfold F_spec_SumWords_B0
    simp only [Int.ofNat_lt, hlt, decide_true, cond_true, Int.natCast_nonneg, Int.toNat_natCast, Bool.and_self, Option.bind_some, e1, e2]
    have q0 : IntKind.wrap .i64 (x.f (2 * k)) = x.f (2 * k) := Vm.wrap64 (by omega) (by omega)
    have q1 : IntKind.wrap .i64 (256 * x.f (2 * k)) = 256 * x.f (2 * k) := Vm.wrap64 (by omega) (by omega)
    by_cases h2 : 2 * k + 1 < x.n
    · have b := h (2 * k + 1) h2
      have ew : wordV x.f x.n k = 256 * x.f (2 * k) + x.f (2 * k + 1) := by unfold wordV; rw [if_pos h2]
      have q2 : IntKind.wrap .i64 (x.f (2 * k + 1)) = x.f (2 * k + 1) := Vm.wrap64 (by omega) (by omega)
      have q3 : IntKind.wrap .i64 (sumK x.f x.n k + 256 * x.f (2 * k)) = sumK x.f x.n k + 256 * x.f (2 * k) := Vm.wrap64 (by omega) (by omega)
      have q4 : IntKind.wrap .i64 (sumK x.f x.n k + 256 * x.f (2 * k) + x.f (2 * k + 1)) = sumK x.f x.n k + wordV x.f x.n k := by rw [Vm.wrap64 (by omega) (by omega), ew]; omega
      simp only [h2, decide_true, cond_true, Bool.and_self, Option.bind_some, q0, q1, q2, q3, q4]
      rw [s_red _ _ _ (by omega) (by omega) (by omega)]
      rfl
    · have ew : wordV x.f x.n k = 256 * x.f (2 * k) := by unfold wordV; rw [if_neg h2]; omega
      have q3 : IntKind.wrap .i64 (sumK x.f x.n k + 256 * x.f (2 * k)) = sumK x.f x.n k + wordV x.f x.n k := by rw [Vm.wrap64 (by omega) (by omega), ew]
      simp only [h2, decide_false, cond_false, q0, q1, q3]
      rw [s_red _ _ _ (by omega) (by omega) (by omega)]
      rfl
  · unfold F_spec_SumWords_B0
    have hge : ¬ 2 * ((x.n + 1) / 2) < x.n := by omega
    simp only [Int.ofNat_lt, hge, decide_false, cond_false]
    rw [Vm.wrap64 (by omega) (by omega)]

end Go.Proofs.Ytcmfekgdlaffkaa.Pm
