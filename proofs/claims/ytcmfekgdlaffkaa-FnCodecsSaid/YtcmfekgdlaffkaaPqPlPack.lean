/- Configurations in bytes. Conditions: none. -/
import Derived.Test.YtcmfekgdlaffkaaPqPlByt
namespace Go.Proofs.Ytcmfekgdlaffkaa.Pq
open Go Go.RowKit Go.Proofs Vm
set_option linter.unusedVariables false
set_option linter.unusedSimpArgs false
set_option maxRecDepth 100000
def flagI (b : S_impl_Backend) : Int := bif b.Up then IntKind.wrap .i64 ((IntKind.wrap .i64 ((IntKind.wrap .i64 (b.Weight * 8)) + (IntKind.wrap .i64 (b.Stage * 2)))) + 1) else IntKind.wrap .i64 ((IntKind.wrap .i64 (b.Weight * 8)) + (IntKind.wrap .i64 (b.Stage * 2)))
def backL (b : S_impl_Backend) : List Int := (byL b.Name 2 2 ++ byL b.Address 4 4) ++ [IntKind.wrap .u8 (flagI b)]
theorem backL_len (b : S_impl_Backend) : (backL b).length = 7 := by simp [backL, byL_len]
def backsL (f : Nat → S_impl_Backend) (i : Nat) : Nat → List Int
  | 0 => []
  | m + 1 => backL (f i) ++ backsL f (i + 1) m
def namesL (f : Nat → Int) (i : Nat) : Nat → List Int
  | 0 => []
  | m + 1 => byL (f i) 2 2 ++ namesL f (i + 1) m
def vipL (v : S_impl_Vip) : List Int := ((byL v.Address 4 4 ++ byL v.Port 2 2) ++ [IntKind.wrap .u8 v.Proto, IntKind.wrap .u8 ((v.Names.n : Nat) : Int)]) ++ namesL v.Names.f 0 v.Names.n
def vipsL (f : Nat → S_impl_Vip) (i : Nat) : Nat → List Int
  | 0 => []
  | m + 1 => vipL (f i) ++ vipsL f (i + 1) m
def confL (c : S_impl_Config) : List Int := (((byL c.Version 4 4 ++ [IntKind.wrap .u8 ((c.Backends.n : Nat) : Int)]) ++ backsL c.Backends.f 0 c.Backends.n) ++ [IntKind.wrap .u8 ((c.Vips.n : Nat) : Int)]) ++ vipsL c.Vips.f 0 c.Vips.n
theorem fin_ok {n : Nat} (h : n ≤ 1000000000000) : (decide (n ≤ 9223372036854775807) && decide (n * 1 ≤ 140737488355328)) = true := by
  simp only [Bool.and_eq_true, decide_eq_true_eq]; omega
theorem i_packB0 {g : Nat} (hg : 2000000 ≤ g) {ρ : Type} (t : Sl S_impl_Backend) (v : Int) (x : Sl S_impl_Backend) (y : Sl S_impl_Vip) (k0 : Nat → Nat → (Nat → Int) → Option ρ) : ∀ (m i n : Nat) (f : Nat → Int) (L0 : List Int) (fu : Nat), i + m = t.n → t.n ≤ 1000000 → n + 7 * m ≤ 100000000 → m < fu → Bs L0 n f →
    ∃ n' f', n' = n + 7 * m ∧ Bs (L0 ++ backsL t.f i m) n' f' ∧ L (fun (w0 : Nat × Int × Nat × (Nat → Int)) go0 => F_impl_packConfig_H_B0 g t ((t.n : Nat) : Int) v x y k0 w0.1 w0.2.1 w0.2.2.1 w0.2.2.2 (fun q0 q1 q2 q3 => go0 (q0, q1, q2, q3))) fu (n, (i : Int), n, f) = k0 n' n' f'
  | 0, i, n, f, L0, fu, hi, hb, hn, hf, h => by
    obtain ⟨fu, rfl⟩ : ∃ k, fu = k + 1 := ⟨fu - 1, by omega⟩
    obtain rfl : i = t.n := by omega
    refine ⟨n, f, by omega, by simpa [backsL] using h, ?_⟩
    simp only [L]
    unfold F_impl_packConfig_H_B0
    simp only [Int.lt_irrefl, decide_false, cond_false]
  | m + 1, i, n, f, L0, fu, hi, hb, hn, hf, h => by
    obtain ⟨fu, rfl⟩ : ∃ k, fu = k + 1 := ⟨fu - 1, by omega⟩
    have hlt : i < t.n := by omega
    have h1 := byF_bs h (t.f i).Name 2 2
    have h2 := byF_bs h1 (t.f i).Address 4 4
    have h3 := h2.app (Bs.of_getD [IntKind.wrap .u8 (flagI (t.f i))] 1 rfl)
    have e3 : (((L0 ++ byL (t.f i).Name 2 2) ++ byL (t.f i).Address 4 4) ++ [IntKind.wrap .u8 (flagI (t.f i))]) = L0 ++ backL (t.f i) := by simp [backL]
    rw [e3] at h3
    obtain ⟨n', f', en, hB, hL⟩ := i_packB0 hg t v x y k0 m (i + 1) (n + 2 + 4 + 1) _ _ fu (by omega) hb (by omega) (by omega) h3
    refine ⟨n', f', by omega, by simpa [backsL] using hB, ?_⟩
    rw [← hL]
    simp only [L]
    rw [F_impl_packConfig_H_B0]
    simp only [Int.ofNat_lt, hlt, decide_true, cond_true, Int.natCast_nonneg, Int.toNat_natCast, Bool.and_self, Option.bind_some, wsucc (show i < 4611686018427387904 by omega)]
    rw [i_put2 hg _ n (by omega)]
    simp only [Option.bind_some]
    rw [i_put4 hg _ (n + 2) (by omega)]
    simp only [Option.bind_some, fin_ok (show n + 2 + 4 + 1 ≤ 1000000000000 by omega), cond_true]
    cases hu : (t.f i).Up <;> simp only [flagI, hu, cond_true, cond_false]
theorem i_packB4 {g : Nat} (hg : 2000000 ≤ g) {ρ : Type} (t58 : Sl S_impl_Vip) (t59 t60 : Int) (t : Sl Int) (o7 : Int) (x : Sl S_impl_Backend) (y : Sl S_impl_Vip) (o12 o13 o14 : Int) (o15 : Sl Int) (k0 : Nat → Nat → (Nat → Int) → Option ρ) : ∀ (m i n : Nat) (f : Nat → Int) (L0 : List Int) (fu : Nat), i + m = t.n → t.n ≤ 1000000 → n + 2 * m ≤ 100000000 → m < fu → Bs L0 n f →
    ∃ n' f', n' = n + 2 * m ∧ Bs (L0 ++ namesL t.f i m) n' f' ∧ L (fun (w4 : Nat × Int × Nat × (Nat → Int)) go4 => F_impl_packConfig_H_B4 g t58 t59 t60 t ((t.n : Nat) : Int) o7 x y o12 o13 o14 o15 k0 w4.1 w4.2.1 w4.2.2.1 w4.2.2.2 (fun q0 q1 q2 q3 => go4 (q0, q1, q2, q3))) fu (n, (i : Int), n, f) = k0 n' n' f'
  | 0, i, n, f, L0, fu, hi, hb, hn, hf, h => by
    obtain ⟨fu, rfl⟩ : ∃ k, fu = k + 1 := ⟨fu - 1, by omega⟩
    obtain rfl : i = t.n := by omega
    refine ⟨n, f, by omega, by simpa [namesL] using h, ?_⟩
    simp only [L]
    unfold F_impl_packConfig_H_B4
    simp only [Int.lt_irrefl, decide_false, cond_false]
  | m + 1, i, n, f, L0, fu, hi, hb, hn, hf, h => by
    obtain ⟨fu, rfl⟩ : ∃ k, fu = k + 1 := ⟨fu - 1, by omega⟩
    have hlt : i < t.n := by omega
    have h1 := byF_bs h (t.f i) 2 2
    obtain ⟨n', f', en, hB, hL⟩ := i_packB4 hg t58 t59 t60 t o7 x y o12 o13 o14 o15 k0 m (i + 1) (n + 2) _ _ fu (by omega) hb (by omega) (by omega) h1
    refine ⟨n', f', by omega, by simpa [namesL] using hB, ?_⟩
    rw [← hL]
    simp only [L]
    rw [F_impl_packConfig_H_B4]
    simp only [Int.ofNat_lt, hlt, decide_true, cond_true, Int.natCast_nonneg, Int.toNat_natCast, Bool.and_self, Option.bind_some, wsucc (show i < 4611686018427387904 by omega)]
    rw [i_put2 hg _ n (by omega)]
    simp only [Option.bind_some]
def vipsN (f : Nat → S_impl_Vip) (i : Nat) : Nat → Nat
  | 0 => 0
  | m + 1 => (8 + 2 * (f i).Names.n) + vipsN f (i + 1) m
theorem namesL_len (f : Nat → Int) : ∀ m i, (namesL f i m).length = 2 * m
  | 0, i => rfl
  | m + 1, i => by simp only [namesL, List.length_append, byL_len, namesL_len f m (i + 1)]; omega
theorem vipL_len (v : S_impl_Vip) : (vipL v).length = 8 + 2 * v.Names.n := by simp [vipL, byL_len, namesL_len]; omega
theorem backsL_len (f : Nat → S_impl_Backend) : ∀ m i, (backsL f i m).length = 7 * m
  | 0, i => rfl
  | m + 1, i => by simp only [backsL, List.length_append, backL_len, backsL_len f m (i + 1)]; omega
theorem vipsL_len (f : Nat → S_impl_Vip) : ∀ m i, (vipsL f i m).length = vipsN f i m
  | 0, i => rfl
  | m + 1, i => by simp only [vipsL, List.length_append, vipL_len, vipsL_len f m (i + 1), vipsN]
theorem confL_len (c : S_impl_Config) : (confL c).length = 6 + 7 * c.Backends.n + vipsN c.Vips.f 0 c.Vips.n := by
  simp only [confL, List.length_append, byL_len, backsL_len, vipsL_len, List.length_cons, List.length_nil]; omega
theorem vipsN_le {f : Nat → S_impl_Vip} {b : Nat} : ∀ m i, (∀ j, i ≤ j → j < i + m → (f j).Names.n ≤ b) → vipsN f i m ≤ (8 + 2 * b) * m
  | 0, i, _ => by simp [vipsN]
  | m + 1, i, h => by
    have h1 := h i (Nat.le_refl _) (by omega)
    have h2 := vipsN_le m (i + 1) (fun j h1 h2 => h j (by omega) (by omega))
    simp only [vipsN]
    rw [Nat.mul_succ]
    omega
theorem i_packB2 {g : Nat} (hg : 2000000 ≤ g) {ρ : Type} (t : Sl S_impl_Vip) (v : Int) (x : Sl S_impl_Backend) (y : Sl S_impl_Vip) (k0 : Nat → Nat → (Nat → Int) → Option ρ) (hN : ∀ i, i < t.n → (t.f i).Names.n ≤ 1000000) : ∀ (m i n : Nat) (f : Nat → Int) (L0 : List Int) (fu : Nat), i + m = t.n → t.n ≤ 1000000 → n + vipsN t.f i m ≤ 100000000 → m < fu → Bs L0 n f →
    ∃ n' f', n' = n + vipsN t.f i m ∧ Bs (L0 ++ vipsL t.f i m) n' f' ∧ L (fun (w2 : Nat × Int × Nat × (Nat → Int)) go2 => F_impl_packConfig_H_B2 g t ((t.n : Nat) : Int) v x y k0 w2.1 w2.2.1 w2.2.2.1 w2.2.2.2 (fun q0 q1 q2 q3 => go2 (q0, q1, q2, q3))) fu (n, (i : Int), n, f) = k0 n' n' f'
  | 0, i, n, f, L0, fu, hi, hb, hn, hf, h => by
    obtain ⟨fu, rfl⟩ : ∃ k, fu = k + 1 := ⟨fu - 1, by omega⟩
    obtain rfl : i = t.n := by omega
    refine ⟨n, f, by simp [vipsN], by simpa [vipsL] using h, ?_⟩
    simp only [L]
    unfold F_impl_packConfig_H_B2
    simp only [Int.lt_irrefl, decide_false, cond_false]
  | m + 1, i, n, f, L0, fu, hi, hb, hn, hf, h => by
    obtain ⟨fu, rfl⟩ : ∃ k, fu = k + 1 := ⟨fu - 1, by omega⟩
    have hlt : i < t.n := by omega
    have hNi := hN i hlt
    simp only [vipsN] at hn ⊢
    have h1 := byF_bs h (t.f i).Address 4 4
    have h2 := byF_bs h1 (t.f i).Port 2 2
    have h3 := h2.app (Bs.of_getD [IntKind.wrap .u8 (t.f i).Proto, IntKind.wrap .u8 (((t.f i).Names.n : Nat) : Int)] 2 rfl)
    obtain ⟨n1, f1, en1, hB1, hL1⟩ := i_packB4 (ρ := ρ) hg t ((t.n : Nat) : Int) (i : Int) (t.f i).Names v x y (t.f i).Address (t.f i).Port (t.f i).Proto (t.f i).Names (fun z366 z367 z368 => L (fun (w2 : Nat × Int × Nat × (Nat → Int)) go2 => F_impl_packConfig_H_B2 g t ((t.n : Nat) : Int) v x y k0 w2.1 w2.2.1 w2.2.2.1 w2.2.2.2 (fun q0 q1 q2 q3 => go2 (q0, q1, q2, q3))) fu (z366, ((i + 1 : Nat) : Int), z367, z368)) (t.f i).Names.n 0 (n + 4 + 2 + 2) _ _ g (by omega) hNi (by omega) (by omega) h3
    obtain ⟨n', f', en, hB, hL⟩ := i_packB2 hg t v x y k0 hN m (i + 1) n1 f1 _ fu (by omega) hb (by omega) (by omega) hB1
    refine ⟨n', f', by omega, by simpa [vipsL, vipL] using hB, ?_⟩
    rw [← hL, ← hL1]
    simp only [L]
    rw [F_impl_packConfig_H_B2]
    simp only [Int.ofNat_lt, hlt, decide_true, cond_true, Int.natCast_nonneg, Int.toNat_natCast, Bool.and_self, Option.bind_some, wsucc (show i < 4611686018427387904 by omega)]
    rw [i_put4 hg _ n (by omega)]
    simp only [Option.bind_some]
    rw [i_put2 hg _ (n + 4) (by omega)]
    simp only [Option.bind_some, fin_ok (show n + 4 + 2 + 2 ≤ 1000000000000 by omega), cond_true]
    rfl
structure Small (c : S_impl_Config) : Prop where
  backs : c.Backends.n ≤ 1000000
  vips : c.Vips.n ≤ 1000000
  names : ∀ i, i < c.Vips.n → (c.Vips.f i).Names.n ≤ 1000000
  all : vipsN c.Vips.f 0 c.Vips.n ≤ 50000000
theorem i_pack {g : Nat} (hg : 2000000 ≤ g) (c : S_impl_Config) (hc : Small c) : ∃ n f, F_impl_packConfig_H g c = some ⟨none, n, f⟩ ∧ Bs (confL c) n f := by
  have hb := hc.backs
  have hv := hc.vips
  have ha := hc.all
  unfold F_impl_packConfig_H
  have e0 : F_impl_put_G g 0 c.Version 4 0 (fun _ => dflt .u8) = _ := i_put4 hg c.Version 0 (by omega) (fun _ => dflt .u8)
  rw [e0]
  simp only [Option.bind_some, fin_ok (show 0 + 4 + 1 ≤ 1000000000000 by omega), cond_true]
  have h1 := byF_bs (Bs.nil (fun _ => dflt .u8)) c.Version 4 4
  have h2 := h1.app (Bs.of_getD [IntKind.wrap .u8 ((c.Backends.n : Nat) : Int)] 1 rfl)
  obtain ⟨n1, f1, en1, hB1, hL1⟩ := i_packB0 hg c.Backends c.Version c.Backends c.Vips (fun z360 z361 z362 => (bif (decide ((z360 + 1) ≤ 9223372036854775807) &&
  decide ((z360 + 1) * 1 ≤ 140737488355328)) then (L (fun (w2 : Nat × Int × Nat × (Nat → Int)) go2 => F_impl_packConfig_H_B2 g c.Vips ((c.Vips.n : Nat) : Int) c.Version c.Backends c.Vips (fun z369 z370 z371 =>
  (some (⟨none, z369, z371⟩ : (Sl Int)))) w2.1 w2.2.1 w2.2.2.1 w2.2.2.2 (fun q0 q1 q2 q3 => go2 (q0, q1, q2, q3))) g (((z360 + 1), 0, (z360 + 1), (fun i => if i < z360 then (z362 i) else
  ((fun i => ([(IntKind.wrap .u8 ((c.Vips.n : Nat) : Int))] : List (Int)).getD i (dflt .u8)) (i - z360)))) : Nat × Int × Nat × (Nat → Int))) else none)) c.Backends.n 0 (0 + 4 + 1) _ _ g (by omega) hb (by omega) (by omega) h2
  have h3 := hB1.app (Bs.of_getD [IntKind.wrap .u8 ((c.Vips.n : Nat) : Int)] 1 rfl)
  obtain ⟨n2, f2, en2, hB2, hL2⟩ := i_packB2 (ρ := Sl Int) hg c.Vips c.Version c.Backends c.Vips (fun z369 z370 z371 => some ⟨none, z369, z371⟩) hc.names c.Vips.n 0 (n1 + 1) _ _ g (by omega) hv (by omega) (by omega) h3
  refine ⟨n2, f2, ?_, by simpa [confL] using hB2⟩
  refine hL1.trans ?_
  simp only [fin_ok (show n1 + 1 ≤ 1000000000000 by omega), cond_true]
  exact hL2
theorem s_packB0 {g : Nat} (hg : 2000000 ≤ g) {ρ : Type} (v : Int) (t : Sl S_impl_Backend) (y : Sl S_impl_Vip) (k0 : Nat → Nat → (Nat → Int) → Option ρ) : ∀ (m i n : Nat) (f : Nat → Int) (L0 : List Int) (fu : Nat), i + m = t.n → t.n ≤ 1000000 → n + 7 * m ≤ 100000000 → m < fu → Bs L0 n f →
    ∃ n' f', n' = n + 7 * m ∧ Bs (L0 ++ backsL t.f i m) n' f' ∧ L (fun (w0 : Nat × Int × Nat × (Nat → Int)) go0 => F_spec_l6Config_H_B0 g v t y k0 w0.1 w0.2.1 w0.2.2.1 w0.2.2.2 (fun q0 q1 q2 q3 => go0 (q0, q1, q2, q3))) fu (n, (i : Int), n, f) = k0 n' n' f'
  | 0, i, n, f, L0, fu, hi, hb, hn, hf, h => by
    obtain ⟨fu, rfl⟩ : ∃ k, fu = k + 1 := ⟨fu - 1, by omega⟩
    obtain rfl : i = t.n := by omega
    refine ⟨n, f, by omega, by simpa [backsL] using h, ?_⟩
    simp only [L]
    unfold F_spec_l6Config_H_B0
    simp only [Int.lt_irrefl, decide_false, cond_false]
  | m + 1, i, n, f, L0, fu, hi, hb, hn, hf, h => by
    obtain ⟨fu, rfl⟩ : ∃ k, fu = k + 1 := ⟨fu - 1, by omega⟩
    have hlt : i < t.n := by omega
    have h1 := h.app (bs_Bytes (t.f i).Name 2)
    have h2 := h1.app (bs_Bytes (t.f i).Address 4)
    have h3 := h2.app (Bs.of_getD [IntKind.wrap .u8 (flagI (t.f i))] 1 rfl)
    have e3 : (((L0 ++ byL (t.f i).Name 2 2) ++ byL (t.f i).Address 4 4) ++ [IntKind.wrap .u8 (flagI (t.f i))]) = L0 ++ backL (t.f i) := by simp [backL]
    rw [e3] at h3
    obtain ⟨n', f', en, hB, hL⟩ := s_packB0 hg v t y k0 m (i + 1) (n + 2 + 4 + 1) _ _ fu (by omega) hb (by omega) (by omega) h3
    refine ⟨n', f', by omega, by simpa [backsL] using hB, ?_⟩
    rw [← hL]
    simp only [L]
    rw [F_spec_l6Config_H_B0]
    simp only [Int.ofNat_lt, hlt, decide_true, cond_true, Int.natCast_nonneg, Int.toNat_natCast, Bool.and_self, Option.bind_some, wsucc (show i < 4611686018427387904 by omega), s_Bytes2 hg, s_Bytes4 hg, fin_ok (show n + 2 ≤ 1000000000000 by omega), fin_ok (show n + 2 + 4 ≤ 1000000000000 by omega), fin_ok (show n + 2 + 4 + 1 ≤ 1000000000000 by omega)]
    cases hu : (t.f i).Up <;> simp only [flagI, hu, cond_true, cond_false, Int.mul_comm]
theorem s_packB4 {g : Nat} (hg : 2000000 ≤ g) {ρ : Type} (c0 : Int) (c1 : Sl S_impl_Backend) (c2 : Sl S_impl_Vip) (i7 o8 o9 o10 : Int) (t : Sl Int) (on2 : Nat) (of2 : Nat → Int) (on3 : Nat) (of3 : Nat → Int) (k0 : Nat → Nat → (Nat → Int) → Option ρ) : ∀ (m i n : Nat) (f : Nat → Int) (L0 : List Int) (fu : Nat), i + m = t.n → t.n ≤ 1000000 → n + 2 * m ≤ 100000000 → m < fu → Bs L0 n f →
    ∃ n' f', n' = n + 2 * m ∧ Bs (L0 ++ namesL t.f i m) n' f' ∧ L (fun (w4 : Nat × Int × Nat × (Nat → Int)) go4 => F_spec_l6Config_H_B4 g c0 c1 c2 i7 o8 o9 o10 t on2 of2 on3 of3 k0 w4.1 w4.2.1 w4.2.2.1 w4.2.2.2 (fun q0 q1 q2 q3 => go4 (q0, q1, q2, q3))) fu (n, (i : Int), n, f) = k0 n' n' f'
  | 0, i, n, f, L0, fu, hi, hb, hn, hf, h => by
    obtain ⟨fu, rfl⟩ : ∃ k, fu = k + 1 := ⟨fu - 1, by omega⟩
    obtain rfl : i = t.n := by omega
    refine ⟨n, f, by omega, by simpa [namesL] using h, ?_⟩
    simp only [L]
    unfold F_spec_l6Config_H_B4
    simp only [Int.lt_irrefl, decide_false, cond_false]
  | m + 1, i, n, f, L0, fu, hi, hb, hn, hf, h => by
    obtain ⟨fu, rfl⟩ : ∃ k, fu = k + 1 := ⟨fu - 1, by omega⟩
    have hlt : i < t.n := by omega
    have h1 := h.app (bs_Bytes (t.f i) 2)
    obtain ⟨n', f', en, hB, hL⟩ := s_packB4 hg c0 c1 c2 i7 o8 o9 o10 t on2 of2 on3 of3 k0 m (i + 1) (n + 2) _ _ fu (by omega) hb (by omega) (by omega) h1
    refine ⟨n', f', by omega, by simpa [namesL] using hB, ?_⟩
    rw [← hL]
    simp only [L]
    rw [F_spec_l6Config_H_B4]
    simp only [Int.ofNat_lt, hlt, decide_true, cond_true, Int.natCast_nonneg, Int.toNat_natCast, Bool.and_self, Option.bind_some, wsucc (show i < 4611686018427387904 by omega), s_Bytes2 hg, fin_ok (show n + 2 ≤ 1000000000000 by omega)]
theorem s_packB2 {g : Nat} (hg : 2000000 ≤ g) {ρ : Type} (v : Int) (x : Sl S_impl_Backend) (t : Sl S_impl_Vip) (k0 : Nat → Nat → (Nat → Int) → Option ρ) (hN : ∀ i, i < t.n → (t.f i).Names.n ≤ 1000000) : ∀ (m i n : Nat) (f : Nat → Int) (L0 : List Int) (fu : Nat), i + m = t.n → t.n ≤ 1000000 → n + vipsN t.f i m ≤ 100000000 → m < fu → Bs L0 n f →
    ∃ n' f', n' = n + vipsN t.f i m ∧ Bs (L0 ++ vipsL t.f i m) n' f' ∧ L (fun (w2 : Nat × Int × Nat × (Nat → Int)) go2 => F_spec_l6Config_H_B2 g v x t k0 w2.1 w2.2.1 w2.2.2.1 w2.2.2.2 (fun q0 q1 q2 q3 => go2 (q0, q1, q2, q3))) fu (n, (i : Int), n, f) = k0 n' n' f'
  | 0, i, n, f, L0, fu, hi, hb, hn, hf, h => by
    obtain ⟨fu, rfl⟩ : ∃ k, fu = k + 1 := ⟨fu - 1, by omega⟩
    obtain rfl : i = t.n := by omega
    refine ⟨n, f, by simp [vipsN], by simpa [vipsL] using h, ?_⟩
    simp only [L]
    unfold F_spec_l6Config_H_B2
    simp only [Int.lt_irrefl, decide_false, cond_false]
  | m + 1, i, n, f, L0, fu, hi, hb, hn, hf, h => by
    obtain ⟨fu, rfl⟩ : ∃ k, fu = k + 1 := ⟨fu - 1, by omega⟩
    have hlt : i < t.n := by omega
    have hNi := hN i hlt
    simp only [vipsN] at hn ⊢
    have h1 := h.app (bs_Bytes (t.f i).Address 4)
    have h2 := h1.app (bs_Bytes (t.f i).Port 2)
    have h3 := h2.app (Bs.of_getD [IntKind.wrap .u8 (t.f i).Proto, IntKind.wrap .u8 (((t.f i).Names.n : Nat) : Int)] 2 rfl)
    obtain ⟨n1, f1, en1, hB1, hL1⟩ := s_packB4 (ρ := ρ) hg v x t (i : Int) (t.f i).Address (t.f i).Port (t.f i).Proto (t.f i).Names 4 (byF (t.f i).Address 4 0 (fun _ => dflt .u8) 4) 2 (byF (t.f i).Port 2 0 (fun _ => dflt .u8) 2) (fun z366 z367 z368 => L (fun (w2 : Nat × Int × Nat × (Nat → Int)) go2 => F_spec_l6Config_H_B2 g v x t k0 w2.1 w2.2.1 w2.2.2.1 w2.2.2.2 (fun q0 q1 q2 q3 => go2 (q0, q1, q2, q3))) fu (z366, ((i + 1 : Nat) : Int), z367, z368)) (t.f i).Names.n 0 (n + 4 + 2 + 2) _ _ g (by omega) hNi (by omega) (by omega) h3
    obtain ⟨n', f', en, hB, hL⟩ := s_packB2 hg v x t k0 hN m (i + 1) n1 f1 _ fu (by omega) hb (by omega) (by omega) hB1
    refine ⟨n', f', by omega, by simpa [vipsL, vipL] using hB, ?_⟩
    rw [← hL, ← hL1]
    simp only [L]
    rw [F_spec_l6Config_H_B2]
    simp only [Int.ofNat_lt, hlt, decide_true, cond_true, Int.natCast_nonneg, Int.toNat_natCast, Bool.and_self, Option.bind_some, wsucc (show i < 4611686018427387904 by omega), s_Bytes2 hg, s_Bytes4 hg, fin_ok (show n + 4 ≤ 1000000000000 by omega), fin_ok (show n + 4 + 2 ≤ 1000000000000 by omega), fin_ok (show n + 4 + 2 + 2 ≤ 1000000000000 by omega)]
    rfl
theorem s_pack {g : Nat} (hg : 2000000 ≤ g) (c : S_impl_Config) (hc : Small c) : ∃ n f, F_spec_l6Config_H g c = some ⟨none, n, f⟩ ∧ Bs (confL c) n f := by
  have hb := hc.backs
  have hv := hc.vips
  have ha := hc.all
  unfold F_spec_l6Config_H
  simp only [s_Bytes4 hg, Option.bind_some, fin_ok (show 4 + 1 ≤ 1000000000000 by omega), cond_true]
  have h1 := bs_Bytes c.Version 4
  have h2 := h1.app (Bs.of_getD [IntKind.wrap .u8 ((c.Backends.n : Nat) : Int)] 1 rfl)
  obtain ⟨n1, f1, en1, hB1, hL1⟩ := s_packB0 hg c.Version c.Backends c.Vips (fun z193 z194 z195 => (bif (decide ((z193 + 1) ≤ 9223372036854775807) && decide ((z193 + 1) * 1 ≤ 140737488355328)) then
  (L (fun (w2 : Nat × Int × Nat × (Nat → Int)) go2 => F_spec_l6Config_H_B2 g c.Version c.Backends c.Vips (fun z202 z203 z204 => (some (⟨none, z202, z204⟩ : (Sl Int)))) w2.1 w2.2.1 w2.2.2.1 w2.2.2.2 (fun q0 q1 q2 q3 =>
  go2 (q0, q1, q2, q3))) g (((z193 + 1), 0, (z193 + 1), (fun i => if i < z193 then (z195 i) else ((fun i => ([(IntKind.wrap .u8 ((c.Vips.n : Nat) : Int))] : List (Int)).getD i (dflt .u8)) (i - z193)))) : Nat × Int × Nat × (Nat → Int))) else
  none)) c.Backends.n 0 (4 + 1) _ _ g (by omega) hb (by omega) (by omega) h2
  have h3 := hB1.app (Bs.of_getD [IntKind.wrap .u8 ((c.Vips.n : Nat) : Int)] 1 rfl)
  obtain ⟨n2, f2, en2, hB2, hL2⟩ := s_packB2 (ρ := Sl Int) hg c.Version c.Backends c.Vips (fun z369 z370 z371 => some ⟨none, z369, z371⟩) hc.names c.Vips.n 0 (n1 + 1) _ _ g (by omega) hv (by omega) (by omega) h3
  refine ⟨n2, f2, ?_, by simpa [confL] using hB2⟩
  refine hL1.trans ?_
  simp only [fin_ok (show n1 + 1 ≤ 1000000000000 by omega), cond_true]
  exact hL2
end Go.Proofs.Ytcmfekgdlaffkaa.Pq
