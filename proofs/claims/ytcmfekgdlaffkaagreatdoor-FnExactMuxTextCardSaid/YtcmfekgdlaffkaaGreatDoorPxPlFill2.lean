/- Plain laws of tables that are filled: the program's loops and the reference's. Conditions: none. -/
import Derived.Test.YtcmfekgdlaffkaaGreatDoorPxPlFill
namespace Go.Proofs.YtcmfekgdlaffkaaGreatDoor.Px
open Go Go.RowKit Go.Proofs Vm
set_option linter.unusedVariables false
set_option linter.unusedSimpArgs false
set_option maxRecDepth 100000

theorem runI_inr {α σ : Type} {f : Nat → σ → Sum α σ} {I : Nat → σ → Prop} : ∀ (n i : Nat) (s : σ), I i s → (∀ j s, i ≤ j → j < i + n → I j s → ∃ s', f j s = .inr s' ∧ I (j + 1) s') → ∃ s', run f n i s = .inr s' ∧ I (i + n) s'
  | 0, i, s, h, _ => ⟨s, rfl, h⟩
  | n + 1, i, s, h, hs => by
    obtain ⟨s1, e1, h1⟩ := hs i s (Nat.le_refl _) (by omega) h
    obtain ⟨s2, e2, h2⟩ := runI_inr n (i + 1) s1 h1 (fun j s a b => hs j s (by omega) (by omega))
    exact ⟨s2, by simp only [run, e1]; exact e2, by rw [show i + (n + 1) = i + 1 + n by omega]; exact h2⟩

/-! ### The reference -/

def sumW (list : Sl S_impl_Share) : Nat → Int
  | 0 => 0
  | i + 1 => sumW list i + (list.f i).Weight
theorem sumW_pos {list : Sl S_impl_Share} (hl : SharesOk list) : ∀ i, i ≤ list.n → 0 ≤ sumW list i ∧ sumW list i ≤ 9 * i ∧ (sumW list i = 0 ↔ ¬ ∃ j, j < i ∧ 0 < (list.f j).Weight)
  | 0, _ => ⟨Int.le_refl _, Int.le_refl _, ⟨fun _ ⟨j, h, _⟩ => absurd h (Nat.not_lt_zero _), fun _ => rfl⟩⟩
  | i + 1, h => by
    obtain ⟨a, b, c⟩ := sumW_pos hl i (by omega)
    obtain ⟨w1, w2⟩ := hl.weight i (by omega)
    refine ⟨by simp only [sumW]; omega, by simp only [sumW]; omega, ?_⟩
    simp only [sumW]
    constructor
    · rintro h0 ⟨j, h1, h2⟩
      by_cases hji : j = i
      · subst hji; omega
      · exact c.1 (by omega) ⟨j, by omega, h2⟩
    · intro hno
      have h1 : sumW list i = 0 := c.2 (fun ⟨j, h1, h2⟩ => hno ⟨j, by omega, h2⟩)
      have h2 : ¬ 0 < (list.f i).Weight := fun h2 => hno ⟨i, by omega, h2⟩
      omega
theorem s_Weights {fu : Nat} (hf : 2000000 ≤ fu) {list : Sl S_impl_Share} (hl : SharesOk list) : F_spec_l4Weights fu list = some (sumW list list.n) := by
  unfold F_spec_l4Weights
  have hlen := hl.len
  refine runL (α := Unit) list.n (fun i s => (s, (i : Int))) (0 : Int) (fun i s => .inr (s + (list.f i).Weight)) (fun _ => none) (fun s => some s) (fun i s => s = sumW list i) (by omega) rfl rfl (fun i s go hi hI => ?_) (fun i s s' hi hI hs => ?_) (fun s go hI => ?_) ?_
  · obtain ⟨a, b, c⟩ := sumW_pos hl i (by omega)
    obtain ⟨w1, w2⟩ := hl.weight i hi
    have hI : s = sumW list i := hI
    subst hI
    unfold F_spec_l4Weights_B0
    simp only [Int.toNat_natCast, Int.natCast_nonneg, Int.ofNat_lt, hi, decide_true, Bool.and_self, cond_true, Option.bind_some, wsucc (show i < 4611686018427387904 by omega), wrap64 (show -9223372036854775808 ≤ sumW list i + (list.f i).Weight by omega) (show sumW list i + (list.f i).Weight ≤ 9223372036854775807 by omega)]
    rfl
  · cases hs
    have hI : s = sumW list i := hI
    subst hI
    rfl
  · unfold F_spec_l4Weights_B0
    simp
  · obtain ⟨s', e, h⟩ := runI_inr (α := Unit) (f := fun i s => .inr (s + (list.f i).Weight)) (I := fun i s => s = sumW list i) list.n 0 (0 : Int) rfl (fun j s _ _ h => ⟨_, rfl, by subst h; rfl⟩)
    rw [e]
    rw [Nat.zero_add] at h
    subst h
    rfl

theorem s_B4 {fu : Nat} (hf : 2000000 ≤ fu) {list : Sl S_impl_Share} (hl : SharesOk list) {ρ : Type} (round : Int) (i : Nat) (hi : i < list.n) (k0 k1 : (Nat → Int) → Option ρ) (T : Nat → Int) :
    L (fun w4 go4 => F_spec_l4Fill_B4 fu list 31 round (i : Int) 31 k0 k1 w4.1 w4.2 (fun q0 q1 => go4 (q0, q1))) fu ((0, T) : Int × (Nat → Int)) = (iS list i T).elim k0 k1 := by
  obtain ⟨w1, w2⟩ := hl.weight i hi
  refine runL (list.f i).Weight.toNat (fun k T => ((k : Int), T)) T (wS (list.f i).Name) k0 k1 (fun _ _ => True) (by omega) rfl trivial (fun k T go hk _ => ?_) (fun _ _ _ _ _ _ => trivial) (fun T go _ => ?_) rfl
  · unfold F_spec_l4Fill_B4 wS
    have hk' : (k : Int) < (list.f i).Weight := by omega
    simp only [Int.toNat_natCast, Int.natCast_nonneg, hi, decide_true, Bool.and_self, cond_true, Option.bind_some, hk', s_Free hf, wsucc (show k < 4611686018427387904 by omega)]
    cases hq : free T (list.f i).Name with
    | none => simp
    | some p =>
      have hp := (free_is hq).1
      simp only [Option.elim_some, show ¬ ((p : Int) < 0) by omega, decide_false, cond_false, Int.natCast_nonneg, Int.toNat_natCast, hp, decide_true, Bool.and_self, cond_true, Option.bind_some, Sum.elim_inr]
      rfl
  · unfold F_spec_l4Fill_B4
    have hk' : ¬ (((list.f i).Weight.toNat : Nat) : Int) < (list.f i).Weight := by omega
    simp only [Int.toNat_natCast, Int.natCast_nonneg, hi, decide_true, Bool.and_self, cond_true, Option.bind_some, hk', decide_false, cond_false]
theorem s_B2 {fu : Nat} (hf : 2000000 ≤ fu) {list : Sl S_impl_Share} (hl : SharesOk list) {ρ : Type} (round : Int) (k0 k1 : (Nat → Int) → Option ρ) (T : Nat → Int) :
    L (fun w2 go2 => F_spec_l4Fill_B2 fu list 31 round 31 k0 k1 w2.1 w2.2 (fun q0 q1 => go2 (q0, q1))) fu ((0, T) : Int × (Nat → Int)) = (rS list 0 T).elim k0 k1 := by
  have hlen := hl.len
  refine runL list.n (fun k T => ((k : Int), T)) T (iS list) k0 k1 (fun _ _ => True) (by omega) rfl trivial (fun k T go hk _ => ?_) (fun _ _ _ _ _ _ => trivial) (fun T go _ => ?_) rfl
  · unfold F_spec_l4Fill_B2
    simp only [Int.ofNat_lt, hk, decide_true, cond_true]
    rw [s_B4 hf hl round k hk]
    simp only [wsucc (show k < 4611686018427387904 by omega)]
  · unfold F_spec_l4Fill_B2
    simp
def T0 : Nat → Int := fun _ => 0
theorem s_Fill {fu : Nat} (hf : 2000000 ≤ fu) {list : Sl S_impl_Share} (hl : SharesOk list) : F_spec_l4Fill fu list = some ⟨none, 31, bif sumW list list.n == 0 then T0 else val (run (rS list) 31 0 T0)⟩ := by
  unfold F_spec_l4Fill
  simp only [s_Weights hf hl, Option.bind_some]
  cases sumW list list.n == 0 with
  | true => rfl
  | false =>
    simp only [cond_false]
    refine runL 31 (fun k T => ((k : Int), T)) T0 (rS list) (fun T => some ⟨none, 31, T⟩) (fun T => some ⟨none, 31, T⟩) (fun _ _ => True) (by omega) rfl trivial (fun k T go hk _ => ?_) (fun _ _ _ _ _ _ => trivial) (fun T go _ => ?_) ?_
    · unfold F_spec_l4Fill_B0
      simp only [show (k : Int) < 31 by omega, decide_true, cond_true]
      rw [s_B2 hf hl]
      simp only [wsucc (show k < 4611686018427387904 by omega)]
      rfl
    · unfold F_spec_l4Fill_B0
      simp
    · unfold val
      cases run (rS list) 31 0 T0 <;> rfl

/-! ### The program -/

theorem scan_at {α : Type} {f : Nat → Option α} {a : α} {q : Nat} : ∀ (m i : Nat), i ≤ q → q < i + m → (∀ k, i ≤ k → k < q → f k = none) → f q = some a → scan f m i = some a
  | 0, i, h1, h2, _, _ => by omega
  | m + 1, i, h1, h2, h3, h4 => by
    rw [scan_succ]
    by_cases hiq : i = q
    · subst hiq; rw [h4]
    · rw [h3 i (Nat.le_refl _) (by omega)]
      exact scan_at m (i + 1) (by omega) (by omega) (fun k a b => h3 k (by omega) b) h4

structure Perm (name : Int) (P : Sl Int) : Prop where
  n : P.n = 31
  f : ∀ x, x < 31 → P.f x = (pl name x : Int)
theorem i_perm {fu : Nat} (hf : 2000000 ≤ fu) (name : Int) : ∃ P, F_impl_permutation fu name = some P ∧ Perm name P := by
  unfold F_impl_permutation
  let st : Nat → (Nat → Int) → Nat × Int × Nat × (Nat → Int) := fun i O => (i, (i : Int), i, O)
  obtain ⟨O, e, h⟩ := runI_inr (α := Unit) (f := fun i (O : Nat → Int) => .inr (fun j => if j < i then O j else ((fun i' => [(pl name i : Int)].getD i' (dflt .i64)) (j - i)))) (I := fun i O => ∀ x, x < i → O x = (pl name x : Int)) 31 0 (fun _ => dflt .i64) (fun x hx => absurd hx (Nat.not_lt_zero _)) (fun j O _ _ h => ⟨_, rfl, fun x hx => by
    by_cases hxj : x < j
    · rw [if_pos hxj]; exact h x hxj
    · have : x = j := by omega
      subst this
      rw [if_neg (by omega), Nat.sub_self]
      rfl⟩)
  refine ⟨⟨none, 31, O⟩, ?_, ⟨rfl, fun x hx => h x (by omega)⟩⟩
  refine runL (α := Unit) 31 st (fun _ => dflt .i64) (fun i (O : Nat → Int) => .inr (fun j => if j < i then O j else ((fun i' => [(pl name i : Int)].getD i' (dflt .i64)) (j - i)))) (fun _ => none) (fun O => some ⟨none, 31, O⟩) (fun _ _ => True) (by omega) rfl trivial (fun k O go hk _ => ?_) (fun _ _ _ _ _ _ => trivial) (fun O go _ => ?_) ?_
  · unfold F_impl_permutation_B0
    have h1 : k + 1 ≤ 9223372036854775807 := by omega
    have h2 : (k + 1) * 8 ≤ 140737488355328 := by omega
    simp only [st, show (k : Int) < 31 by omega, decide_true, cond_true, i_offset hf, i_skip hf, Option.bind_some, h1, h2, Bool.and_self, place_val name k hk, wsucc (show k < 4611686018427387904 by omega)]
    rfl
  · unfold F_impl_permutation_B0
    simp [st]
  · rw [e]; rfl

structure OI (list : Sl S_impl_Share) (T : Nat → Int) (O : Nat → Sl Int) : Prop where
  all : ∀ j, j < list.n → ∃ q, q ≤ 30 ∧ (O j).n = 31 - q ∧ (∀ x, x < 31 - q → (O j).f x = (pl (list.f j).Name (q + x) : Int)) ∧ ∀ k, k < q → T (pl (list.f j).Name k) ≠ 0
theorem OI.set {list : Sl S_impl_Share} {T : Nat → Int} {O : Nat → Sl Int} (h : OI list T O) (p : Nat) {v : Int} (hv : v ≠ 0) : OI list (setT T p v) O := ⟨fun j hj => by
  obtain ⟨q, a, b, c, d⟩ := h.all j hj
  refine ⟨q, a, b, c, fun k hk => ?_⟩
  unfold setT
  split
  · exact hv
  · exact d k hk⟩

theorem i_B8 {fu : Nat} {list : Sl S_impl_Share} {ρ : Type} (left t30 t31 t37 t38 o2a o2b : Int) (on0 on1 : Nat) (t29 : Sl S_impl_Share) (k0 : (Nat → Sl Int) → Option ρ) {i : Nat} (hi : i < list.n) {T : Nat → Int} (hz : zeros T 31 ≠ 0) :
    ∀ (m fu0 q : Nat) (O : Nat → Sl Int), q + m = 30 → m < fu0 → OI list T O → (O i).n = 31 - q → (∀ x, x < 31 - q → (O i).f x = (pl (list.f i).Name (q + x) : Int)) → (∀ k, k < q → T (pl (list.f i).Name k) ≠ 0) →
      ∃ O' p, OI list T O' ∧ free T (list.f i).Name = some p ∧ 0 < (O' i).n ∧ (O' i).f 0 = (p : Int) ∧ L (fun w8 go8 => F_impl_fill_B8 fu list 31 left list.n (i : Int) t29 t30 t31 t37 t38 on0 T on1 o2a o2b k0 w8 go8) fu0 O = k0 O' := by
  intro m
  induction m with
  | zero =>
    intro fu0 q O hq hfu hO hn hf hpre
    obtain ⟨fu1, rfl⟩ : ∃ k, fu0 = k + 1 := ⟨fu0 - 1, by omega⟩
    have hq30 : q = 30 := by omega
    subst hq30
    have h0 : T (pl (list.f i).Name 30) = 0 := by
      obtain ⟨p, hp⟩ := free_some (name := (list.f i).Name) hz
      obtain ⟨j, j1, j2, j3⟩ := scan_some hp
      unfold freeAt at j3
      split at j3
      · rename_i hj
        by_cases hj30 : j = 30
        · subst hj30; exact hj
        · exact absurd hj (hpre j (by omega))
      · cases j3
    have hd := hf 0 (by omega)
    refine ⟨O, pl (list.f i).Name 30, hO, scan_at (q := 30) 31 0 (Nat.zero_le _) (by omega) (fun k _ hk => by unfold freeAt; rw [if_neg (hpre k hk)]) (by unfold freeAt; rw [if_pos h0]), by omega, hd, ?_⟩
    simp only [L]
    unfold F_impl_fill_B8
    have hp := pl_lt (list.f i).Name 30
    have hn0 : 0 < (O i).n := by omega
    simp only [Int.toNat_natCast, Int.natCast_nonneg, hi, decide_true, Bool.and_self, cond_true, Option.bind_some, Int.le_refl, Int.toNat_zero, hn0, hd, Nat.add_zero, hp, h0, bne_self_eq_false, cond_false]
  | succ m ih =>
    intro fu0 q O hq hfu hO hn hf hpre
    obtain ⟨fu1, rfl⟩ : ∃ k, fu0 = k + 1 := ⟨fu0 - 1, by omega⟩
    have hd := hf 0 (by omega)
    rw [Nat.add_zero] at hd
    have hp := pl_lt (list.f i).Name q
    have hn0 : 0 < (O i).n := by omega
    have hn1 : (1 : Int) ≤ (((O i).n : Nat) : Int) := by omega
    by_cases h0 : T (pl (list.f i).Name q) = 0
    · refine ⟨O, pl (list.f i).Name q, hO, scan_at (q := q) 31 0 (Nat.zero_le _) (by omega) (fun k _ hk => by unfold freeAt; rw [if_neg (hpre k hk)]) (by unfold freeAt; rw [if_pos h0]), hn0, hd, ?_⟩
      simp only [L]
      unfold F_impl_fill_B8
      simp only [Int.toNat_natCast, Int.natCast_nonneg, hi, decide_true, Bool.and_self, cond_true, Option.bind_some, Int.le_refl, Int.toNat_zero, hn0, hd, hp, h0, bne_self_eq_false, cond_false]
    · have hb : (T (pl (list.f i).Name q) != 0) = true := by simpa using h0
      let O1 : Nat → Sl Int := fun j => if j = i then ⟨(O i).z, (O i).n - 1, fun x => (O i).f (1 + x)⟩ else O j
      have e1 : O1 i = ⟨(O i).z, (O i).n - 1, fun x => (O i).f (1 + x)⟩ := by simp only [O1, if_true]
      have p1 : (O1 i).n = 31 - (q + 1) := by rw [e1]; show (O i).n - 1 = _; omega
      have p2 : ∀ x, x < 31 - (q + 1) → (O1 i).f x = (pl (list.f i).Name (q + 1 + x) : Int) := fun x hx => by
        rw [e1]
        show (O i).f (1 + x) = _
        rw [hf (1 + x) (by omega), show q + (1 + x) = q + 1 + x by omega]
      have p3 : ∀ k, k < q + 1 → T (pl (list.f i).Name k) ≠ 0 := fun k hk => by
        by_cases hkq : k = q
        · subst hkq; exact h0
        · exact hpre k (by omega)
      have hO1 : OI list T O1 := ⟨fun j hj => by
        by_cases hji : j = i
        · subst hji; exact ⟨q + 1, by omega, p1, p2, p3⟩
        · have : O1 j = O j := by simp only [O1, if_neg hji]
          rw [this]; exact hO.all j hj⟩
      obtain ⟨O', p, a, b, c, d, e⟩ := ih fu1 (q + 1) O1 (by omega) (by omega) hO1 p1 p2 p3
      refine ⟨O', p, a, b, c, d, ?_⟩
      have e2 : L (fun w8 go8 => F_impl_fill_B8 fu list 31 left list.n (i : Int) t29 t30 t31 t37 t38 on0 T on1 o2a o2b k0 w8 go8) (fu1 + 1) O = F_impl_fill_B8 fu list 31 left list.n (i : Int) t29 t30 t31 t37 t38 on0 T on1 o2a o2b k0 O (L (fun w8 go8 => F_impl_fill_B8 fu list 31 left list.n (i : Int) t29 t30 t31 t37 t38 on0 T on1 o2a o2b k0 w8 go8) fu1) := rfl
      rw [e2]
      generalize L (fun w8 go8 => F_impl_fill_B8 fu list 31 left list.n (i : Int) t29 t30 t31 t37 t38 on0 T on1 o2a o2b k0 w8 go8) fu1 = go8 at e ⊢
      rw [← e]
      unfold F_impl_fill_B8
      simp only [Int.toNat_natCast, Int.natCast_nonneg, hi, decide_true, Bool.and_self, cond_true, Option.bind_some, Int.le_refl, Int.toNat_zero, hn0, hd, hp, hb, hn1, Nat.le_refl]
      rfl

theorem zeros_le (T : Nat → Int) : zeros T 31 ≤ 31 := by
  unfold zeros
  have := List.countP_le_length (p := fun p => T p == 0) (l := List.range 31)
  simpa using this

theorem i_B6_step {fu : Nat} (hf : 2000000 ≤ fu) {list : Sl S_impl_Share} (hl : SharesOk list) {ρ : Type} (t29 : Sl S_impl_Share) (t30 t31 : Int) (on0 on1 : Nat) (ow : Int) (k0 k1 : Int → (Nat → Int) → (Nat → Sl Int) → Option ρ) {i t : Nat} (hi : i < list.n) (ht : t < (list.f i).Weight.toNat)
    (T : Nat → Int) (O : Nat → Sl Int) (hz : zeros T 31 ≠ 0) (hO : OI list T O) (go6 : Int → Int → (Nat → Int) → (Nat → Sl Int) → Option ρ) :
    ∃ O1 p, OI list T O1 ∧ free T (list.f i).Name = some p ∧ F_impl_fill_B6 fu list 31 list.n (i : Int) t29 t30 t31 (list.f i).Weight on0 on1 (list.f i).Name ow k0 k1 ((zeros T 31 : Nat) : Int) (t : Int) T O go6 =
      (bif (((zeros (setT T p (list.f i).Name) 31 : Nat) : Int) == 0) then k0 ((zeros (setT T p (list.f i).Name) 31 : Nat) : Int) (setT T p (list.f i).Name) O1 else go6 ((zeros (setT T p (list.f i).Name) 31 : Nat) : Int) ((t + 1 : Nat) : Int) (setT T p (list.f i).Name) O1) := by
  obtain ⟨w1, w2⟩ := hl.weight i hi
  have hlt : (t : Int) < (list.f i).Weight := by omega
  obtain ⟨q, q1, q2, q3, q4⟩ := hO.all i hi
  have h31 := zeros_le T
  unfold F_impl_fill_B6
  simp only [hlt, decide_true, cond_true]
  obtain ⟨O1, p, a, b, c, d, e⟩ := i_B8 (fu := fu) (list := list) ((zeros T 31 : Nat) : Int) t30 t31 (list.f i).Weight (t : Int) (list.f i).Name ow on0 on1 t29 _ hi hz (30 - q) fu q O (by omega) (by omega) hO q2 q3 q4
  obtain ⟨p1, p2⟩ := free_is b
  have hzs := zeros_set (hl.name i hi) p2 31 p1
  have hw1 : IntKind.wrap .i64 (((zeros T 31 : Nat) : Int) - 1) = ((zeros (setT T p (list.f i).Name) 31 : Nat) : Int) := by rw [wrap64 (by omega) (by omega)]; omega
  have hset : (fun j => if j = p then (list.f i).Name else T j) = setT T p (list.f i).Name := rfl
  refine ⟨O1, p, a, b, ?_⟩
  rw [e]
  simp only [Int.toNat_natCast, Int.natCast_nonneg, hi, decide_true, Bool.and_self, cond_true, Option.bind_some, Int.le_refl, Int.toNat_zero, c, d, p1, hw1, hset, wsucc (show t < 4611686018427387904 by omega)]

theorem i_B6 {fu : Nat} (hf : 2000000 ≤ fu) {list : Sl S_impl_Share} (hl : SharesOk list) {ρ : Type} (t29 : Sl S_impl_Share) (t30 t31 : Int) (on0 on1 : Nat) (ow : Int) (k0 k1 : Int → (Nat → Int) → (Nat → Sl Int) → Option ρ) {i : Nat} (hi : i < list.n) :
    ∀ (m fu0 t : Nat) (T : Nat → Int) (O : Nat → Sl Int), t + m = (list.f i).Weight.toNat → m < fu0 → zeros T 31 ≠ 0 → OI list T O →
      ∃ O', (∀ X, run (wI (list.f i).Name) m t T = .inl X → L (fun w6 go6 => F_impl_fill_B6 fu list 31 list.n (i : Int) t29 t30 t31 (list.f i).Weight on0 on1 (list.f i).Name ow k0 k1 w6.1 w6.2.1 w6.2.2.1 w6.2.2.2 (fun q0 q1 q2 q3 => go6 (q0, q1, q2, q3))) fu0 ((((zeros T 31 : Nat) : Int), (t : Int), T, O) : Int × Int × (Nat → Int) × (Nat → Sl Int)) = k0 0 X O') ∧
        (∀ X, run (wI (list.f i).Name) m t T = .inr X → OI list X O' ∧ L (fun w6 go6 => F_impl_fill_B6 fu list 31 list.n (i : Int) t29 t30 t31 (list.f i).Weight on0 on1 (list.f i).Name ow k0 k1 w6.1 w6.2.1 w6.2.2.1 w6.2.2.2 (fun q0 q1 q2 q3 => go6 (q0, q1, q2, q3))) fu0 ((((zeros T 31 : Nat) : Int), (t : Int), T, O) : Int × Int × (Nat → Int) × (Nat → Sl Int)) = k1 ((zeros X 31 : Nat) : Int) X O') := by
  intro m
  induction m with
  | zero =>
    intro fu0 t T O ht hfu hz hO
    obtain ⟨fu1, rfl⟩ : ∃ k, fu0 = k + 1 := ⟨fu0 - 1, by omega⟩
    obtain ⟨w1, w2⟩ := hl.weight i hi
    refine ⟨O, fun X hX => (by simp [run] at hX), fun X hX => ?_⟩
    simp only [run, Sum.inr.injEq] at hX
    subst hX
    refine ⟨hO, ?_⟩
    simp only [L]
    have : ¬ ((t : Int) < (list.f i).Weight) := by omega
    rw [F_impl_fill_B6]
    simp only [this, decide_false, cond_false]
  | succ m ih =>
    intro fu0 t T O ht hfu hz hO
    obtain ⟨fu1, rfl⟩ : ∃ k, fu0 = k + 1 := ⟨fu0 - 1, by omega⟩
    obtain ⟨O1, p, a, b, hstep⟩ := i_B6_step hf hl t29 t30 t31 on0 on1 ow k0 k1 hi (t := t) (by omega) T O hz hO (fun q0 q1 q2 q3 => L (fun w6 go6 => F_impl_fill_B6 fu list 31 list.n (i : Int) t29 t30 t31 (list.f i).Weight on0 on1 (list.f i).Name ow k0 k1 w6.1 w6.2.1 w6.2.2.1 w6.2.2.2 (fun q0 q1 q2 q3 => go6 (q0, q1, q2, q3))) fu1 (q0, q1, q2, q3))
    have hhead := hstep
    have hnm := hl.name i hi
    by_cases h0 : zeros (setT T p (list.f i).Name) 31 = 0
    · refine ⟨O1, fun X hX => ?_, fun X hX => ?_⟩
      · simp only [run, wI, b, if_pos h0, Sum.inl.injEq] at hX
        subst hX
        refine Eq.trans hhead ?_
        rw [h0]; rfl
      · simp only [run, wI, b, if_pos h0] at hX
        cases hX
    · obtain ⟨O2, g1, g2⟩ := ih fu1 (t + 1) (setT T p (list.f i).Name) O1 (by omega) (by omega) h0 (a.set p hnm)
      have hb : (((zeros (setT T p (list.f i).Name) 31 : Nat) : Int) == 0) = false := by
        have : ((zeros (setT T p (list.f i).Name) 31 : Nat) : Int) ≠ 0 := by omega
        simpa using this
      have hrun : run (wI (list.f i).Name) (m + 1) t T = run (wI (list.f i).Name) m (t + 1) (setT T p (list.f i).Name) := by simp only [run, wI, b, if_neg h0]
      rw [hb] at hhead
      refine ⟨O2, fun X hX => ?_, fun X hX => ?_⟩
      · exact Eq.trans hhead (g1 X (by rw [← hrun]; exact hX))
      · obtain ⟨r1, r2⟩ := g2 X (by rw [← hrun]; exact hX)
        exact ⟨r1, Eq.trans hhead r2⟩

theorem i_B4 {fu : Nat} (hf : 2000000 ≤ fu) {list : Sl S_impl_Share} (hl : SharesOk list) {ρ : Type} (on0 on1 : Nat) (k0 : Int → (Nat → Int) → (Nat → Sl Int) → Int → Int → Option ρ) (k1 : Int → (Nat → Int) → (Nat → Sl Int) → Option ρ) :
    ∀ (m fu0 i : Nat) (T : Nat → Int) (O : Nat → Sl Int), i + m = list.n → m < fu0 → zeros T 31 ≠ 0 → OI list T O →
      ∃ O', (∀ X, run (iI list) m i T = .inl X → ∃ a b, L (fun w4 go4 => F_impl_fill_B4 fu list 31 list.n list ((list.n : Nat) : Int) on0 on1 k0 k1 w4.1 w4.2.1 w4.2.2.1 w4.2.2.2 (fun q0 q1 q2 q3 => go4 (q0, q1, q2, q3))) fu0 ((((zeros T 31 : Nat) : Int), (i : Int), T, O) : Int × Int × (Nat → Int) × (Nat → Sl Int)) = k0 0 X O' a b) ∧
        (∀ X, run (iI list) m i T = .inr X → OI list X O' ∧ L (fun w4 go4 => F_impl_fill_B4 fu list 31 list.n list ((list.n : Nat) : Int) on0 on1 k0 k1 w4.1 w4.2.1 w4.2.2.1 w4.2.2.2 (fun q0 q1 q2 q3 => go4 (q0, q1, q2, q3))) fu0 ((((zeros T 31 : Nat) : Int), (i : Int), T, O) : Int × Int × (Nat → Int) × (Nat → Sl Int)) = k1 ((zeros X 31 : Nat) : Int) X O') := by
  have hlen := hl.len
  intro m
  induction m with
  | zero =>
    intro fu0 i T O hi hfu hz hO
    obtain ⟨fu1, rfl⟩ : ∃ k, fu0 = k + 1 := ⟨fu0 - 1, by omega⟩
    refine ⟨O, fun X hX => (by simp [run] at hX), fun X hX => ?_⟩
    simp only [run, Sum.inr.injEq] at hX
    subst hX
    refine ⟨hO, ?_⟩
    simp only [L]
    have : ¬ ((i : Int) < (list.n : Int)) := by omega
    rw [F_impl_fill_B4]
    simp only [this, decide_false, cond_false]
  | succ m ih =>
    intro fu0 i T O hi hfu hz hO
    obtain ⟨fu1, rfl⟩ : ∃ k, fu0 = k + 1 := ⟨fu0 - 1, by omega⟩
    have hin : i < list.n := by omega
    obtain ⟨w1, w2⟩ := hl.weight i hin
    have head : ∀ go4 : Int → Int → (Nat → Int) → (Nat → Sl Int) → Option ρ, F_impl_fill_B4 fu list 31 list.n list ((list.n : Nat) : Int) on0 on1 k0 k1 ((zeros T 31 : Nat) : Int) (i : Int) T O go4 =
        L (fun w6 go6 => F_impl_fill_B6 fu list 31 list.n (i : Int) list ((list.n : Nat) : Int) (i : Int) (list.f i).Weight on0 on1 (list.f i).Name (list.f i).Weight (fun z304 z305 z306 => k0 z304 z305 z306 (list.f i).Name (list.f i).Weight) (fun z307 z308 z309 => go4 z307 ((i + 1 : Nat) : Int) z308 z309) w6.1 w6.2.1 w6.2.2.1 w6.2.2.2 (fun q0 q1 q2 q3 => go6 (q0, q1, q2, q3))) fu ((((zeros T 31 : Nat) : Int), 0, T, O) : Int × Int × (Nat → Int) × (Nat → Sl Int)) := by
      intro go4
      rw [F_impl_fill_B4]
      simp only [Int.toNat_natCast, Int.natCast_nonneg, Int.ofNat_lt, hin, decide_true, Bool.and_self, cond_true, Option.bind_some, wsucc (show i < 4611686018427387904 by omega)]
    obtain ⟨O1, h1, h2⟩ := i_B6 hf hl list ((list.n : Nat) : Int) (i : Int) on0 on1 (list.f i).Weight (fun z304 z305 z306 => k0 z304 z305 z306 (list.f i).Name (list.f i).Weight)
      (fun z307 z308 z309 => L (fun w4 go4 => F_impl_fill_B4 fu list 31 list.n list ((list.n : Nat) : Int) on0 on1 k0 k1 w4.1 w4.2.1 w4.2.2.1 w4.2.2.2 (fun q0 q1 q2 q3 => go4 (q0, q1, q2, q3))) fu1 (z307, ((i + 1 : Nat) : Int), z308, z309)) hin (list.f i).Weight.toNat fu 0 T O (by omega) (by omega) hz hO
    have hd := head (fun q0 q1 q2 q3 => L (fun w4 go4 => F_impl_fill_B4 fu list 31 list.n list ((list.n : Nat) : Int) on0 on1 k0 k1 w4.1 w4.2.1 w4.2.2.1 w4.2.2.2 (fun q0 q1 q2 q3 => go4 (q0, q1, q2, q3))) fu1 (q0, q1, q2, q3))
    cases hq : iI list i T with
    | inl Y =>
      have hrun : run (iI list) (m + 1) i T = .inl Y := by simp only [run, hq]
      refine ⟨O1, fun X hX => ?_, fun X hX => (by rw [hrun] at hX; cases hX)⟩
      rw [hrun] at hX
      cases hX
      exact ⟨_, _, Eq.trans hd (h1 Y hq)⟩
    | inr Y =>
      obtain ⟨r1, r2⟩ := h2 Y hq
      have hzY := (wI_run (hl.name i hin) _ _ T Y hz hq).1
      obtain ⟨O2, g1, g2⟩ := ih fu1 (i + 1) Y O1 (by omega) (by omega) hzY r1
      have hrun : run (iI list) (m + 1) i T = run (iI list) m (i + 1) Y := by simp only [run, hq]
      refine ⟨O2, fun X hX => ?_, fun X hX => ?_⟩
      · rw [hrun] at hX
        obtain ⟨a, b, e⟩ := g1 X hX
        exact ⟨a, b, Eq.trans hd (Eq.trans r2 e)⟩
      · rw [hrun] at hX
        obtain ⟨s1, s2⟩ := g2 X hX
        exact ⟨s1, Eq.trans hd (Eq.trans r2 s2)⟩

theorem i_B2 {fu : Nat} (hf : 2000000 ≤ fu) {list : Sl S_impl_Share} (hl : SharesOk list) {ρ : Type} (on0 on1 : Nat) (k0 : (Nat → Int) → (Nat → Sl Int) → Int → Int → Option ρ) :
    ∀ (m fu0 i : Nat) (T X : Nat → Int) (O : Nat → Sl Int), m ≤ fu0 → zeros T 31 ≠ 0 → OI list T O → run (rI list) m i T = .inl X →
      ∃ O' a b, L (fun w2 go2 => F_impl_fill_B2 fu list 31 list.n on0 on1 k0 w2.1 w2.2.1 w2.2.2 (fun q0 q1 q2 => go2 (q0, q1, q2))) fu0 ((((zeros T 31 : Nat) : Int), T, O) : Int × (Nat → Int) × (Nat → Sl Int)) = k0 X O' a b := by
  have hlen := hl.len
  intro m
  induction m with
  | zero => intro fu0 i T X O hfu hz hO hX; simp [run] at hX
  | succ m ih =>
    intro fu0 i T X O hfu hz hO hX
    obtain ⟨fu1, rfl⟩ : ∃ k, fu0 = k + 1 := ⟨fu0 - 1, by omega⟩
    have head : ∀ go2 : Int → (Nat → Int) → (Nat → Sl Int) → Option ρ, F_impl_fill_B2 fu list 31 list.n on0 on1 k0 ((zeros T 31 : Nat) : Int) T O go2 =
        L (fun w4 go4 => F_impl_fill_B4 fu list 31 list.n list ((list.n : Nat) : Int) on0 on1 (fun z310 z311 z312 z313 z314 => k0 z311 z312 z313 z314) (fun z315 z316 z317 => go2 z315 z316 z317) w4.1 w4.2.1 w4.2.2.1 w4.2.2.2 (fun q0 q1 q2 q3 => go4 (q0, q1, q2, q3))) fu ((((zeros T 31 : Nat) : Int), 0, T, O) : Int × Int × (Nat → Int) × (Nat → Sl Int)) := by
      intro go2
      rw [F_impl_fill_B2]
    have hd := head (fun q0 q1 q2 => L (fun w2 go2 => F_impl_fill_B2 fu list 31 list.n on0 on1 k0 w2.1 w2.2.1 w2.2.2 (fun q0 q1 q2 => go2 (q0, q1, q2))) fu1 (q0, q1, q2))
    obtain ⟨O1, h1, h2⟩ := i_B4 hf hl on0 on1 (fun z310 z311 z312 z313 z314 => k0 z311 z312 z313 z314) (fun z315 z316 z317 => L (fun w2 go2 => F_impl_fill_B2 fu list 31 list.n on0 on1 k0 w2.1 w2.2.1 w2.2.2 (fun q0 q1 q2 => go2 (q0, q1, q2))) fu1 (z315, z316, z317)) list.n fu 0 T O (by omega) (by omega) hz hO
    simp only [run] at hX
    cases hq : rI list i T with
    | inl Y =>
      rw [hq] at hX
      cases hX
      obtain ⟨a, b, e⟩ := h1 _ hq
      exact ⟨O1, a, b, Eq.trans hd e⟩
    | inr Y =>
      rw [hq] at hX
      obtain ⟨r1, r2⟩ := h2 Y hq
      have hzY := (iI_run hl list.n 0 T Y (by omega) hz hq).1
      obtain ⟨O2, a, b, e⟩ := ih fu1 (i + 1) Y X O1 (by omega) hzY r1 hX
      exact ⟨O2, a, b, Eq.trans hd (Eq.trans r2 e)⟩

theorem i_hasW {fu : Nat} (hf : 2000000 ≤ fu) {list : Sl S_impl_Share} (hl : SharesOk list) : F_slices_ContainsFunc_impl_Share_impl_Share_w_impl_fill_c1 fu list = some (!(sumW list list.n == 0)) := by
  unfold F_slices_ContainsFunc_impl_Share_impl_Share_w_impl_fill_c1 F_slices_IndexFunc_impl_Share_impl_Share_w_impl_fill_c1
  have hlen := hl.len
  have e : L (fun w0 go0 => F_slices_IndexFunc_impl_Share_impl_Share_w_impl_fill_c1_B0 fu list ((list.n : Nat) : Int) (fun z324 => (some z324)) (some (-1)) w0 go0) fu (0 : Int) = (scan (fun j => bif decide ((list.f j).Weight > 0) then some j else none) list.n 0).elim (some (-1)) (fun j => some ((j : Nat) : Int)) := by
    refine scanL list.n (fun j => bif decide ((list.f j).Weight > 0) then some j else none) (fun j => some ((j : Nat) : Int)) (some (-1)) (by omega) (fun j go hj => ?_) (fun go => ?_) rfl
    · unfold F_slices_IndexFunc_impl_Share_impl_Share_w_impl_fill_c1_B0 F_impl_fill_c1
      simp only [Int.toNat_natCast, Int.natCast_nonneg, Int.ofNat_lt, hj, decide_true, Bool.and_self, cond_true, Option.bind_some, wsucc (show j < 4611686018427387904 by omega)]
      cases decide ((list.f j).Weight > 0) <;> rfl
    · unfold F_slices_IndexFunc_impl_Share_impl_Share_w_impl_fill_c1_B0
      simp
  rw [e]
  obtain ⟨a, b, c⟩ := sumW_pos hl list.n (Nat.le_refl _)
  cases hq : scan (fun j => bif decide ((list.f j).Weight > 0) then some j else none) list.n 0 with
  | none =>
    have h0 : sumW list list.n = 0 := c.2 (fun ⟨j, h1, h2⟩ => by
      have := scan_none.1 hq j (Nat.zero_le _) (by omega)
      have hd : decide ((list.f j).Weight > 0) = true := decide_eq_true h2
      rw [hd] at this
      cases this)
    simp [h0]
  | some j =>
    obtain ⟨j', h1, h2, h3⟩ := scan_some hq
    have hw : 0 < (list.f j').Weight := by
      cases hd : decide ((list.f j').Weight > 0) with
      | true => exact of_decide_eq_true hd
      | false => rw [hd] at h3; cases h3
    have h0 : sumW list list.n ≠ 0 := fun h => c.1 h ⟨j', by omega, hw⟩
    have h0' : (sumW list list.n == 0) = false := by simpa using h0
    have hj : (j : Int) ≥ 0 := by omega
    simp [h0', hj]

theorem T0_zeros : zeros T0 31 = 31 := rfl
theorem i_Fill {fu : Nat} (hf : 2000000 ≤ fu) {list : Sl S_impl_Share} (hl : SharesOk list) : F_impl_fill fu list = some ⟨none, 31, bif sumW list list.n == 0 then T0 else val (run (rS list) 31 0 T0)⟩ := by
  unfold F_impl_fill
  have hlen := hl.len
  simp only [i_hasW hf hl, Option.bind_some]
  obtain ⟨a, b, c⟩ := sumW_pos hl list.n (Nat.le_refl _)
  cases h0 : sumW list list.n == 0 with
  | true => rfl
  | false =>
    simp only [Bool.not_false, Bool.not_true, cond_false]
    have hw : ∃ j, j < list.n ∧ 0 < (list.f j).Weight := by
      apply Classical.byContradiction
      intro hno
      have := c.2 hno
      rw [this] at h0
      cases h0
    obtain ⟨X, hX⟩ := rI_ends hl hw 31 0 T0 (by rw [T0_zeros]; omega) (by rw [T0_zeros]; omega)
    have hval : val (run (rS list) 31 0 T0) = X := by
      rw [← sim_val (sim_run (sim_r list) (stay_r list) 31 0 T0 (by rw [T0_zeros]; omega)), hX]
      rfl
    rw [hval]
    let perm : Nat → Sl Int := fun j => (F_impl_permutation fu (list.f j).Name).getD ⟨none, 0, fun _ => 0⟩
    have hperm : ∀ j, F_impl_permutation fu (list.f j).Name = some (perm j) ∧ Perm (list.f j).Name (perm j) := fun j => by
      obtain ⟨P, e, h⟩ := i_perm hf (list.f j).Name
      have : perm j = P := by simp only [perm, e]; rfl
      rw [this]; exact ⟨e, h⟩
    obtain ⟨O, e, h⟩ := runI_inr (α := Unit) (f := fun i (O : Nat → Sl Int) => .inr (fun k => if k < i then O k else ((fun i' => [perm i].getD i' (dflt .sl_i64)) (k - i)))) (I := fun i O => ∀ x, x < i → O x = perm x) list.n 0 (fun _ => dflt .sl_i64) (fun x hx => absurd hx (Nat.not_lt_zero _)) (fun j O _ _ h => ⟨_, rfl, fun x hx => by
      by_cases hxj : x < j
      · rw [if_pos hxj]; exact h x hxj
      · have : x = j := by omega
        subst this
        rw [if_neg (by omega), Nat.sub_self]
        rfl⟩)
    rw [Nat.zero_add] at h
    have hOI : OI list T0 O := ⟨fun j hj => ⟨0, by omega, by rw [h j hj]; exact (hperm j).2.n, fun x hx => by rw [h j hj, Nat.zero_add]; exact (hperm j).2.f x (by omega), fun k hk => absurd hk (Nat.not_lt_zero _)⟩⟩
    obtain ⟨O', a', b', hfin⟩ := i_B2 hf hl 31 list.n (fun z318 z319 z320 z321 => (some (⟨none, 31, z318⟩ : (Sl Int)))) 31 fu 0 T0 X O (by omega) (by rw [T0_zeros]; omega) hOI hX
    refine runL (α := Unit) list.n (fun i (O : Nat → Sl Int) => (i, (i : Int), i, O)) (fun _ => dflt .sl_i64) (fun i (O : Nat → Sl Int) => .inr (fun k => if k < i then O k else ((fun i' => [perm i].getD i' (dflt .sl_i64)) (k - i)))) (fun _ => none)
      (fun O => L (fun w2 go2 => F_impl_fill_B2 fu list 31 list.n 31 list.n (fun z318 z319 z320 z321 => (some (⟨none, 31, z318⟩ : (Sl Int)))) w2.1 w2.2.1 w2.2.2 (fun q0 q1 q2 => go2 (q0, q1, q2))) fu ((31, (fun _ => 0), O) : Int × (Nat → Int) × (Nat → (Sl Int)))) (fun _ _ => True) (by omega) rfl trivial (fun i O go hi _ => ?_) (fun _ _ _ _ _ _ => trivial) (fun O go _ => ?_) ?_
    · rw [F_impl_fill_B0]
      have h1 : i + 1 ≤ 9223372036854775807 := by omega
      have h2 : (i + 1) * 24 ≤ 140737488355328 := by omega
      simp only [Int.toNat_natCast, Int.natCast_nonneg, Int.ofNat_lt, hi, decide_true, Bool.and_self, cond_true, Option.bind_some, (hperm i).1, h1, h2, wsucc (show i < 4611686018427387904 by omega)]
      rfl
    · rw [F_impl_fill_B0]
      simp
    · rw [e]
      exact hfin

end Go.Proofs.YtcmfekgdlaffkaaGreatDoor.Px
