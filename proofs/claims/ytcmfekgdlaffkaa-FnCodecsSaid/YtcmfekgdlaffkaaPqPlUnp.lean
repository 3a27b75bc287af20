/- The law UnpackConfig: two readers are one. Conditions: none. -/
import Derived.Test.YtcmfekgdlaffkaaPqPlPack
namespace Go.Proofs.Ytcmfekgdlaffkaa.Pq
open Go Go.RowKit Go.Proofs Vm
set_option linter.unusedVariables false
set_option linter.unusedSimpArgs false
set_option maxRecDepth 100000
def rd (d : Sl Int) (a k : Nat) (bad : Bool) : Int × Nat × Bool := bif bad || decide (d.n < a + k) then (0, a, true) else (be d.f a k, a + k, false)
def lft (d : Sl Int) (a : Nat) : Sl Int := ⟨d.z, d.n - a, fun i => d.f (a + i)⟩
structure Rows1 (d : Sl Int) : Prop where
  byt : Byt d.n d.f
  len : d.n ≤ 1048576
theorem rd_le {d : Sl Int} {a k : Nat} {bad : Bool} (ha : a ≤ d.n) : (rd d a k bad).2.1 ≤ d.n := by
  unfold rd
  cases hq : bad || decide (d.n < a + k) with
  | true => exact ha
  | false =>
    simp only [Bool.or_eq_false_iff, decide_eq_false_iff_not] at hq
    simp only [cond_false]; omega
theorem rd_fit {d : Sl Int} (hd : Rows1 d) {a k : Nat} {bad : Bool} (hk : k ≤ 4) : 0 ≤ (rd d a k bad).1 ∧ (rd d a k bad).1 ≤ 4294967295 := by
  unfold rd
  cases hq : bad || decide (d.n < a + k) with
  | true => simp
  | false =>
    simp only [Bool.or_eq_false_iff, decide_eq_false_iff_not] at hq
    exact be_fit hd.byt hk (by omega)
theorem rd_byte {d : Sl Int} (hd : Rows1 d) {a : Nat} {bad : Bool} : 0 ≤ (rd d a 1 bad).1 ∧ (rd d a 1 bad).1 ≤ 255 := by
  unfold rd
  cases hq : bad || decide (d.n < a + 1) with
  | true => simp
  | false =>
    simp only [Bool.or_eq_false_iff, decide_eq_false_iff_not] at hq
    have := hd.byt a (by omega)
    simp only [cond_false, be, Nat.add_zero]
    omega
theorem rd_word {d : Sl Int} (hd : Rows1 d) {a : Nat} {bad : Bool} : 0 ≤ (rd d a 2 bad).1 ∧ (rd d a 2 bad).1 ≤ 65535 := by
  unfold rd
  cases hq : bad || decide (d.n < a + 2) with
  | true => simp
  | false =>
    simp only [Bool.or_eq_false_iff, decide_eq_false_iff_not] at hq
    have := hd.byt a (by omega)
    have := hd.byt (a + 1) (by omega)
    simp only [cond_false, be, Nat.add_zero]
    omega
theorem s_Next {fu : Nat} (hf : 2000000 ≤ fu) {d : Sl Int} (hd : Rows1 d) {a k : Nat} (hk : k ≤ 4) (ha : a ≤ d.n) (bad : Bool) : F_spec_l6Next_M fu (k : Int) d (a : Int) bad = some ((rd d a k bad).1, d, ((rd d a k bad).2.1 : Int), (rd d a k bad).2.2) := by
  have hl := hd.len
  unfold F_spec_l6Next_M rd
  cases bad with
  | true => rfl
  | false =>
    rw [wadd (by omega)]
    by_cases h : d.n < a + k
    · have h2 : ((a + k : Nat) : Int) > (d.n : Int) := by omega
      simp only [h, h2, decide_true, cond_true, cond_false, Bool.false_or, Option.bind_some]
    · have h2 : ¬ ((a + k : Nat) : Int) > (d.n : Int) := by omega
      simp only [h, h2, decide_false, cond_false, Bool.or_self, Option.bind_some, s_Take hf d hd.byt hd.len hk (show a + k ≤ d.n by omega)]
theorem i_take {fu : Nat} (hf : 2000000 ≤ fu) {d : Sl Int} (hd : Rows1 d) {a k : Nat} (hk : k ≤ 4) (ha : a ≤ d.n) (bad : Bool) : F_impl_reader_take_M fu (k : Int) (lft d a) bad = some ((rd d a k bad).1, lft d (rd d a k bad).2.1, (rd d a k bad).2.2) := by
  have hl := hd.len
  unfold F_impl_reader_take_M rd
  cases bad with
  | true => rfl
  | false =>
    by_cases h : d.n < a + k
    · have h2 : ((lft d a).n : Int) < (k : Int) := by simp only [lft]; omega
      simp only [h, h2, decide_true, cond_true, cond_false, Bool.false_or, Option.bind_some]
    · have h2 : ¬ ((lft d a).n : Int) < (k : Int) := by simp only [lft]; omega
      have h3 : (0 : Int) ≤ (k : Int) := by omega
      have h4 : k ≤ (lft d a).n := by simp only [lft]; omega
      have h5 : (k : Int) ≤ ((lft d a).n : Int) := by omega
      have hn : F_impl_number fu ⟨(lft d a).z, k - 0, fun i => (lft d a).f (0 + i)⟩ = some (be d.f a k) := by
        rw [i_number hf _ (fun i hi => by
          simp only [lft] at hi ⊢
          exact hd.byt _ (by omega)) (by simp only; omega)]
        simp only [Nat.sub_zero, Option.some.injEq]
        exact be_congr k (fun i hi => by simp only [lft, Nat.zero_add])
      simp only [h, h2, h3, h4, h5, Nat.le_refl, Int.toNat_natCast, decide_true, decide_false, cond_true, cond_false, Bool.or_self, Bool.and_self, Option.bind_some, hn]
      simp only [lft, Nat.add_assoc, Nat.sub_sub]
theorem s_Next1 {fu : Nat} (hf : 2000000 ≤ fu) {d : Sl Int} (hd : Rows1 d) {a : Nat} (ha : a ≤ d.n) (bad : Bool) : F_spec_l6Next_M fu 1 d (a : Int) bad = some ((rd d a 1 bad).1, d, ((rd d a 1 bad).2.1 : Int), (rd d a 1 bad).2.2) := s_Next hf hd (k := 1) (by omega) ha bad
theorem s_Next2 {fu : Nat} (hf : 2000000 ≤ fu) {d : Sl Int} (hd : Rows1 d) {a : Nat} (ha : a ≤ d.n) (bad : Bool) : F_spec_l6Next_M fu 2 d (a : Int) bad = some ((rd d a 2 bad).1, d, ((rd d a 2 bad).2.1 : Int), (rd d a 2 bad).2.2) := s_Next hf hd (k := 2) (by omega) ha bad
theorem s_Next4 {fu : Nat} (hf : 2000000 ≤ fu) {d : Sl Int} (hd : Rows1 d) {a : Nat} (ha : a ≤ d.n) (bad : Bool) : F_spec_l6Next_M fu 4 d (a : Int) bad = some ((rd d a 4 bad).1, d, ((rd d a 4 bad).2.1 : Int), (rd d a 4 bad).2.2) := s_Next hf hd (k := 4) (by omega) ha bad
theorem i_take1 {fu : Nat} (hf : 2000000 ≤ fu) {d : Sl Int} (hd : Rows1 d) {a : Nat} (ha : a ≤ d.n) (bad : Bool) : F_impl_reader_take_M fu 1 (lft d a) bad = some ((rd d a 1 bad).1, lft d (rd d a 1 bad).2.1, (rd d a 1 bad).2.2) := i_take hf hd (k := 1) (by omega) ha bad
theorem i_take2 {fu : Nat} (hf : 2000000 ≤ fu) {d : Sl Int} (hd : Rows1 d) {a : Nat} (ha : a ≤ d.n) (bad : Bool) : F_impl_reader_take_M fu 2 (lft d a) bad = some ((rd d a 2 bad).1, lft d (rd d a 2 bad).2.1, (rd d a 2 bad).2.2) := i_take hf hd (k := 2) (by omega) ha bad
theorem i_take4 {fu : Nat} (hf : 2000000 ≤ fu) {d : Sl Int} (hd : Rows1 d) {a : Nat} (ha : a ≤ d.n) (bad : Bool) : F_impl_reader_take_M fu 4 (lft d a) bad = some ((rd d a 4 bad).1, lft d (rd d a 4 bad).2.1, (rd d a 4 bad).2.2) := i_take hf hd (k := 4) (by omega) ha bad
def mkBk (n a x : Int) : S_impl_Backend := ⟨n, a, Int.tdiv x 8, Int.tdiv (Int.tmod x 8) 2, (Int.tmod x 2) == 1⟩
def apB (l : Nat) (f : Nat → S_impl_Backend) (b : S_impl_Backend) : Nat → S_impl_Backend := fun i => if i < l then f i else ([b] : List S_impl_Backend).getD (i - l) (dflt .impl_Backend)
def bk1 (d : Sl Int) (a : Nat) : Int × Nat × Bool := rd d a 2 false
def bk2 (d : Sl Int) (a : Nat) : Int × Nat × Bool := rd d (bk1 d a).2.1 4 (bk1 d a).2.2
def bk3 (d : Sl Int) (a : Nat) : Int × Nat × Bool := rd d (bk2 d a).2.1 1 (bk2 d a).2.2
def rdB (d : Sl Int) : Nat → Nat → Bool → Nat → (Nat → S_impl_Backend) → Nat × Bool × Nat × (Nat → S_impl_Backend)
  | 0, a, bad, l, f => (a, bad, l, f)
  | m + 1, a, bad, l, f => bif bad then (a, bad, l, f) else rdB d m (bk3 d a).2.1 (bk3 d a).2.2 (l + 1) (apB l f (mkBk (bk1 d a).1 (bk2 d a).1 (bk3 d a).1))
theorem bk_le {d : Sl Int} {a : Nat} (ha : a ≤ d.n) : (bk1 d a).2.1 ≤ d.n ∧ (bk2 d a).2.1 ≤ d.n ∧ (bk3 d a).2.1 ≤ d.n :=
  ⟨rd_le ha, rd_le (rd_le ha), rd_le (rd_le (rd_le ha))⟩
theorem rdB_le {d : Sl Int} : ∀ (m a : Nat) (bad : Bool) (l : Nat) (f : Nat → S_impl_Backend), a ≤ d.n → (rdB d m a bad l f).1 ≤ d.n ∧ (rdB d m a bad l f).2.2.1 ≤ l + m
  | 0, a, bad, l, f, ha => ⟨ha, by simp [rdB]⟩
  | m + 1, a, bad, l, f, ha => by
    cases bad with
    | true => exact ⟨ha, by simp [rdB]⟩
    | false =>
      have := rdB_le m (bk3 d a).2.1 (bk3 d a).2.2 (l + 1) (apB l f (mkBk (bk1 d a).1 (bk2 d a).1 (bk3 d a).1)) (bk_le ha).2.2
      simp only [rdB, cond_false]
      exact ⟨this.1, by omega⟩
theorem flag_ok {x : Int} (h0 : 0 ≤ x) (h1 : x ≤ 255) : IntKind.wrap .i64 (Int.tdiv x 8) = Int.tdiv x 8 ∧ IntKind.wrap .i64 (Int.tdiv (Int.tmod x 8) 2) = Int.tdiv (Int.tmod x 8) 2 ∧ Int.tmod (IntKind.wrap .i64 (Int.tdiv x 2)) 4 = Int.tdiv (Int.tmod x 8) 2 := by
  obtain ⟨n, rfl⟩ := Int.eq_ofNat_of_zero_le h0
  have e8 : Int.tdiv (n : Int) 8 = ((n / 8 : Nat) : Int) := rfl
  have e2 : Int.tdiv (n : Int) 2 = ((n / 2 : Nat) : Int) := rfl
  have m8 : Int.tmod (n : Int) 8 = ((n % 8 : Nat) : Int) := rfl
  have d2 : Int.tdiv ((n % 8 : Nat) : Int) 2 = ((n % 8 / 2 : Nat) : Int) := rfl
  rw [e8, e2, m8, d2]
  refine ⟨wrap64 (by omega) (by omega), wrap64 (by omega) (by omega), ?_⟩
  rw [wrap64 (by omega) (by omega)]
  have m4 : Int.tmod ((n / 2 : Nat) : Int) 4 = ((n / 2 % 4 : Nat) : Int) := rfl
  rw [m4]
  omega
theorem dec_pos (m : Nat) : IntKind.wrap .i64 (((m + 1 : Nat) : Int) - 1) = if m < 1000000 then (m : Int) else IntKind.wrap .i64 (((m + 1 : Nat) : Int) - 1) := by
  split
  · rw [wrap64 (by omega) (by omega)]; omega
  · rfl
theorem wpr (m : Nat) (h : m < 1000000) : IntKind.wrap .i64 (((m + 1 : Nat) : Int) - 1) = (m : Int) := by rw [dec_pos, if_pos h]
theorem s_B0 {g : Nat} (hg : 2000000 ≤ g) {d : Sl Int} (hd : Rows1 d) {ρ : Type} (p q v : Int) (k0 : Sl Int → Int → Bool → Nat → Nat → (Nat → S_impl_Backend) → Option ρ) : ∀ (m a : Nat) (bad : Bool) (l : Nat) (f : Nat → S_impl_Backend) (fu : Nat), a ≤ d.n → m ≤ 1000 → l + m ≤ 100000 → m < fu →
    L (fun (w0 : Int × Sl Int × Int × Bool × Nat × Nat × (Nat → S_impl_Backend)) go0 => F_spec_UnpackConfig_B0 g d p q v k0 w0.1 w0.2.1 w0.2.2.1 w0.2.2.2.1 w0.2.2.2.2.1 w0.2.2.2.2.2.1 w0.2.2.2.2.2.2 (fun q0 q1 q2 q3 q4 q5 q6 => go0 (q0, q1, q2, q3, q4, q5, q6))) fu ((m : Int), d, (a : Int), bad, l, l, f)
      = k0 d ((rdB d m a bad l f).1 : Int) (rdB d m a bad l f).2.1 (rdB d m a bad l f).2.2.1 (rdB d m a bad l f).2.2.1 (rdB d m a bad l f).2.2.2
  | 0, a, bad, l, f, fu, ha, hm, hl, hf => by
    obtain ⟨fu, rfl⟩ : ∃ k, fu = k + 1 := ⟨fu - 1, by omega⟩
    simp only [L]
    rw [F_spec_UnpackConfig_B0]
    simp [rdB]
  | m + 1, a, bad, l, f, fu, ha, hm, hl, hf => by
    obtain ⟨fu, rfl⟩ : ∃ k, fu = k + 1 := ⟨fu - 1, by omega⟩
    simp only [L]
    rw [F_spec_UnpackConfig_B0]
    have hpos : ((m + 1 : Nat) : Int) > 0 := by omega
    cases bad with
    | true => simp [rdB]
    | false =>
      obtain ⟨h1, h2, h3⟩ := bk_le ha
      obtain ⟨x0, x1⟩ := rd_byte hd (a := (bk2 d a).2.1) (bad := (bk2 d a).2.2)
      obtain ⟨f1, f2, f3⟩ := flag_ok x0 x1
      have c1 : l + 1 ≤ 9223372036854775807 := by omega
      have c2 : (l + 1) * 40 ≤ 140737488355328 := by omega
      simp only [hpos, decide_true, cond_true, Bool.not_false, Option.bind_some]
      rw [s_Next2 hg hd ha]
      simp only [Option.bind_some]
      rw [s_Next4 hg hd (rd_le ha)]
      simp only [Option.bind_some]
      rw [s_Next1 hg hd (rd_le (rd_le ha))]
      simp only [Option.bind_some, c1, c2, decide_true, Bool.and_self, cond_true, wpr m (by omega)]
      have ih := s_B0 hg hd p q v k0 m (bk3 d a).2.1 (bk3 d a).2.2 (l + 1) (apB l f (mkBk (bk1 d a).1 (bk2 d a).1 (bk3 d a).1)) fu h3 (by omega) (by omega) (by omega)
      have e : rdB d (m + 1) a false l f = rdB d m (bk3 d a).2.1 (bk3 d a).2.2 (l + 1) (apB l f (mkBk (bk1 d a).1 (bk2 d a).1 (bk3 d a).1)) := rfl
      rw [e, ← ih]
      simp only [bk2, bk1] at f1 f2
      rw [f1, f2]
      rfl
theorem i_B0 {g : Nat} (hg : 2000000 ≤ g) {d : Sl Int} (hd : Rows1 d) {ρ : Type} (x : Sl Int) (p q v : Int) (k0 : Sl Int → Bool → Nat → Nat → (Nat → S_impl_Backend) → Option ρ) : ∀ (m a : Nat) (bad : Bool) (l : Nat) (f : Nat → S_impl_Backend) (fu : Nat), a ≤ d.n → m ≤ 1000 → l + m ≤ 100000 → m < fu →
    L (fun (w0 : Int × Sl Int × Bool × Nat × Nat × (Nat → S_impl_Backend)) go0 => F_impl_UnpackConfig_B0 g x p q v k0 w0.1 w0.2.1 w0.2.2.1 w0.2.2.2.1 w0.2.2.2.2.1 w0.2.2.2.2.2 (fun q0 q1 q2 q3 q4 q5 => go0 (q0, q1, q2, q3, q4, q5))) fu ((m : Int), lft d a, bad, l, l, f)
      = k0 (lft d (rdB d m a bad l f).1) (rdB d m a bad l f).2.1 (rdB d m a bad l f).2.2.1 (rdB d m a bad l f).2.2.1 (rdB d m a bad l f).2.2.2
  | 0, a, bad, l, f, fu, ha, hm, hl, hf => by
    obtain ⟨fu, rfl⟩ : ∃ k, fu = k + 1 := ⟨fu - 1, by omega⟩
    simp only [L]
    rw [F_impl_UnpackConfig_B0]
    simp [rdB]
  | m + 1, a, bad, l, f, fu, ha, hm, hl, hf => by
    obtain ⟨fu, rfl⟩ : ∃ k, fu = k + 1 := ⟨fu - 1, by omega⟩
    simp only [L]
    rw [F_impl_UnpackConfig_B0]
    have hpos : ((m + 1 : Nat) : Int) > 0 := by omega
    cases bad with
    | true => simp [rdB]
    | false =>
      obtain ⟨h1, h2, h3⟩ := bk_le ha
      obtain ⟨x0, x1⟩ := rd_byte hd (a := (bk2 d a).2.1) (bad := (bk2 d a).2.2)
      obtain ⟨f1, f2, f3⟩ := flag_ok x0 x1
      have c1 : l + 1 ≤ 9223372036854775807 := by omega
      have c2 : (l + 1) * 40 ≤ 140737488355328 := by omega
      simp only [hpos, decide_true, cond_true, Bool.not_false, Option.bind_some]
      rw [i_take2 hg hd ha]
      simp only [Option.bind_some]
      rw [i_take4 hg hd (rd_le ha)]
      simp only [Option.bind_some]
      rw [i_take1 hg hd (rd_le (rd_le ha))]
      simp only [Option.bind_some, c1, c2, decide_true, Bool.and_self, cond_true, wpr m (by omega)]
      have ih := i_B0 hg hd x p q v k0 m (bk3 d a).2.1 (bk3 d a).2.2 (l + 1) (apB l f (mkBk (bk1 d a).1 (bk2 d a).1 (bk3 d a).1)) fu h3 (by omega) (by omega) (by omega)
      have e : rdB d (m + 1) a false l f = rdB d m (bk3 d a).2.1 (bk3 d a).2.2 (l + 1) (apB l f (mkBk (bk1 d a).1 (bk2 d a).1 (bk3 d a).1)) := rfl
      rw [e, ← ih]
      simp only [bk2, bk1] at f1 f3
      rw [f1, f3]
      rfl
def apN (l : Nat) (f : Nat → Int) (b : Int) : Nat → Int := fun i => if i < l then f i else ([b] : List Int).getD (i - l) (dflt .i64)
def rdN (d : Sl Int) : Nat → Nat → Bool → Nat → (Nat → Int) → Nat × Bool × Nat × (Nat → Int)
  | 0, a, bad, l, f => (a, bad, l, f)
  | m + 1, a, bad, l, f => bif bad then (a, bad, l, f) else rdN d m (rd d a 2 false).2.1 (rd d a 2 false).2.2 (l + 1) (apN l f (rd d a 2 false).1)
theorem rdN_le {d : Sl Int} : ∀ (m a : Nat) (bad : Bool) (l : Nat) (f : Nat → Int), a ≤ d.n → (rdN d m a bad l f).1 ≤ d.n ∧ (rdN d m a bad l f).2.2.1 ≤ l + m
  | 0, a, bad, l, f, ha => ⟨ha, by simp [rdN]⟩
  | m + 1, a, bad, l, f, ha => by
    cases bad with
    | true => exact ⟨ha, by simp [rdN]⟩
    | false =>
      have := rdN_le m (rd d a 2 false).2.1 (rd d a 2 false).2.2 (l + 1) (apN l f (rd d a 2 false).1) (rd_le ha)
      simp only [rdN, cond_false]
      exact ⟨this.1, by omega⟩
theorem s_B4 {g : Nat} (hg : 2000000 ≤ g) {d : Sl Int} (hd : Rows1 d) {ρ : Type} (n8 o3 o4 o8 : Int) (o9 o10 on3 : Nat) (of3 : Nat → S_impl_Backend) (on4 : Nat) (of4 : Nat → S_impl_Vip) (o16 o17 o18 : Int) (k0 : Sl Int → Int → Bool → Nat → Nat → (Nat → Int) → Option ρ) : ∀ (m a : Nat) (bad : Bool) (l : Nat) (f : Nat → Int) (fu : Nat), a ≤ d.n → m ≤ 1000 → l + m ≤ 100000 → m < fu →
    L (fun (w4 : Int × Sl Int × Int × Bool × Nat × Nat × (Nat → Int)) go4 => F_spec_UnpackConfig_B4 g d n8 o3 o4 o8 o9 o10 on3 of3 on4 of4 o16 o17 o18 k0 w4.1 w4.2.1 w4.2.2.1 w4.2.2.2.1 w4.2.2.2.2.1 w4.2.2.2.2.2.1 w4.2.2.2.2.2.2 (fun q0 q1 q2 q3 q4 q5 q6 => go4 (q0, q1, q2, q3, q4, q5, q6))) fu ((m : Int), d, (a : Int), bad, l, l, f)
      = k0 d ((rdN d m a bad l f).1 : Int) (rdN d m a bad l f).2.1 (rdN d m a bad l f).2.2.1 (rdN d m a bad l f).2.2.1 (rdN d m a bad l f).2.2.2
  | 0, a, bad, l, f, fu, ha, hm, hl, hf => by
    obtain ⟨fu, rfl⟩ : ∃ k, fu = k + 1 := ⟨fu - 1, by omega⟩
    simp only [L]
    rw [F_spec_UnpackConfig_B4]
    simp [rdN]
  | m + 1, a, bad, l, f, fu, ha, hm, hl, hf => by
    obtain ⟨fu, rfl⟩ : ∃ k, fu = k + 1 := ⟨fu - 1, by omega⟩
    simp only [L]
    rw [F_spec_UnpackConfig_B4]
    have hpos : ((m + 1 : Nat) : Int) > 0 := by omega
    cases bad with
    | true => simp [rdN]
    | false =>
      have c1 : l + 1 ≤ 9223372036854775807 := by omega
      have c2 : (l + 1) * 8 ≤ 140737488355328 := by omega
      simp only [hpos, decide_true, cond_true, Bool.not_false, Option.bind_some]
      rw [s_Next2 hg hd ha]
      simp only [Option.bind_some, c1, c2, decide_true, Bool.and_self, cond_true, wpr m (by omega)]
      exact s_B4 hg hd n8 o3 o4 o8 o9 o10 on3 of3 on4 of4 o16 o17 o18 k0 m (rd d a 2 false).2.1 (rd d a 2 false).2.2 (l + 1) (apN l f (rd d a 2 false).1) fu (rd_le ha) (by omega) (by omega) (by omega)
theorem i_B4 {g : Nat} (hg : 2000000 ≤ g) {d : Sl Int} (hd : Rows1 d) {ρ : Type} (x : Sl Int) (n8 o3 o4 o7 : Int) (o8 o9 on3 : Nat) (of3 : Nat → S_impl_Backend) (on4 : Nat) (of4 : Nat → S_impl_Vip) (o15 o16 o17 : Int) (k0 : Sl Int → Bool → Nat → Nat → (Nat → Int) → Option ρ) : ∀ (m a : Nat) (bad : Bool) (l : Nat) (f : Nat → Int) (fu : Nat), a ≤ d.n → m ≤ 1000 → l + m ≤ 100000 → m < fu →
    L (fun (w4 : Int × Sl Int × Bool × Nat × Nat × (Nat → Int)) go4 => F_impl_UnpackConfig_B4 g x n8 o3 o4 o7 o8 o9 on3 of3 on4 of4 o15 o16 o17 k0 w4.1 w4.2.1 w4.2.2.1 w4.2.2.2.1 w4.2.2.2.2.1 w4.2.2.2.2.2 (fun q0 q1 q2 q3 q4 q5 => go4 (q0, q1, q2, q3, q4, q5))) fu ((m : Int), lft d a, bad, l, l, f)
      = k0 (lft d (rdN d m a bad l f).1) (rdN d m a bad l f).2.1 (rdN d m a bad l f).2.2.1 (rdN d m a bad l f).2.2.1 (rdN d m a bad l f).2.2.2
  | 0, a, bad, l, f, fu, ha, hm, hl, hf => by
    obtain ⟨fu, rfl⟩ : ∃ k, fu = k + 1 := ⟨fu - 1, by omega⟩
    simp only [L]
    rw [F_impl_UnpackConfig_B4]
    simp [rdN]
  | m + 1, a, bad, l, f, fu, ha, hm, hl, hf => by
    obtain ⟨fu, rfl⟩ : ∃ k, fu = k + 1 := ⟨fu - 1, by omega⟩
    simp only [L]
    rw [F_impl_UnpackConfig_B4]
    have hpos : ((m + 1 : Nat) : Int) > 0 := by omega
    cases bad with
    | true => simp [rdN]
    | false =>
      have c1 : l + 1 ≤ 9223372036854775807 := by omega
      have c2 : (l + 1) * 8 ≤ 140737488355328 := by omega
      simp only [hpos, decide_true, cond_true, Bool.not_false, Option.bind_some]
      rw [i_take2 hg hd ha]
      simp only [Option.bind_some, c1, c2, decide_true, Bool.and_self, cond_true, wpr m (by omega)]
      exact i_B4 hg hd x n8 o3 o4 o7 o8 o9 on3 of3 on4 of4 o15 o16 o17 k0 m (rd d a 2 false).2.1 (rd d a 2 false).2.2 (l + 1) (apN l f (rd d a 2 false).1) fu (rd_le ha) (by omega) (by omega) (by omega)
def vp1 (d : Sl Int) (a : Nat) : Int × Nat × Bool := rd d a 4 false
def vp2 (d : Sl Int) (a : Nat) : Int × Nat × Bool := rd d (vp1 d a).2.1 2 (vp1 d a).2.2
def vp3 (d : Sl Int) (a : Nat) : Int × Nat × Bool := rd d (vp2 d a).2.1 1 (vp2 d a).2.2
def vp4 (d : Sl Int) (a : Nat) : Int × Nat × Bool := rd d (vp3 d a).2.1 1 (vp3 d a).2.2
def vpN (d : Sl Int) (a : Nat) : Nat × Bool × Nat × (Nat → Int) := rdN d (vp4 d a).1.toNat (vp4 d a).2.1 (vp4 d a).2.2 0 (fun _ => dflt .i64)
def vpV (d : Sl Int) (a : Nat) : S_impl_Vip := ⟨(vp1 d a).1, (vp2 d a).1, (vp3 d a).1, ⟨none, (vpN d a).2.2.1, (vpN d a).2.2.2⟩⟩
def apV (l : Nat) (f : Nat → S_impl_Vip) (b : S_impl_Vip) : Nat → S_impl_Vip := fun i => if i < l then f i else ([b] : List S_impl_Vip).getD (i - l) (dflt .impl_Vip)
def rdV (d : Sl Int) : Nat → Nat → Bool → Nat → (Nat → S_impl_Vip) → Nat × Bool × Nat × (Nat → S_impl_Vip)
  | 0, a, bad, l, f => (a, bad, l, f)
  | m + 1, a, bad, l, f => bif bad then (a, bad, l, f) else rdV d m (vpN d a).1 (vpN d a).2.1 (l + 1) (apV l f (vpV d a))
theorem vp_le {d : Sl Int} {a : Nat} (ha : a ≤ d.n) : (vp1 d a).2.1 ≤ d.n ∧ (vp2 d a).2.1 ≤ d.n ∧ (vp3 d a).2.1 ≤ d.n ∧ (vp4 d a).2.1 ≤ d.n ∧ (vpN d a).1 ≤ d.n :=
  ⟨rd_le ha, rd_le (rd_le ha), rd_le (rd_le (rd_le ha)), rd_le (rd_le (rd_le (rd_le ha))), (rdN_le _ _ _ _ _ (rd_le (rd_le (rd_le (rd_le ha))))).1⟩
theorem vp4_fit {d : Sl Int} (hd : Rows1 d) (a : Nat) : (vp4 d a).1 = (((vp4 d a).1.toNat : Nat) : Int) ∧ (vp4 d a).1.toNat ≤ 255 := by
  obtain ⟨x0, x1⟩ := rd_byte hd (a := (vp3 d a).2.1) (bad := (vp3 d a).2.2)
  have e : rd d (vp3 d a).2.1 1 (vp3 d a).2.2 = vp4 d a := rfl
  rw [e] at x0 x1
  omega
theorem vpN_len {d : Sl Int} (hd : Rows1 d) {a : Nat} (ha : a ≤ d.n) : (vpV d a).Names.n ≤ 255 := by
  have := (rdN_le (vp4 d a).1.toNat (vp4 d a).2.1 (vp4 d a).2.2 0 (fun _ => dflt .i64) (vp_le ha).2.2.2.1).2
  have h2 := (vp4_fit hd a).2
  show (vpN d a).2.2.1 ≤ 255
  unfold vpN
  omega
theorem rdV_le {d : Sl Int} (hd : Rows1 d) : ∀ (m a : Nat) (bad : Bool) (l : Nat) (f : Nat → S_impl_Vip), a ≤ d.n → (∀ i, i < l → (f i).Names.n ≤ 255) → (rdV d m a bad l f).1 ≤ d.n ∧ (rdV d m a bad l f).2.2.1 ≤ l + m ∧ ∀ i, i < (rdV d m a bad l f).2.2.1 → ((rdV d m a bad l f).2.2.2 i).Names.n ≤ 255
  | 0, a, bad, l, f, ha, hn => ⟨ha, by simp [rdV], hn⟩
  | m + 1, a, bad, l, f, ha, hn => by
    cases bad with
    | true => exact ⟨ha, by simp [rdV], hn⟩
    | false =>
      have hn' : ∀ i, i < l + 1 → (apV l f (vpV d a) i).Names.n ≤ 255 := fun i hi => by
        unfold apV
        split
        · rename_i h; exact hn i h
        · rw [show i - l = 0 by omega]; exact vpN_len hd ha
      have := rdV_le hd m (vpN d a).1 (vpN d a).2.1 (l + 1) (apV l f (vpV d a)) (vp_le ha).2.2.2.2 hn'
      simp only [rdV, cond_false]
      exact ⟨this.1, by omega, this.2.2⟩
theorem s_B2 {g : Nat} (hg : 2000000 ≤ g) {d : Sl Int} (hd : Rows1 d) {ρ : Type} (p q v : Int) (nb on3 : Nat) (of3 : Nat → S_impl_Backend) (k0 : Sl Int → Int → Bool → Nat → Nat → (Nat → S_impl_Vip) → Option ρ) : ∀ (m a : Nat) (bad : Bool) (l : Nat) (f : Nat → S_impl_Vip) (fu : Nat), a ≤ d.n → m ≤ 1000 → l + m ≤ 100000 → m < fu →
    L (fun (w2 : Int × Sl Int × Int × Bool × Nat × Nat × (Nat → S_impl_Vip)) go2 => F_spec_UnpackConfig_B2 g d p q v nb on3 of3 k0 w2.1 w2.2.1 w2.2.2.1 w2.2.2.2.1 w2.2.2.2.2.1 w2.2.2.2.2.2.1 w2.2.2.2.2.2.2 (fun q0 q1 q2 q3 q4 q5 q6 => go2 (q0, q1, q2, q3, q4, q5, q6))) fu ((m : Int), d, (a : Int), bad, l, l, f)
      = k0 d ((rdV d m a bad l f).1 : Int) (rdV d m a bad l f).2.1 (rdV d m a bad l f).2.2.1 (rdV d m a bad l f).2.2.1 (rdV d m a bad l f).2.2.2
  | 0, a, bad, l, f, fu, ha, hm, hl, hf => by
    obtain ⟨fu, rfl⟩ : ∃ k, fu = k + 1 := ⟨fu - 1, by omega⟩
    simp only [L]
    rw [F_spec_UnpackConfig_B2]
    simp [rdV]
  | m + 1, a, bad, l, f, fu, ha, hm, hl, hf => by
    obtain ⟨fu, rfl⟩ : ∃ k, fu = k + 1 := ⟨fu - 1, by omega⟩
    simp only [L]
    rw [F_spec_UnpackConfig_B2]
    have hpos : ((m + 1 : Nat) : Int) > 0 := by omega
    cases bad with
    | true => simp [rdV]
    | false =>
      obtain ⟨h1, h2, h3, h4, h5⟩ := vp_le ha
      obtain ⟨e4, b4⟩ := vp4_fit hd a
      have c1 : l + 1 ≤ 9223372036854775807 := by omega
      have c2 : (l + 1) * 48 ≤ 140737488355328 := by omega
      simp only [hpos, decide_true, cond_true, Bool.not_false, Option.bind_some]
      rw [s_Next4 hg hd ha]
      simp only [Option.bind_some]
      rw [s_Next2 hg hd (rd_le ha)]
      simp only [Option.bind_some]
      rw [s_Next1 hg hd (rd_le (rd_le ha))]
      simp only [Option.bind_some]
      rw [s_Next1 hg hd (rd_le (rd_le (rd_le ha)))]
      simp only [Option.bind_some]
      have e : rdV d (m + 1) a false l f = rdV d m (vpN d a).1 (vpN d a).2.1 (l + 1) (apV l f (vpV d a)) := rfl
      rw [e, ← s_B2 hg hd p q v nb on3 of3 k0 m (vpN d a).1 (vpN d a).2.1 (l + 1) (apV l f (vpV d a)) fu h5 (by omega) (by omega) (by omega)]
      have hin := s_B4 (ρ := ρ) hg hd ((m + 1 : Nat) : Int) p q v nb l on3 of3 l f (vp1 d a).1 (vp2 d a).1 (vp3 d a).1 (fun z126 z127 z128 z129 z130 z131 =>
        (bif (decide ((l + 1) ≤ 9223372036854775807) && decide ((l + 1) * 48 ≤ 140737488355328)) then (L (fun (w2 : Int × Sl Int × Int × Bool × Nat × Nat × (Nat → S_impl_Vip)) go2 => F_spec_UnpackConfig_B2 g d p q v nb on3 of3 k0 w2.1 w2.2.1 w2.2.2.1 w2.2.2.2.1 w2.2.2.2.2.1 w2.2.2.2.2.2.1 w2.2.2.2.2.2.2 (fun q0 q1 q2 q3 q4 q5 q6 => go2 (q0, q1, q2, q3, q4, q5, q6))) fu (IntKind.wrap .i64 (((m + 1 : Nat) : Int) - 1), z126, z127, z128, (l + 1), (l + 1), (fun i =>
        if i < l then (f i) else ((fun i => ([(⟨(vp1 d a).1, (vp2 d a).1, (vp3 d a).1, (⟨none, z129, z131⟩ : (Sl Int))⟩ : S_impl_Vip)] : List (S_impl_Vip)).getD i (dflt .impl_Vip)) (i - l))))) else none)) (vp4 d a).1.toNat (vp4 d a).2.1 (vp4 d a).2.2 0 (fun _ => dflt .i64) g h4 (by omega) (by omega) (by omega)
      rw [← e4] at hin
      refine Eq.trans hin ?_
      simp only [Nat.le_refl, c1, c2, decide_true, Bool.and_self, cond_true, wpr m (by omega)]
      rfl
theorem i_B2 {g : Nat} (hg : 2000000 ≤ g) {d : Sl Int} (hd : Rows1 d) {ρ : Type} (x : Sl Int) (p q v : Int) (nb on3 : Nat) (of3 : Nat → S_impl_Backend) (k0 : Sl Int → Bool → Nat → Nat → (Nat → S_impl_Vip) → Option ρ) : ∀ (m a : Nat) (bad : Bool) (l : Nat) (f : Nat → S_impl_Vip) (fu : Nat), a ≤ d.n → m ≤ 1000 → l + m ≤ 100000 → m < fu →
    L (fun (w2 : Int × Sl Int × Bool × Nat × Nat × (Nat → S_impl_Vip)) go2 => F_impl_UnpackConfig_B2 g x p q v nb on3 of3 k0 w2.1 w2.2.1 w2.2.2.1 w2.2.2.2.1 w2.2.2.2.2.1 w2.2.2.2.2.2 (fun q0 q1 q2 q3 q4 q5 => go2 (q0, q1, q2, q3, q4, q5))) fu ((m : Int), lft d a, bad, l, l, f)
      = k0 (lft d (rdV d m a bad l f).1) (rdV d m a bad l f).2.1 (rdV d m a bad l f).2.2.1 (rdV d m a bad l f).2.2.1 (rdV d m a bad l f).2.2.2
  | 0, a, bad, l, f, fu, ha, hm, hl, hf => by
    obtain ⟨fu, rfl⟩ : ∃ k, fu = k + 1 := ⟨fu - 1, by omega⟩
    simp only [L]
    rw [F_impl_UnpackConfig_B2]
    simp [rdV]
  | m + 1, a, bad, l, f, fu, ha, hm, hl, hf => by
    obtain ⟨fu, rfl⟩ : ∃ k, fu = k + 1 := ⟨fu - 1, by omega⟩
    simp only [L]
    rw [F_impl_UnpackConfig_B2]
    have hpos : ((m + 1 : Nat) : Int) > 0 := by omega
    cases bad with
    | true => simp [rdV]
    | false =>
      obtain ⟨h1, h2, h3, h4, h5⟩ := vp_le ha
      obtain ⟨e4, b4⟩ := vp4_fit hd a
      have c1 : l + 1 ≤ 9223372036854775807 := by omega
      have c2 : (l + 1) * 48 ≤ 140737488355328 := by omega
      simp only [hpos, decide_true, cond_true, Bool.not_false, Option.bind_some]
      rw [i_take4 hg hd ha]
      simp only [Option.bind_some]
      rw [i_take2 hg hd (rd_le ha)]
      simp only [Option.bind_some]
      rw [i_take1 hg hd (rd_le (rd_le ha))]
      simp only [Option.bind_some]
      rw [i_take1 hg hd (rd_le (rd_le (rd_le ha)))]
      simp only [Option.bind_some]
      have e : rdV d (m + 1) a false l f = rdV d m (vpN d a).1 (vpN d a).2.1 (l + 1) (apV l f (vpV d a)) := rfl
      rw [e, ← i_B2 hg hd x p q v nb on3 of3 k0 m (vpN d a).1 (vpN d a).2.1 (l + 1) (apV l f (vpV d a)) fu h5 (by omega) (by omega) (by omega)]
      have hin := i_B4 (ρ := ρ) hg hd x ((m + 1 : Nat) : Int) p q v nb l on3 of3 l f (vp1 d a).1 (vp2 d a).1 (vp3 d a).1 (fun z323 z324 z325 z326 z327 => (bif (decide ((l + 1) ≤ 9223372036854775807) && decide ((l + 1) * 48 ≤ 140737488355328)) then (L (fun (w2 : Int × Sl Int × Bool × Nat × Nat × (Nat → S_impl_Vip)) go2 => F_impl_UnpackConfig_B2 g x p q v nb on3 of3 k0 w2.1 w2.2.1 w2.2.2.1 w2.2.2.2.1 w2.2.2.2.2.1 w2.2.2.2.2.2 (fun q0 q1 q2 q3 q4 q5 => go2 (q0, q1, q2, q3, q4, q5))) fu (IntKind.wrap .i64 (((m + 1 : Nat) : Int) - 1), z323, z324, (l + 1), (l + 1), (fun i =>
        if i < l then (f i) else ((fun i => ([(⟨(vp1 d a).1, (vp2 d a).1, (vp3 d a).1, (⟨none, z325, z327⟩ : (Sl Int))⟩ : S_impl_Vip)] : List (S_impl_Vip)).getD i (dflt .impl_Vip)) (i - l))))) else none)) (vp4 d a).1.toNat (vp4 d a).2.1 (vp4 d a).2.2 0 (fun _ => dflt .i64) g h4 (by omega) (by omega) (by omega)
      rw [← e4] at hin
      refine Eq.trans hin ?_
      simp only [Nat.le_refl, c1, c2, decide_true, Bool.and_self, cond_true, wpr m (by omega)]
      rfl
end Go.Proofs.Ytcmfekgdlaffkaa.Pq
