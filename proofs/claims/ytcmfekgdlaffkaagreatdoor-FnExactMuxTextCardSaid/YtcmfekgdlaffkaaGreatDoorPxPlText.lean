/- Texts: numbers in decimal, addresses and lines, put together; the law MuxText, whole. Conditions: none. -/
import Derived.Test.YtcmfekgdlaffkaaGreatDoorPxPlMux
import Derived.Test.YtcmfekgdlaffkaaGreatDoorPxPlByt
namespace Go.Proofs.YtcmfekgdlaffkaaGreatDoor.Px
open Go Go.RowKit Go.Proofs Vm
set_option linter.unusedVariables false
set_option linter.unusedSimpArgs false
set_option maxRecDepth 100000

/-! ### Texts put together -/
theorem cat {ρ : Type} {a b : ByteArray} {k : Option ρ} (h : a.size + b.size ≤ 9223372036854775807) : ((bif decide (ByteArray.size a + ByteArray.size b ≤ 9223372036854775807) then some () else none : Option Unit).bind fun _ => k) = k := by
  rw [decide_eq_true h]; rfl
theorem sz1 (x : UInt8) : ByteArray.size ⟨#[x]⟩ = 1 := rfl
theorem emp_app (b : ByteArray) : (⟨#[]⟩ : ByteArray) ++ b = b := ByteArray.empty_append
def fitN (n : Int) : Prop := 0 ≤ n ∧ n ≤ 9223372036854775807
theorem dig_le {n : Int} (h : fitN n) : (dig n).size ≤ 19 := dig_size h.2
theorem hand_some {n : Int} (h : fitN n) : hand_dec n = some (dig n) := by
  unfold hand_dec
  rw [decide_eq_true h.1, decide_eq_true h.2]; rfl
theorem i_dec (fu : Nat) {n : Int} (h : fitN n) : F_impl_decimal fu n = some (dig n) := hand_some h
theorem s_dig (fu : Nat) {n : Int} (h : fitN n) : F_spec_l2Digits fu n = some (dig n) := hand_some h

def decV (sep : ByteArray) (f : Nat → Int) : Nat → ByteArray
  | 0 => ⟨#[]⟩
  | i + 1 => (bif decide (0 < i) then decV sep f i ++ sep else decV sep f i) ++ dig (f i)
theorem decV_size {sep : ByteArray} (hs : sep.size ≤ 1) {f : Nat → Int} : ∀ n, (∀ i, i < n → fitN (f i)) → (decV sep f n).size ≤ 20 * n
  | 0, _ => Nat.le_refl _
  | n + 1, h => by
    have h1 := decV_size hs n (fun i hi => h i (by omega))
    have h2 := dig_le (h n (by omega))
    unfold decV
    rw [ByteArray.size_append]
    cases decide (0 < n) with
    | true => rw [cond_true, ByteArray.size_append]; omega
    | false => rw [cond_false]; omega
theorem i_decimals {fu : Nat} (hf : 2000000 ≤ fu) {sep : ByteArray} (hs : sep.size ≤ 1) (z : Option Bool) (n : Nat) (hn : n ≤ 4) (f : Nat → Int) (h : ∀ i, i < n → fitN (f i)) : F_impl_decimals fu sep ⟨z, n, f⟩ = some (decV sep f n) := by
  unfold F_impl_decimals
  refine stepL n (fun i => (decV sep f i, (i : Int))) (by omega) rfl (fun i go hi => ?_) (fun go => ?_)
  · unfold F_impl_decimals_B0
    have h1 := decV_size hs i (fun j hj => h j (by omega))
    have h2 := dig_le (h i hi)
    simp only [Int.toNat_natCast, Int.natCast_nonneg, Int.ofNat_lt, hi, decide_true, Bool.and_self, cond_true, Option.bind_some, i_dec fu (h i hi), wsucc (show i < 4611686018427387904 by omega)]
    by_cases h0 : 0 < i
    · have h3 : ((i : Nat) : Int) > 0 := by omega
      rw [decide_eq_true h3, cond_true, cat, cat]
      · show go (_, _) = go (decV sep f (i + 1), _)
        rw [show decV sep f (i + 1) = (decV sep f i ++ sep) ++ dig (f i) by show (bif decide (0 < i) then _ else _) ++ _ = _; rw [decide_eq_true h0]; rfl]
      · rw [ByteArray.size_append]; omega
      · omega
    · have h3 : ¬ (((i : Nat) : Int) > 0) := by omega
      rw [decide_eq_false h3, cond_false, cat]
      · show go (_, _) = go (decV sep f (i + 1), _)
        rw [show decV sep f (i + 1) = decV sep f i ++ dig (f i) by show (bif decide (0 < i) then _ else _) ++ _ = _; rw [decide_eq_false h0]; rfl]
      · omega
  · unfold F_impl_decimals_B0
    simp only [Int.lt_irrefl, decide_false, cond_false]

def lineV (word : ByteArray) (f : Nat → Int) : Nat → ByteArray
  | 0 => word
  | i + 1 => (lineV word f i ++ ⟨#[32]⟩) ++ dig (f i)
theorem lineV_size {word : ByteArray} {f : Nat → Int} : ∀ n, (∀ i, i < n → fitN (f i)) → (lineV word f n).size ≤ word.size + 20 * n
  | 0, _ => Nat.le_refl _
  | n + 1, h => by
    have h1 := lineV_size (word := word) n (fun i hi => h i (by omega))
    have h2 := dig_le (h n (by omega))
    unfold lineV
    rw [ByteArray.size_append, ByteArray.size_append, sz1]
    omega
theorem s_Line {fu : Nat} (hf : 2000000 ≤ fu) {word : ByteArray} (hw : word.size ≤ 1000) (z : Option Bool) (n : Nat) (hn : n ≤ 4) (f : Nat → Int) (h : ∀ i, i < n → fitN (f i)) : F_spec_l5Line fu word ⟨z, n, f⟩ = some (lineV word f n ++ ⟨#[10]⟩) := by
  unfold F_spec_l5Line
  refine stepL n (fun i => (lineV word f i, (i : Int))) (by omega) rfl (fun i go hi => ?_) (fun go => ?_)
  · unfold F_spec_l5Line_B0
    have h1 := lineV_size (word := word) i (fun j hj => h j (by omega))
    have h2 := dig_le (h i hi)
    simp only [Int.toNat_natCast, Int.natCast_nonneg, Int.ofNat_lt, hi, decide_true, Bool.and_self, cond_true, Option.bind_some, s_dig fu (h i hi), wsucc (show i < 4611686018427387904 by omega)]
    rw [cat, cat]
    · rfl
    · rw [ByteArray.size_append, sz1]; omega
    · rw [sz1]; omega
  · unfold F_spec_l5Line_B0
    have h1 := lineV_size (word := word) n h
    simp only [Int.lt_irrefl, decide_false, cond_false]
    rw [cat]
    rw [sz1]; omega

/-! ### An address -/
theorem and255 {x : Int} (h0 : 0 ≤ x) (h1 : x ≤ 4294967295) : bitsAnd .i64 x 255 = x % 256 := by
  obtain ⟨N, rfl⟩ := Int.eq_ofNat_of_zero_le h0
  unfold bitsAnd
  have hb : (IntKind.i64).bits = 64 := rfl
  rw [show (255 : Int) = ((255 : Nat) : Int) from rfl, BitVec.ofInt_natCast, BitVec.ofInt_natCast, BitVec.toNat_and, BitVec.toNat_ofNat, BitVec.toNat_ofNat, hb]
  rw [Nat.mod_eq_of_lt (by omega), Nat.mod_eq_of_lt (by omega), show (255 : Nat) = 2 ^ 8 - 1 from rfl, Nat.and_two_pow_sub_one_eq_mod, wrap64 (by omega) (by omega)]
  omega
def aB (a : Int) : Nat → Int
  | 0 => a / 16777216
  | 1 => a / 65536 % 256
  | 2 => a / 256 % 256
  | _ => a % 256
theorem aB_fit {a : Int} (ha : rng a 0 4294967295 = true) (i : Nat) : 0 ≤ aB a i ∧ aB a i ≤ 255 := by
  simp only [rng, Bool.and_eq_true, decide_eq_true_eq] at ha
  match i with
  | 0 => show 0 ≤ a / 16777216 ∧ a / 16777216 ≤ 255; omega
  | 1 => show 0 ≤ a / 65536 % 256 ∧ a / 65536 % 256 ≤ 255; omega
  | 2 => show 0 ≤ a / 256 % 256 ∧ a / 256 % 256 ≤ 255; omega
  | k + 3 => show 0 ≤ a % 256 ∧ a % 256 ≤ 255; omega
theorem shr_at (a : Int) (k : Int) (m : Int) (hm : (2 : Int) ^ (min k.toNat (IntKind.i64).bits) = m) (h0 : 0 < m) : shrInt .i64 a k = a / m := by
  unfold shrInt
  rw [hm, Int.fdiv_eq_ediv_of_nonneg _ (by omega)]
theorem byB_at {a : Int} (ha : rng a 0 4294967295 = true) : ∀ i, i < 4 → byB a 4 i = aB a i := by
  simp only [rng, Bool.and_eq_true, decide_eq_true_eq] at ha
  intro i hi
  have w8 : ∀ x : Int, IntKind.wrap .u8 x = x % 256 := fun x => by simp [IntKind.wrap, IntKind.bits, IntKind.signed]
  unfold byB
  rw [w8]
  match i, hi with
  | 0, _ => rw [shr_at a _ 16777216 (by decide) (by omega)]; show a / 16777216 % 256 = a / 16777216; omega
  | 1, _ => rw [shr_at a _ 65536 (by decide) (by omega)]; rfl
  | 2, _ => rw [shr_at a _ 256 (by decide) (by omega)]; rfl
  | 3, _ => rw [shr_at a _ 1 (by decide) (by omega)]; show a / 1 % 256 = a % 256; omega
  | k + 4, h => omega

theorem s_BytesF {fu : Nat} (hf : 2000000 ≤ fu) (v : Int) (k : Nat) (hk : k ≤ 4) : F_spec_l1Bytes fu v (k : Int) = some ⟨none, k, byF v k 0 (fun _ => dflt .u8) k⟩ := by
  unfold F_spec_l1Bytes
  refine stepL k (fun i => (0 + i, (k : Int) - 1 - (i : Int), 0 + i, byF v k 0 (fun _ => dflt .u8) i)) (by omega) ?_ (fun i go hi => ?_) (fun go => ?_)
  · rw [wrap64 (by omega) (by omega)]; simp [byF]
  · unfold F_spec_l1Bytes_B0
    have e0 : (k : Int) - 1 - (i : Int) ≥ 0 := by omega
    have e1 : IntKind.wrap .u64 (IntKind.wrap .i64 (8 * ((k : Int) - 1 - (i : Int)))) = 8 * ((k : Int) - 1 - (i : Int)) := by rw [wrap64 (by omega) (by omega), wrapU (by omega) (by omega)]
    have e2 : (0 : Int) ≤ 8 * ((k : Int) - 1 - (i : Int)) := by omega
    have e3 : 0 + i + 1 ≤ 9223372036854775807 := by omega
    have e4 : (0 + i + 1) * 1 ≤ 140737488355328 := by omega
    have e5 : IntKind.wrap .i64 ((k : Int) - 1 - (i : Int) - 1) = (k : Int) - 1 - ((i + 1 : Nat) : Int) := by rw [wrap64 (by omega) (by omega)]; omega
    simp only [e0, e1, e2, e3, e4, e5, decide_true, cond_true, Bool.and_self, Option.bind_some]
    rfl
  · unfold F_spec_l1Bytes_B0
    have e0 : ¬ ((k : Int) - 1 - (k : Int) ≥ 0) := by omega
    simp only [e0, decide_false, cond_false, Nat.zero_add]
theorem byF_at {a : Int} (ha : rng a 0 4294967295 = true) {i : Nat} (hi : i < 4) : IntKind.wrap .i64 (byF a 4 0 (fun _ => dflt .u8) 4 i) = aB a i := by
  have h := (bs_Bytes a 4).at_ i hi
  have e : (byL a 4 4).getD i 0 = byB a 4 i := by
    unfold byL
    rw [List.getD_eq_getElem?_getD, List.getElem?_map, List.getElem?_range hi]; rfl
  have hb := aB_fit ha i
  rw [h, e, byB_at ha i hi, wrap64 (by omega) (by omega)]

def textV (a : Int) : ByteArray := decV ⟨#[46]⟩ (aB a) 4
theorem textV_size {a : Int} (ha : rng a 0 4294967295 = true) : (textV a).size ≤ 80 := decV_size (sep := ⟨#[46]⟩) (Nat.le_refl 1) 4 (fun i _ => ⟨(aB_fit ha i).1, by have := (aB_fit ha i).2; omega⟩)
theorem fit_aB {a : Int} (ha : rng a 0 4294967295 = true) (i : Nat) : fitN (aB a i) := ⟨(aB_fit ha i).1, by have := (aB_fit ha i).2; omega⟩
theorem decV_congr {sep : ByteArray} {f g : Nat → Int} : ∀ n, (∀ i, i < n → f i = g i) → decV sep f n = decV sep g n
  | 0, _ => rfl
  | n + 1, h => by
    unfold decV
    rw [decV_congr n (fun i hi => h i (by omega)), h n (by omega)]
theorem i_address {fu : Nat} (hf : 2000000 ≤ fu) {a : Int} (ha : rng a 0 4294967295 = true) : F_impl_addressText fu a = some (textV a) := by
  have hr := ha
  simp only [rng, Bool.and_eq_true, decide_eq_true_eq] at hr
  have e : ∀ i, i < 4 → ([(shrInt .i64 a 24), (bitsAnd .i64 (shrInt .i64 a 16) 255), (bitsAnd .i64 (shrInt .i64 a 8) 255), (bitsAnd .i64 a 255)] : List (Int)).getD i (dflt .i64) = aB a i := by
    intro i hi
    rw [shr_at a 24 16777216 (by decide) (by omega), shr_at a 16 65536 (by decide) (by omega), shr_at a 8 256 (by decide) (by omega), and255 (x := a / 65536) (by omega) (by omega), and255 (x := a / 256) (by omega) (by omega), and255 (x := a) (by omega) (by omega)]
    match i, hi with
    | 0, _ => rfl
    | 1, _ => rfl
    | 2, _ => rfl
    | 3, _ => rfl
    | k + 4, h => omega
  unfold F_impl_addressText
  rw [i_decimals hf (sep := ⟨#[46]⟩) (Nat.le_refl 1) _ 4 (Nat.le_refl 4) _ (fun i hi => by rw [e i hi]; exact fit_aB ha i), Option.bind_some, decV_congr 4 e]
  rfl
theorem s_Text {fu : Nat} (hf : 2000000 ≤ fu) {a : Int} (ha : rng a 0 4294967295 = true) : F_spec_l2Text fu a = some (textV a) := by
  unfold F_spec_l2Text
  have hB : F_spec_l1Bytes fu a 4 = _ := s_BytesF hf a 4 (Nat.le_refl 4)
  have e0 := byF_at ha (i := 0) (by omega)
  have h0 : (decide (0 ≤ (0 : Int)) && decide ((Int.toNat 0) < 4)) = true := rfl
  rw [hB, Option.bind_some]
  dsimp only
  rw [h0, cond_true, Option.bind_some, show Int.toNat 0 = 0 from rfl, e0, s_dig fu (fit_aB ha 0), Option.bind_some]
  refine stepL 3 (fun i => (decV ⟨#[46]⟩ (aB a) (i + 1), ((i + 1 : Nat) : Int))) (by omega) ?_ (fun i go hi => ?_) (fun go => ?_)
  · show (_, _) = ((bif decide (0 < 0) then _ else (⟨#[]⟩ : ByteArray)) ++ dig (aB a 0), _)
    rw [show (decide (0 < 0)) = false from rfl, cond_false, emp_app]
    rfl
  · unfold F_spec_l2Text_B0
    have h1 := decV_size (sep := ⟨#[46]⟩) (Nat.le_refl 1) (f := aB a) (i + 1) (fun j _ => fit_aB ha j)
    have h2 := dig_le (fit_aB ha (i + 1))
    have h3 : ((i + 1 : Nat) : Int) < 4 := by omega
    have h4 : i + 1 < 4 := by omega
    have h5 := byF_at ha h4
    simp only [Int.toNat_natCast, Int.natCast_nonneg, h3, h4, decide_true, Bool.and_self, cond_true, Option.bind_some, h5, s_dig fu (fit_aB ha (i + 1)), wsucc (show i + 1 < 4611686018427387904 by omega)]
    rw [cat, cat]
    · show go (_, _) = go ((bif decide (0 < i + 1) then _ else _) ++ _, _)
      rw [decide_eq_true (show 0 < i + 1 by omega)]
      rfl
    · rw [ByteArray.size_append, sz1]; omega
    · rw [sz1]; omega
  · unfold F_spec_l2Text_B0
    rfl

end Go.Proofs.YtcmfekgdlaffkaaGreatDoor.Px
