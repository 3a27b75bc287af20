/- Bytes: numbers in bytes, rows of bytes as lists, strings of bytes. Conditions: none. -/
import Derived.Test.YtcmfekgdlaffkaaPqPlMk
namespace Go.Proofs.Ytcmfekgdlaffkaa.Pq
open Go Go.RowKit Go.Proofs Vm
set_option linter.unusedVariables false
set_option linter.unusedSimpArgs false
set_option maxRecDepth 100000
def be (f : Nat → Int) (a : Nat) : Nat → Int
  | 0 => 0
  | k + 1 => be f a k * 256 + f (a + k)
def Byt (n : Nat) (f : Nat → Int) : Prop := ∀ i, i < n → 0 ≤ f i ∧ f i ≤ 255
theorem be_fit {n : Nat} {f : Nat → Int} (h : Byt n f) {a k : Nat} (hk : k ≤ 4) (hn : a + k ≤ n) : 0 ≤ be f a k ∧ be f a k ≤ 4294967295 := by
  have g : ∀ i, i < k → 0 ≤ f (a + i) ∧ f (a + i) ≤ 255 := fun i hi => h (a + i) (by omega)
  match k, hk, g with
  | 0, _, _ => simp [be]
  | 1, _, g => have := g 0 (by omega); simp only [be]; omega
  | 2, _, g => have := g 0 (by omega); have := g 1 (by omega); simp only [be]; omega
  | 3, _, g => have := g 0 (by omega); have := g 1 (by omega); have := g 2 (by omega); simp only [be]; omega
  | 4, _, g => have := g 0 (by omega); have := g 1 (by omega); have := g 2 (by omega); have := g 3 (by omega); simp only [be]; omega
theorem be_congr {f g : Nat → Int} {a b : Nat} : ∀ k, (∀ i, i < k → f (a + i) = g (b + i)) → be f a k = be g b k
  | 0, _ => rfl
  | k + 1, h => by simp only [be]; rw [be_congr k (fun i hi => h i (by omega)), h k (by omega)]
theorem wadd {a b : Nat} (h : a + b < 4611686018427387904) : IntKind.wrap .i64 ((a : Int) + (b : Int)) = ((a + b : Nat) : Int) := by
  rw [wrap64 (by omega) (by omega)]; omega
theorem or8 {n b : Int} (h0 : 0 ≤ n) (h1 : n ≤ 4294967295) (h2 : 0 ≤ b) (h3 : b ≤ 255) : bitsOr .i64 (shlInt .i64 n 8) (IntKind.wrap .i64 b) = n * 256 + b := by
  have e1 : shlInt .i64 n 8 = n * 256 := by
    have : (2 : Int) ^ (min (8 : Int).toNat (IntKind.i64).bits) = 256 := by decide
    unfold shlInt
    rw [this, wrap64 (by omega) (by omega)]
  rw [e1, wrap64 (x := b) (by omega) (by omega)]
  obtain ⟨N, rfl⟩ := Int.eq_ofNat_of_zero_le h0
  obtain ⟨B, rfl⟩ := Int.eq_ofNat_of_zero_le h2
  unfold bitsOr
  have hb : (IntKind.i64).bits = 64 := rfl
  rw [show ((N : Int) * 256) = ((256 * N : Nat) : Int) by omega, BitVec.ofInt_natCast, BitVec.ofInt_natCast, BitVec.toNat_or, BitVec.toNat_ofNat, BitVec.toNat_ofNat, hb]
  rw [Nat.mod_eq_of_lt (by omega), Nat.mod_eq_of_lt (by omega)]
  have := Nat.two_pow_add_eq_or_of_lt (i := 8) (b := B) (by omega) N
  rw [show (2 : Nat) ^ 8 = 256 from rfl] at this
  rw [← this, wrap64 (by omega) (by omega)]
  rfl
theorem s_Take {fu : Nat} (hf : 2000000 ≤ fu) (d : Sl Int) (hd : Byt d.n d.f) (hn : d.n ≤ 1048576) {a k : Nat} (hk : k ≤ 4) (ha : a + k ≤ d.n) : F_spec_l1Take fu d (a : Int) (k : Int) = some (be d.f a k) := by
  unfold F_spec_l1Take
  refine stepL k (fun i => (be d.f a i, (i : Int))) (by omega) rfl (fun i go hi => ?_) (fun go => ?_)
  · obtain ⟨b0, b1⟩ := be_fit hd (k := i) (a := a) (by omega) (by omega)
    obtain ⟨c0, c1⟩ := hd (a + i) (by omega)
    unfold F_spec_l1Take_B0
    have h1 : a + i < d.n := by omega
    simp only [Int.ofNat_lt, hi, decide_true, cond_true, wadd (show a + i < 4611686018427387904 by omega), Int.toNat_natCast, Int.natCast_nonneg, h1, Bool.and_self, Option.bind_some, wsucc (show i < 4611686018427387904 by omega)]
    simp (disch := omega) only [Vm.wrap64]
    rfl
  · unfold F_spec_l1Take_B0
    simp only [Int.lt_irrefl, decide_false, cond_false]
theorem i_number {fu : Nat} (hf : 2000000 ≤ fu) (x : Sl Int) (hx : Byt x.n x.f) (hk : x.n ≤ 4) : F_impl_number fu x = some (be x.f 0 x.n) := by
  unfold F_impl_number
  refine stepL x.n (fun i => (be x.f 0 i, (i : Int))) (by omega) rfl (fun i go hi => ?_) (fun go => ?_)
  · obtain ⟨b0, b1⟩ := be_fit hx (k := i) (a := 0) (by omega) (by omega)
    obtain ⟨c0, c1⟩ := hx i (by omega)
    unfold F_impl_number_B0
    simp only [Int.ofNat_lt, hi, decide_true, cond_true, Int.toNat_natCast, Int.natCast_nonneg, Bool.and_self, Option.bind_some, wsucc (show i < 4611686018427387904 by omega), or8 b0 b1 c0 c1]
    simp only [be, Nat.zero_add]
  · unfold F_impl_number_B0
    simp only [Int.lt_irrefl, decide_false, cond_false]
structure Bs (L : List Int) (n : Nat) (f : Nat → Int) : Prop where
  len : n = L.length
  at_ : ∀ i, i < n → f i = L.getD i 0
theorem Bs.nil (f : Nat → Int) : Bs [] 0 f := ⟨rfl, fun i h => absurd h (Nat.not_lt_zero _)⟩
theorem Bs.of_getD (L : List Int) (n : Nat) (h : n = L.length) : Bs L n (fun i => L.getD i (dflt .u8)) := ⟨h, fun i _ => rfl⟩
theorem Bs.app {L M : List Int} {n m : Nat} {f g : Nat → Int} (h : Bs L n f) (k : Bs M m g) : Bs (L ++ M) (n + m) (fun i => if i < n then f i else g (i - n)) := by
  refine ⟨by rw [List.length_append, ← h.len, ← k.len], fun i hi => ?_⟩
  rw [List.getD_eq_getElem?_getD]
  by_cases hl : i < n
  · rw [if_pos hl, h.at_ i hl, List.getElem?_append_left (by rw [← h.len]; exact hl), List.getD_eq_getElem?_getD]
  · rw [if_neg hl, k.at_ (i - n) (by omega), List.getElem?_append_right (by rw [← h.len]; omega), List.getD_eq_getElem?_getD, h.len]
theorem Bs.map {L : List Int} {n : Nat} {f : Nat → Int} (h : Bs L n f) : (List.range n).map f = L := by
  refine List.ext_getElem? (fun i => ?_)
  by_cases hl : i < n
  · have h2 : i < L.length := by rw [← h.len]; exact hl
    rw [List.getElem?_map, List.getElem?_range hl, Option.map_some, h.at_ i hl, List.getD_eq_getElem?_getD, List.getElem?_eq_getElem h2]
    rfl
  · have h2 : L.length ≤ i := by rw [← h.len]; omega
    rw [List.getElem?_eq_none (by simp; omega), List.getElem?_eq_none h2]
theorem bs_self (n : Nat) (f : Nat → Int) : Bs ((List.range n).map f) n f := ⟨by simp, fun i hi => by
  rw [List.getD_eq_getElem?_getD, List.getElem?_map, List.getElem?_range hi]; rfl⟩
def strL (L : List Int) : List UInt8 := L.map fun n => UInt8.ofNat n.toNat
theorem strL_of {L : List Int} {n : Nat} {f : Nat → Int} (h : Bs L n f) : ByteArray.toList (bytesOf n f) = strL L := by
  have key : ∀ (l : List Int) (r : ByteArray), (l.foldl (fun r n => r.push (UInt8.ofNat n.toNat)) r).toList = r.toList ++ strL l := by
    intro l
    induction l with
    | nil => intro r; simp [strL]
    | cons x l ih =>
      intro r
      rw [List.foldl_cons, ih, ByteArray.toList_eq, ByteArray.toList_eq, ByteArray.data_push]
      simp [strL]
  unfold bytesOf
  rw [h.map, key]
  rw [ByteArray.toList_eq]
  simp
def byB (v : Int) (k i : Nat) : Int := IntKind.wrap .u8 (shrInt .i64 v (8 * ((k : Int) - 1 - (i : Int))))
def byL (v : Int) (k i : Nat) : List Int := (List.range i).map (byB v k)
def byF (v : Int) (k n0 : Nat) (f0 : Nat → Int) : Nat → Nat → Int
  | 0 => f0
  | i + 1 => fun j => if j < n0 + i then byF v k n0 f0 i j else ([byB v k i] : List Int).getD (j - (n0 + i)) (dflt .u8)
theorem byF_bs {L : List Int} {n0 : Nat} {f0 : Nat → Int} (h : Bs L n0 f0) (v : Int) (k : Nat) : ∀ i, Bs (L ++ byL v k i) (n0 + i) (byF v k n0 f0 i)
  | 0 => by simpa [byL, byF] using h
  | i + 1 => by
    have := (byF_bs h v k i).app (Bs.of_getD [byB v k i] 1 rfl)
    have e : L ++ byL v k (i + 1) = (L ++ byL v k i) ++ [byB v k i] := by simp [byL, List.range_succ]
    rw [e]
    exact this
theorem wrapU {x : Int} (h0 : 0 ≤ x) (h1 : x ≤ 1000000) : IntKind.wrap .u64 x = x := by
  have : IntKind.wrap .u64 x = x % 18446744073709551616 := by simp [IntKind.wrap, IntKind.bits, IntKind.signed]
  rw [this]; omega
theorem i_put {fu : Nat} (hf : 2000000 ≤ fu) (v : Int) (k : Nat) (hk : k ≤ 4) (n0 : Nat) (hn : n0 ≤ 1000000000) (f0 : Nat → Int) : F_impl_put_G fu n0 v (k : Int) n0 f0 = some (n0 + k, n0 + k, byF v k n0 f0 k) := by
  unfold F_impl_put_G
  refine stepL k (fun i => (n0 + i, (k : Int) - 1 - (i : Int), n0 + i, byF v k n0 f0 i)) (by omega) ?_ (fun i go hi => ?_) (fun go => ?_)
  · rw [wrap64 (by omega) (by omega)]; simp [byF]
  · unfold F_impl_put_G_B0
    have e0 : (k : Int) - 1 - (i : Int) ≥ 0 := by omega
    have e1 : IntKind.wrap .i64 (8 * ((k : Int) - 1 - (i : Int))) = 8 * ((k : Int) - 1 - (i : Int)) := wrap64 (by omega) (by omega)
    have e2 : (0 : Int) ≤ 8 * ((k : Int) - 1 - (i : Int)) := by omega
    have e3 : n0 + i + 1 ≤ 9223372036854775807 := by omega
    have e4 : (n0 + i + 1) * 1 ≤ 140737488355328 := by omega
    have e5 : IntKind.wrap .i64 ((k : Int) - 1 - (i : Int) - 1) = (k : Int) - 1 - ((i + 1 : Nat) : Int) := by rw [wrap64 (by omega) (by omega)]; omega
    simp only [e0, e1, e2, e3, e4, e5, decide_true, cond_true, Bool.and_self, Option.bind_some]
    rfl
  · unfold F_impl_put_G_B0
    have e0 : ¬ ((k : Int) - 1 - (k : Int) ≥ 0) := by omega
    simp only [e0, decide_false, cond_false]
theorem s_Bytes {fu : Nat} (hf : 2000000 ≤ fu) (v : Int) (k : Nat) (hk : k ≤ 4) : F_spec_l1Bytes_H fu v (k : Int) = some ⟨none, k, byF v k 0 (fun _ => dflt .u8) k⟩ := by
  unfold F_spec_l1Bytes_H
  refine stepL k (fun i => (0 + i, (k : Int) - 1 - (i : Int), 0 + i, byF v k 0 (fun _ => dflt .u8) i)) (by omega) ?_ (fun i go hi => ?_) (fun go => ?_)
  · rw [wrap64 (by omega) (by omega)]; simp [byF]
  · unfold F_spec_l1Bytes_H_B0
    have e0 : (k : Int) - 1 - (i : Int) ≥ 0 := by omega
    have e1 : IntKind.wrap .u64 (IntKind.wrap .i64 (8 * ((k : Int) - 1 - (i : Int)))) = 8 * ((k : Int) - 1 - (i : Int)) := by rw [wrap64 (by omega) (by omega), wrapU (by omega) (by omega)]
    have e2 : (0 : Int) ≤ 8 * ((k : Int) - 1 - (i : Int)) := by omega
    have e3 : 0 + i + 1 ≤ 9223372036854775807 := by omega
    have e4 : (0 + i + 1) * 1 ≤ 140737488355328 := by omega
    have e5 : IntKind.wrap .i64 ((k : Int) - 1 - (i : Int) - 1) = (k : Int) - 1 - ((i + 1 : Nat) : Int) := by rw [wrap64 (by omega) (by omega)]; omega
    simp only [e0, e1, e2, e3, e4, e5, decide_true, cond_true, Bool.and_self, Option.bind_some]
    rfl
  · unfold F_spec_l1Bytes_H_B0
    have e0 : ¬ ((k : Int) - 1 - (k : Int) ≥ 0) := by omega
    simp only [e0, decide_false, cond_false, Nat.zero_add]
theorem i_put2 {fu : Nat} (hf : 2000000 ≤ fu) (v : Int) (n0 : Nat) (hn : n0 ≤ 1000000000) (f0 : Nat → Int) : F_impl_put_G fu n0 v 2 n0 f0 = some (n0 + 2, n0 + 2, byF v 2 n0 f0 2) := i_put hf v 2 (by omega) n0 hn f0
theorem i_put4 {fu : Nat} (hf : 2000000 ≤ fu) (v : Int) (n0 : Nat) (hn : n0 ≤ 1000000000) (f0 : Nat → Int) : F_impl_put_G fu n0 v 4 n0 f0 = some (n0 + 4, n0 + 4, byF v 4 n0 f0 4) := i_put hf v 4 (by omega) n0 hn f0
theorem s_Bytes2 {fu : Nat} (hf : 2000000 ≤ fu) (v : Int) : F_spec_l1Bytes_H fu v 2 = some ⟨none, 2, byF v 2 0 (fun _ => dflt .u8) 2⟩ := s_Bytes hf v 2 (by omega)
theorem s_Bytes4 {fu : Nat} (hf : 2000000 ≤ fu) (v : Int) : F_spec_l1Bytes_H fu v 4 = some ⟨none, 4, byF v 4 0 (fun _ => dflt .u8) 4⟩ := s_Bytes hf v 4 (by omega)
theorem bs_Bytes (v : Int) (k : Nat) : Bs (byL v k k) k (byF v k 0 (fun _ => dflt .u8) k) := by
  have := byF_bs (Bs.nil (fun _ => dflt .u8)) v k k
  simpa using this
theorem byL_len (v : Int) (k i : Nat) : (byL v k i).length = i := by simp [byL]
end Go.Proofs.Ytcmfekgdlaffkaa.Pq
