/- The pure law of FnExactSameEntries: the printed functions of the program and of the reference answer alike, for all arguments. -/
import Derived.Test.YtfmfjggghbgfaaaPFnExactSameEntriesx
import Derived.Test.YtfmfjggghbgfaaaTyFnExactSameEntries
set_option linter.unusedSimpArgs false
namespace Go.Proofs.Ytfmfjggghbgfaaa.Pure
open Go.RowKit Go.Proofs.Ytfmfjggghbgfaaa.PFnExactSameEntries Go.Proofs.YtfmfjggghbgfaaaW.PrintWords

def conv (x : S62) : S45 := ⟨x.f0, x.f1, x.f2, ⟨x.f3.f0, x.f3.f1, x.f3.f2, x.f3.f3, x.f3.f4, x.f3.f5⟩⟩

theorem set_take {α : Type} (ys : List α) (i : Nat) (v : α) (h : i < ys.length) : (ys.set i v).take (i + 1) = ys.take i ++ [v] := by
  rw [List.take_succ_eq_append_getElem (by simpa using h)]
  simp [List.take_set_of_le]

theorem to_loop (l : List S62) (hl : l.length ≤ 1048576) (d : Nat) : ∀ (k i : Nat) (ys : List S45), i + d = l.length → d < k → ys.length = l.length →
    laws_toEntryS.l0 k l ys i = some (ys.take i ++ (l.drop i).map conv) := by
  induction d with
  | zero =>
    intro k i ys hi hk hy
    obtain ⟨k, rfl⟩ : ∃ m, k = m + 1 := ⟨k - 1, by omega⟩
    simp only [laws_toEntryS.l0]
    rw [if_neg (by omega), List.drop_eq_nil_of_le (by omega), List.take_of_length_le (by omega)]
    simp
  | succ d ih =>
    intro k i ys hi hk hy
    obtain ⟨k, rfl⟩ : ∃ m, k = m + 1 := ⟨k - 1, by omega⟩
    have hlt : i < l.length := by omega
    simp only [laws_toEntryS.l0, laws_toEntry.f, laws_toCmd.f, Option.bind_some]
    rw [if_pos (by omega), if_pos (by omega), if_pos (by omega)]
    have hw : wrap64 ((i : Int) + 1) = ((i + 1 : Nat) : Int) := by unfold wrap64; omega
    rw [hw, ih k (i + 1) _ (by omega) (by omega) (by simpa using hy)]
    have hr : rd_T62 l (i : Int) = l[i] := by simp [rd_T62, hlt]
    rw [hr, Int.toNat_natCast, set_take _ _ _ (by omega), List.drop_eq_getElem_cons hlt, List.map_cons, List.append_assoc, List.singleton_append]
    rfl

theorem to_at (l : List S62) (hl : l.length ≤ 1048576) (k : Nat) (hk : l.length < k) : laws_toEntryS.f k l = some (l.map conv) := by
  unfold laws_toEntryS.f
  rw [if_pos (by omega), if_pos (by omega)]
  have := to_loop l hl l.length k 0 (List.replicate (l.length : Int).toNat z45) (by omega) (by omega) (by simp)
  simpa using this

theorem eq_loop (x : List S45) (hl : x.length ≤ 1048576) (d : Nat) : ∀ (k i : Nat), i + d = x.length → d < k → laws_eqEntryS.l0 k x x i = some true := by
  induction d with
  | zero =>
    intro k i hi hk
    obtain ⟨k, rfl⟩ : ∃ m, k = m + 1 := ⟨k - 1, by omega⟩
    simp only [laws_eqEntryS.l0]
    rw [if_neg (by omega)]
  | succ d ih =>
    intro k i hi hk
    obtain ⟨k, rfl⟩ : ∃ m, k = m + 1 := ⟨k - 1, by omega⟩
    simp only [laws_eqEntryS.l0, laws_eqEntry.f, laws_eqCmd.f, if_true, Option.bind_some, bne_self_eq_false, Bool.false_eq_true, if_false]
    rw [if_pos (by omega), if_pos (by omega), if_pos (by omega)]
    have hw : wrap64 ((i : Int) + 1) = ((i + 1 : Nat) : Int) := by unfold wrap64; omega
    rw [hw, ih k (i + 1) (by omega) (by omega)]

theorem eq_at (x : List S45) (hl : x.length ≤ 1048576) (k : Nat) (hk : x.length < k) : laws_eqEntryS.f k x x = some true := by
  unfold laws_eqEntryS.f
  rw [if_pos rfl]
  exact eq_loop x hl x.length k 0 (by omega) (by omega)

theorem sz_cases (l : List S62) (a : Int) (ha : 0 ≤ a) (ha2 : a ≤ 1048576) (hm : l.length ≤ maxLen) : (∃ r, laws_szEntryS.f l a = some r ∧ r < 0) ∨ (laws_szEntryS.f l a = some (a - l.length) ∧ (l.length : Int) ≤ a) := by
  unfold maxLen at hm
  have hw : wrap64 (a - (l.length : Int)) = a - l.length := by unfold wrap64; omega
  unfold laws_szEntryS.f
  rw [hw]
  by_cases h : a - (l.length : Int) < 0
  · exact .inl ⟨-1, by rw [if_pos h], by omega⟩
  · exact .inr ⟨by rw [if_neg h], by omega⟩

theorem same_loop (a b : List S45) (ha : a.length ≤ 1048576) (hab : a.length = b.length) (d : Nat) : ∀ (k i : Nat), i + d = a.length → d < k →
    ∃ (r : Int) (q : Bool), spec_CommonOf.l0 k a b i = some r ∧ impl_Entry.l0 k a b a.length i = some q ∧ q = (r == (a.length : Int)) := by
  induction d with
  | zero =>
    intro k i hi hk
    obtain ⟨k, rfl⟩ : ∃ m, k = m + 1 := ⟨k - 1, by omega⟩
    simp only [spec_CommonOf.l0, impl_Entry.l0]
    rw [if_neg (by omega), if_neg (by omega)]
    exact ⟨_, _, rfl, rfl, by simp; omega⟩
  | succ d ih =>
    intro k i hi hk
    obtain ⟨k, rfl⟩ : ∃ m, k = m + 1 := ⟨k - 1, by omega⟩
    have hw : wrap64 ((i : Int) + 1) = ((i + 1 : Nat) : Int) := by unfold wrap64; omega
    obtain ⟨r, q, hr, hq, e⟩ := ih k (i + 1) (by omega) (by omega)
    simp only [spec_CommonOf.l0, impl_Entry.l0, hw, hr, hq]
    have h1 : (i : Int) < a.length := by omega
    have h2 : (i : Int) < b.length := by omega
    have h3 : 0 ≤ (i : Int) := by omega
    simp only [if_pos h1, if_pos h2, if_pos h3]
    generalize ((rd_T45 a (i : Int)).f0 == (rd_T45 b (i : Int)).f0) = e0
    generalize ((rd_T45 a (i : Int)).f1 == (rd_T45 b (i : Int)).f1) = e1
    generalize ((rd_T45 a (i : Int)).f2 == (rd_T45 b (i : Int)).f2) = e2
    generalize ((rd_T45 a (i : Int)).f3.f0 == (rd_T45 b (i : Int)).f3.f0) = e3
    generalize ((rd_T45 a (i : Int)).f3.f1 == (rd_T45 b (i : Int)).f3.f1) = e4
    generalize ((rd_T45 a (i : Int)).f3.f2 == (rd_T45 b (i : Int)).f3.f2) = e5
    generalize ((rd_T45 a (i : Int)).f3.f3 == (rd_T45 b (i : Int)).f3.f3) = e6
    generalize ((rd_T45 a (i : Int)).f3.f4 == (rd_T45 b (i : Int)).f3.f4) = e7
    generalize ((rd_T45 a (i : Int)).f3.f5 == (rd_T45 b (i : Int)).f3.f5) = e8
    have hn : (!e0 || (!e1 || (!e2 || (!e3 || (!e4 || (!e5 || (!e6 || (!e7 || (!e8))))))))) = !(e0 && (e1 && (e2 && (e3 && (e4 && (e5 && (e6 && (e7 && (e8))))))))) := by simp only [Bool.not_and]
    rw [hn]
    cases hE : (e0 && (e1 && (e2 && (e3 && (e4 && (e5 && (e6 && (e7 && (e8))))))))) with
    | true => exact ⟨r, q, by simp, by simp, e⟩
    | false => exact ⟨i, false, by simp, by simp, by rw [eq_comm, beq_eq_false_iff_ne]; omega⟩

theorem same_at (a b : List S45) (ha : a.length ≤ 1048576) (k : Nat) (hk : a.length < k) : ∃ q, spec_SameEntries.f k a b = some q ∧ impl_SameEntries.f k a b = some q := by
  unfold spec_SameEntries.f impl_SameEntries.f impl_Entry.f spec_CommonOf.f
  by_cases h : (a.length : Int) = (b.length : Int)
  · rw [if_pos h, if_pos h]
    obtain ⟨r, q, hr, hq, e⟩ := same_loop a b ha (by omega) a.length k 0 (by omega) hk
    have hr' : spec_CommonOf.l0 k a b 0 = some r := hr
    have hq' : impl_Entry.l0 k a b a.length 0 = some q := hq
    rw [hr', hq', e]
    exact ⟨_, rfl, rfl⟩
  · rw [if_neg h, if_neg h]
    exact ⟨false, rfl, rfl⟩

theorem FnExactSameEntries (l m : List S62) (hl : l.length ≤ maxLen) (hm : m.length ≤ maxLen) : ∃ k, laws_FnExactSameEntries.f k l m = some true := by
  refine ⟨l.length + m.length + 1, ?_⟩
  unfold laws_FnExactSameEntries.f
  rcases sz_cases l 1048576 (by omega) (by omega) hl with ⟨r, h, hr⟩ | ⟨h, hr⟩
  · rw [h]; simp only [Option.bind_some]; rw [if_pos hr]
  · rw [h]; simp only [Option.bind_some]; rw [if_neg (by omega)]
    rcases sz_cases m (1048576 - l.length) (by omega) (by omega) hm with ⟨r, h, hr⟩ | ⟨h, hr⟩
    · rw [h]; simp only [Option.bind_some]; rw [if_pos hr]
    · rw [h]; simp only [Option.bind_some]; rw [if_neg (by omega)]
      rw [to_at l (by omega) _ (by omega), to_at m (by omega) _ (by omega)]
      simp only [Option.bind_some]
      have hx : (l.map conv).length = l.length := by simp
      have hy : (m.map conv).length = m.length := by simp
      generalize l.map conv = x at hx
      generalize m.map conv = y at hy
      obtain ⟨q, h1, h2⟩ := same_at x y (by omega) (l.length + m.length + 1) (by omega)
      rw [h1, h2, eq_at x (by omega) _ (by omega), eq_at y (by omega) _ (by omega)]
      simp

end Go.Proofs.Ytfmfjggghbgfaaa.Pure
