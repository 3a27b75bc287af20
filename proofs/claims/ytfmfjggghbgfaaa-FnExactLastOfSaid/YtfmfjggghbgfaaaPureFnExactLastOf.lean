/- The pure law of FnExactLastOf: the printed functions of the program and of the reference answer alike, for all arguments. -/
import Derived.Test.YtfmfjggghbgfaaaPFnExactLastOfx
import Derived.Test.YtfmfjggghbgfaaaTyFnExactLastOf
set_option linter.unusedSimpArgs false
namespace Go.Proofs.Ytfmfjggghbgfaaa.Pure
open Go.RowKit Go.Proofs.Ytfmfjggghbgfaaa.PFnExactLastOf Go.Proofs.YtfmfjggghbgfaaaW.PrintWords

def conv (x : S62) : S45 := ⟨x.f0, x.f1, x.f2, ⟨x.f3.f0, x.f3.f1, x.f3.f2, x.f3.f3, x.f3.f4, x.f3.f5⟩⟩

theorem set_take {α : Type} (ys : List α) (i : Nat) (v : α) (h : i < ys.length) : (ys.set i v).take (i + 1) = ys.take i ++ [v] := by
  rw [List.take_succ_eq_append_getElem (by simpa using h)]
  simp [List.take_set_of_le]

theorem to_loop (l : List S62) (hl : l.length ≤ 1048576) (d : Nat) : ∀ (k i : Nat) (ys : List S45), i + d = l.length → d < k → ys.length = l.length →
    laws_toEntryS.l0 k l ys i = some (ys.take i ++ (l.drop i).map conv) := by
  induction d with
  | zero =>
    intro k i ys hi hk hy
    obtain ⟨k, rfl⟩ : ∃ m, k = m + 1 := ⟨k - 1, by omega⟩
    simp only [laws_toEntryS.l0]
    rw [if_neg (by omega), List.drop_eq_nil_of_le (by omega), List.take_of_length_le (by omega)]
    simp
  | succ d ih =>
    intro k i ys hi hk hy
    obtain ⟨k, rfl⟩ : ∃ m, k = m + 1 := ⟨k - 1, by omega⟩
    have hlt : i < l.length := by omega
    simp only [laws_toEntryS.l0, laws_toEntry.f, laws_toCmd.f, Option.bind_some]
    rw [if_pos (by omega), if_pos (by omega), if_pos (by omega)]
    have hw : wrap64 ((i : Int) + 1) = ((i + 1 : Nat) : Int) := by unfold wrap64; omega
    rw [hw, ih k (i + 1) _ (by omega) (by omega) (by simpa using hy)]
    have hr : rd_T62 l (i : Int) = l[i] := by simp [rd_T62, hlt]
    rw [hr, Int.toNat_natCast, set_take _ _ _ (by omega), List.drop_eq_getElem_cons hlt, List.map_cons, List.append_assoc, List.singleton_append]
    rfl

theorem to_all (l : List S62) (hl : l.length ≤ 1048576) : laws_toEntryS.f (l.length + 1) l = some (l.map conv) := by
  unfold laws_toEntryS.f
  rw [if_pos (by omega), if_pos (by omega)]
  have := to_loop l hl l.length (l.length + 1) 0 (List.replicate (l.length : Int).toNat z45) (by omega) (by omega) (by simp)
  simpa using this

theorem eq_loop (x : List S45) (hl : x.length ≤ 1048576) (d : Nat) : ∀ (k i : Nat), i + d = x.length → d < k → laws_eqEntryS.l0 k x x i = some true := by
  induction d with
  | zero =>
    intro k i hi hk
    obtain ⟨k, rfl⟩ : ∃ m, k = m + 1 := ⟨k - 1, by omega⟩
    simp only [laws_eqEntryS.l0]
    rw [if_neg (by omega)]
  | succ d ih =>
    intro k i hi hk
    obtain ⟨k, rfl⟩ : ∃ m, k = m + 1 := ⟨k - 1, by omega⟩
    simp only [laws_eqEntryS.l0, laws_eqEntry.f, laws_eqCmd.f, if_true, Option.bind_some]
    rw [if_pos (by omega), if_pos (by omega), if_pos (by omega)]
    have hw : wrap64 ((i : Int) + 1) = ((i + 1 : Nat) : Int) := by unfold wrap64; omega
    rw [hw, ih k (i + 1) (by omega) (by omega)]

theorem eq_all (x : List S45) (hl : x.length ≤ 1048576) : laws_eqEntryS.f (x.length + 1) x x = some true := by
  unfold laws_eqEntryS.f
  rw [if_pos rfl]
  exact eq_loop x hl x.length (x.length + 1) 0 (by omega) (by omega)

theorem sz_cases (l : List S62) (a : Int) (ha : 0 ≤ a) (ha2 : a ≤ 1048576) (hm : l.length ≤ maxLen) : (∃ r, laws_szEntryS.f l a = some r ∧ r < 0) ∨ (laws_szEntryS.f l a = some (a - l.length) ∧ (l.length : Int) ≤ a) := by
  unfold maxLen at hm
  have hw : wrap64 (a - (l.length : Int)) = a - l.length := by unfold wrap64; omega
  unfold laws_szEntryS.f
  rw [hw]
  by_cases h : a - (l.length : Int) < 0
  · exact .inl ⟨-1, by rw [if_pos h], by omega⟩
  · exact .inr ⟨by rw [if_neg h], by omega⟩

theorem FnExactLastOf (l : List S62) (hm : l.length ≤ maxLen) : ∃ k, laws_FnExactLastOf.f k l = some true := by
  refine ⟨l.length + 1, ?_⟩
  unfold laws_FnExactLastOf.f
  rcases sz_cases l 1048576 (by omega) (by omega) hm with ⟨r, h, hr⟩ | ⟨h, hr⟩
  · rw [h]; simp only [Option.bind_some]; rw [if_pos hr]
  · rw [h]; simp only [Option.bind_some]; rw [if_neg (by omega)]
    have ht := to_all l (by omega)
    have he : laws_eqEntryS.f (l.length + 1) (l.map conv) (l.map conv) = some true := by
      have := eq_all (l.map conv) (by simpa using (by omega : l.length ≤ 1048576))
      simpa using this
    rw [ht]
    simp only [Option.bind_some]
    have hx : (l.map conv).length ≤ 1048576 := by simpa using (by omega : l.length ≤ 1048576)
    generalize l.map conv = x at he hx
    unfold impl_LastOf.f
    have hsame : spec_LastOf.f x = impl_last.f x := rfl
    have hs : ∃ v, impl_last.f x = some v := by
      unfold impl_last.f
      by_cases h0 : (x.length : Int) = 0
      · exact ⟨_, by rw [if_pos h0]⟩
      · have hw : wrap64 ((x.length : Int) - 1) = x.length - 1 := by unfold wrap64; omega
        rw [if_neg h0, hw, if_pos (by omega), if_pos (by omega)]
        exact ⟨_, rfl⟩
    obtain ⟨v, hv⟩ := hs
    rw [hsame, hv]
    simp only [Option.bind_some, laws_eqEntry.f, laws_eqCmd.f, if_true, he]

end Go.Proofs.Ytfmfjggghbgfaaa.Pure
