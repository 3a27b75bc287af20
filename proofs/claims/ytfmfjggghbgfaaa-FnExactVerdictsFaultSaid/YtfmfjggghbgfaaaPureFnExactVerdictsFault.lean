/- The pure law of FnExactVerdictsFault: the printed functions of the program and of the reference answer alike, for all arguments. -/
import Derived.Test.YtfmfjggghbgfaaaPFnExactVerdictsFaultx
import Derived.Test.YtfmfjggghbgfaaaTyFnExactVerdictsFault
set_option linter.unusedSimpArgs false
namespace Go.Proofs.Ytfmfjggghbgfaaa.Pure
open Go.RowKit Go.Proofs.Ytfmfjggghbgfaaa.PFnExactVerdictsFault Go.Proofs.YtfmfjggghbgfaaaW.PrintWords

def conv (x : S82) : S80 := ⟨x.f0, x.f1, x.f2, x.f3⟩

theorem set_take {α : Type} (ys : List α) (i : Nat) (v : α) (h : i < ys.length) : (ys.set i v).take (i + 1) = ys.take i ++ [v] := by
  rw [List.take_succ_eq_append_getElem (by simpa using h)]
  simp [List.take_set_of_le]

theorem to_loop (l : List S82) (hl : l.length ≤ 1048576) (d : Nat) : ∀ (k i : Nat) (ys : List S80), i + d = l.length → d < k → ys.length = l.length →
    laws_toVerdictS.l0 k l ys i = some (ys.take i ++ (l.drop i).map conv) := by
  induction d with
  | zero =>
    intro k i ys hi hk hy
    obtain ⟨k, rfl⟩ : ∃ m, k = m + 1 := ⟨k - 1, by omega⟩
    simp only [laws_toVerdictS.l0]
    rw [if_neg (by omega), List.drop_eq_nil_of_le (by omega), List.take_of_length_le (by omega)]
    simp
  | succ d ih =>
    intro k i ys hi hk hy
    obtain ⟨k, rfl⟩ : ∃ m, k = m + 1 := ⟨k - 1, by omega⟩
    have hlt : i < l.length := by omega
    simp only [laws_toVerdictS.l0, laws_toVerdict.f, Option.bind_some]
    rw [if_pos (by omega), if_pos (by omega), if_pos (by omega)]
    have hw : wrap64 ((i : Int) + 1) = ((i + 1 : Nat) : Int) := by unfold wrap64; omega
    rw [hw, ih k (i + 1) _ (by omega) (by omega) (by simpa using hy)]
    have hr : rd_T82 l (i : Int) = l[i] := by simp [rd_T82, hlt]
    rw [hr, Int.toNat_natCast, set_take _ _ _ (by omega), List.drop_eq_getElem_cons hlt, List.map_cons, List.append_assoc, List.singleton_append]
    rfl

theorem to_at (l : List S82) (hl : l.length ≤ 1048576) (k : Nat) (hk : l.length < k) : laws_toVerdictS.f k l = some (l.map conv) := by
  unfold laws_toVerdictS.f
  rw [if_pos (by omega), if_pos (by omega)]
  have := to_loop l hl l.length k 0 (List.replicate (l.length : Int).toNat z80) (by omega) (by omega) (by simp)
  simpa using this

theorem eq_loop (x : List S80) (hl : x.length ≤ 1048576) (d : Nat) : ∀ (k i : Nat), i + d = x.length → d < k → laws_eqVerdictS.l0 k x x i = some true := by
  induction d with
  | zero =>
    intro k i hi hk
    obtain ⟨k, rfl⟩ : ∃ m, k = m + 1 := ⟨k - 1, by omega⟩
    simp only [laws_eqVerdictS.l0]
    rw [if_neg (by omega)]
  | succ d ih =>
    intro k i hi hk
    obtain ⟨k, rfl⟩ : ∃ m, k = m + 1 := ⟨k - 1, by omega⟩
    simp only [laws_eqVerdictS.l0, laws_eqVerdict.f, if_true, Option.bind_some, bne_self_eq_false, Bool.false_eq_true, if_false]
    rw [if_pos (by omega), if_pos (by omega), if_pos (by omega)]
    have hw : wrap64 ((i : Int) + 1) = ((i + 1 : Nat) : Int) := by unfold wrap64; omega
    rw [hw, ih k (i + 1) (by omega) (by omega)]

theorem eq_at (x : List S80) (hl : x.length ≤ 1048576) (k : Nat) (hk : x.length < k) : laws_eqVerdictS.f k x x = some true := by
  unfold laws_eqVerdictS.f
  rw [if_pos rfl]
  exact eq_loop x hl x.length k 0 (by omega) (by omega)

theorem sz_cases (l : List S82) (a : Int) (ha : 0 ≤ a) (ha2 : a ≤ 1048576) (hm : l.length ≤ maxLen) : (∃ r, laws_szVerdictS.f l a = some r ∧ r < 0) ∨ (laws_szVerdictS.f l a = some (a - l.length) ∧ (l.length : Int) ≤ a) := by
  unfold maxLen at hm
  have hw : wrap64 (a - (l.length : Int)) = a - l.length := by unfold wrap64; omega
  unfold laws_szVerdictS.f
  rw [hw]
  by_cases h : a - (l.length : Int) < 0
  · exact .inl ⟨-1, by rw [if_pos h], by omega⟩
  · exact .inr ⟨by rw [if_neg h], by omega⟩

theorem in_some (a b c : Int) : ∃ r, spec_l1In.f a b c = some r ∧ impl_in.f a b c = some r := by
  unfold spec_l1In.f impl_in.f
  by_cases h : a ≥ b
  · exact ⟨_, by rw [if_pos h], by rw [if_pos h]⟩
  · exact ⟨_, by rw [if_neg h], by rw [if_neg h]⟩

theorem same_loop (x : List S80) (hl : x.length ≤ 1048576) (d : Nat) : ∀ (k i : Nat), i + d = x.length → d < k → ∃ r, spec_VerdictsFault.l0 k x i = some r ∧ impl_VerdictsFault.l0 k x x.length i = some r := by
  induction d with
  | zero =>
    intro k i hi hk
    obtain ⟨k, rfl⟩ : ∃ m, k = m + 1 := ⟨k - 1, by omega⟩
    simp only [spec_VerdictsFault.l0, impl_VerdictsFault.l0]
    rw [if_neg (by omega), if_neg (by omega)]
    exact ⟨_, rfl, rfl⟩
  | succ d ih =>
    intro k i hi hk
    obtain ⟨k, rfl⟩ : ∃ m, k = m + 1 := ⟨k - 1, by omega⟩
    have hw : wrap64 ((i : Int) + 1) = ((i + 1 : Nat) : Int) := by unfold wrap64; omega
    obtain ⟨r, hr1, hr2⟩ := ih k (i + 1) (by omega) (by omega)
    simp only [spec_VerdictsFault.l0, impl_VerdictsFault.l0, spec_l3Name.f, impl_isName.f, hw]
    rw [if_pos (by omega), if_pos (by omega), if_pos (by omega), if_pos (by omega), if_pos (by omega)]
    obtain ⟨a, ha1, ha2⟩ := in_some (rd_T80 x i).f0 0 9
    obtain ⟨b, hb1, hb2⟩ := in_some (rd_T80 x i).f1 1 999
    obtain ⟨c, hc1, hc2⟩ := in_some (rd_T80 x i).f3 0 1000000
    rw [ha1, ha2, hb1, hb2, hc1, hc2]
    simp only [Option.bind_some, hr1, hr2]
    cases a <;> cases b <;> cases c <;> simp

theorem same_at (x : List S80) (hl : x.length ≤ 1048576) (k : Nat) (hk : x.length < k) : ∃ r, spec_VerdictsFault.f k x = some r ∧ impl_VerdictsFault.f k x = some r := by
  unfold spec_VerdictsFault.f impl_VerdictsFault.f
  by_cases h : (x.length : Int) > 60
  · exact ⟨_, by rw [if_pos h], by rw [if_pos h]⟩
  · rw [if_neg h, if_neg h]
    exact same_loop x hl x.length k 0 (by omega) hk

theorem FnExactVerdictsFault (l : List S82) (hm : l.length ≤ maxLen) : ∃ k, laws_FnExactVerdictsFault.f k l = some true := by
  refine ⟨l.length + 1, ?_⟩
  unfold laws_FnExactVerdictsFault.f
  rcases sz_cases l 1048576 (by omega) (by omega) hm with ⟨r, h, hr⟩ | ⟨h, hr⟩
  · rw [h]; simp only [Option.bind_some]; rw [if_pos hr]
  · rw [h]; simp only [Option.bind_some]; rw [if_neg (by omega)]
    rw [to_at l (by omega) _ (by omega)]
    simp only [Option.bind_some]
    have hx : (l.map conv).length = l.length := by simp
    generalize l.map conv = x at hx
    obtain ⟨r, h1, h2⟩ := same_at x (by omega) (l.length + 1) (by omega)
    rw [h1, h2, eq_at x (by omega) _ (by omega)]
    simp

end Go.Proofs.Ytfmfjggghbgfaaa.Pure
