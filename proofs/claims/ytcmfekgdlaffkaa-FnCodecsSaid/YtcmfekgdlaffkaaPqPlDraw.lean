/- Plain laws of what is drawn from bytes: each draw ends, and within its bounds. Conditions: none. -/
import Derived.Test.YtcmfekgdlaffkaaPqF7
import Derived.Test.YtcmfekgdlaffkaaVmP
namespace Go.Proofs.Ytcmfekgdlaffkaa.Pq
open Go Go.RowKit Go.Proofs Vm
set_option linter.unusedVariables false
set_option linter.unusedSimpArgs false
set_option maxRecDepth 100000
def Src (b : Sl Int) : Prop := b.n ≤ 1048576 ∧ ∀ i, i < b.n → 0 ≤ b.f i ∧ b.f i ≤ 255
theorem fit_u8 {n : Int} (h : (Lit.int .u8 n).wf = true) : 0 ≤ n ∧ n ≤ 255 := by
  simp [Lit.wf, IntKind.min, IntKind.max, IntKind.bits, IntKind.signed] at h
  exact ⟨by omega, by omega⟩
theorem src_of {x : Sl Int} (w : W_sl_u8 x) (h : x.n ≤ 1048576) : Src x := ⟨h, fun i hi => fit_u8 (w.2 i hi)⟩
theorem d_Next (fu : Nat) {b : Sl Int} {a : Int} (n : Int) (hb : Src b) (h0 : 0 ≤ a) (h1 : a ≤ 1000000000) : ∃ v, F_spec_l1Next_M fu n b a = some (v, b, a + 1) ∧ 0 ≤ v ∧ (1 ≤ n → v < n) ∧ (n < 1 → v = 0) := by
  unfold F_spec_l1Next_M
  have e1 : IntKind.wrap .i64 (a + 1) = a + 1 := wrap64 (by omega) (by omega)
  have e2 : IntKind.wrap .i64 (a + 1 - 1) = a := by rw [wrap64 (by omega) (by omega)]; omega
  simp only [e1, e2]
  by_cases hn : n < 1
  · simp only [hn, decide_true, cond_true]
    exact ⟨0, rfl, Int.le_refl 0, fun h => by omega, fun _ => rfl⟩
  have hn0 : ¬ n = 0 := by omega
  simp only [hn, hn0, decide_false, cond_false, Bool.not_false, cond_true, Option.bind_some]
  have fin : ∀ X : Int, 0 ≤ X → ∃ v, some (Int.tmod X n, b, a + 1) = some (v, b, a + 1) ∧ 0 ≤ v ∧ (1 ≤ n → v < n) ∧ (False → v = 0) := fun X hX => ⟨_, rfl, Int.tmod_nonneg n hX, fun h => Int.tmod_lt_of_pos X (by omega), fun h => h.elim⟩
  by_cases hk : b.n = 0
  · simp only [hk, Int.natCast_zero, Int.ofNat_zero, beq_self_eq_true, cond_true]
    rw [wrap64 (by omega) (by omega)]
    exact fin _ (by omega)
  · have hkk : (0 : Int) < (b.n : Int) := by omega
    have hk0 : ¬ ((b.n : Int) = 0) := by omega
    have hkb : (((b.n : Nat) : Int) == 0) = false := by simpa using hk0
    have at' : ∀ x : Int, 0 ≤ x → 0 ≤ Int.tmod x (b.n : Int) ∧ (Int.tmod x (b.n : Int)).toNat < b.n := fun x hx => by
      have := Int.tmod_nonneg (b.n : Int) hx
      have := Int.tmod_lt_of_pos x hkk
      omega
    obtain ⟨i1, i2⟩ := at' a h0
    obtain ⟨j1, j2⟩ := at' (a + 1) (by omega)
    obtain ⟨p1, p2⟩ := hb.2 _ i2
    obtain ⟨q1, q2⟩ := hb.2 _ j2
    have d0 := Int.tdiv_nonneg h0 (Int.le_of_lt hkk)
    have d1 := Int.tdiv_le_self (a := a) (b.n : Int) h0
    simp only [hkb, hk0, i1, i2, decide_true, decide_false, Bool.not_false, cond_true, cond_false, Option.bind_some, Bool.and_self, e1]
    generalize b.f (Int.tmod a (b.n : Int)).toNat = p at p1 p2 ⊢
    simp only [j1, j2, decide_true, Bool.and_self, cond_true, Option.bind_some]
    generalize b.f (Int.tmod (a + 1) (b.n : Int)).toNat = q at q1 q2 ⊢
    generalize Int.tdiv a (b.n : Int) = d at d0 d1 ⊢
    rw [wrap64 (x := p) (by omega) (by omega), wrap64 (x := q) (by omega) (by omega), wrap64 (x := d) (by omega) (by omega), wrap64 (x := d * 37) (by omega) (by omega), wrap64 (x := p + d * 37) (by omega) (by omega)]
    by_cases hn2 : n > 200
    · simp only [hn2, decide_true, cond_true]
      rw [wrap64 (x := (p + d * 37) * 251) (by omega) (by omega), wrap64 (x := q * 13) (by omega) (by omega), wrap64 (x := (p + d * 37) * 251 + q * 13) (by omega) (by omega), wrap64 (x := (p + d * 37) * 251 + q * 13 + a) (by omega) (by omega)]
      exact fin _ (by omega)
    · simp only [hn2, decide_false, cond_false]
      exact fin _ (by omega)
theorem d_Chance (fu : Nat) {b : Sl Int} {a : Int} (n : Int) (hb : Src b) (h0 : 0 ≤ a) (h1 : a ≤ 1000000000) : ∃ c, F_spec_l1Chance_M fu n b a = some (c, b, a + 1) := by
  unfold F_spec_l1Chance_M
  obtain ⟨v, e, _⟩ := d_Next fu n hb h0 h1
  rw [e]
  exact ⟨_, rfl⟩
theorem d_Pick (fu : Nat) {b l : Sl Int} {a : Int} (hl : 1 ≤ l.n) (hb : Src b) (h0 : 0 ≤ a) (h1 : a ≤ 1000000000) : ∃ i, i < l.n ∧ F_spec_l1Pick_M fu l b a = some (l.f i, b, a + 1) := by
  unfold F_spec_l1Pick_M
  obtain ⟨v, e, v0, v1, _⟩ := d_Next fu (l.n : Int) hb h0 h1
  have v1 := v1 (by omega)
  have e1 : v.toNat < l.n := by omega
  rw [e]
  refine ⟨v.toNat, e1, ?_⟩
  simp only [Option.bind_some, v0, e1, decide_true, Bool.and_self, cond_true]
end Go.Proofs.Ytcmfekgdlaffkaa.Pq
