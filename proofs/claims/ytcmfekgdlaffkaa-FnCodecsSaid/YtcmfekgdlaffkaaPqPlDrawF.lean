/- Plain laws of what FnCodecs draws: configs, whole. Conditions: none. -/
import Derived.Test.YtcmfekgdlaffkaaPqPlDrawE
namespace Go.Proofs.Ytcmfekgdlaffkaa.Pq
open Go Go.RowKit Go.Proofs Vm
set_option linter.unusedVariables false
set_option linter.unusedSimpArgs false
set_option maxRecDepth 100000
def RtP (b : Sl Int) (y : Yd2) : Prop := y.2.1 ≤ 23 ∧ y.2.2.1 ≤ 23 ∧ (∀ i, i < y.2.2.1 → (y.2.2.2.2.2.2.2.2 i).Names.n ≤ 23) ∧ y.2.2.2.1 = b ∧ 0 ≤ y.2.2.2.2.1 ∧ y.2.2.2.2.1 ≤ 1000
def RtI (b : Sl Int) (m : Nat) (v : Yd3) : Prop := v.1 = (m : Int) ∧ m ≤ 23 ∧ v.2.1 = b ∧ 0 ≤ v.2.2.1 ∧ v.2.2.1 ≤ 1 + 20 * (23 - (m : Int)) ∧ v.2.2.2.2.1 ≤ 23 - m ∧ v.2.2.2.2.2.1 ≤ 23 - m ∧ ∀ i, i < v.2.2.2.2.2.1 → (v.2.2.2.2.2.2.2.2.2 i).Names.n ≤ 23 - m
theorem d_Right {fu : Nat} (hf : 2000000 ≤ fu) {b : Sl Int} (hb : Src b) : Tot (RtP b) (F_spec_l5Right_M fu b 0) := by
  unfold F_spec_l5Right_M
  refine tot_next hb (Int.le_refl 0) (by omega) (fun v p q => ?_)
  have q := q (by omega)
  dsimp only
  refine tot_loop (RtI b) (fun m v go hv hgo => ?_) (fun v go hv => ?_) v.toNat fu _ (by omega) ⟨by dsimp only; omega, by omega, rfl, by dsimp only; omega, by dsimp only; omega, Nat.zero_le _, Nat.zero_le _, fun i hi => absurd hi (Nat.not_lt_zero _)⟩
  · obtain ⟨k4, s, a, ver, n0, n1, on3, of3, on4, of4⟩ := v
    obtain ⟨e1, hm, e2, a0, a1, h0, h1, hN⟩ := hv
    dsimp only at e1 e2 a0 a1 h0 h1 hN ⊢
    subst e1 e2
    have hw : IntKind.wrap .i64 (((m + 1 : Nat) : Int) - 1) = (m : Int) := by rw [wrap64 (by omega) (by omega)]; omega
    unfold F_spec_l5Right_M_B0
    refine tot_bif (fun _ => ?_) (fun hc => by simp only [decide_eq_false_iff_not] at hc; omega)
    refine tot_bind (d_l5Cmd fu hb a0 (by omega)) (fun y hy => ?_)
    obtain ⟨e, k1, k2⟩ := hy
    refine tot_bind (d_Apply hf ver (k := 23 - (m + 1)) _ on3 of3 on4 (by omega) h0 h1 hN) (fun z hz => ?_)
    obtain ⟨hz1, hz2⟩ := hz
    simp only [hw]
    refine tot_bif (fun hc => ?_) (fun hc => ?_)
    · obtain ⟨g1, g2, g3⟩ := hz1 (by simpa using hc)
      exact hgo _ ⟨rfl, by omega, e, by dsimp only; omega, by dsimp only; omega, by dsimp only; omega, by dsimp only; omega, fun i hi => by have := g3 i hi; dsimp only; omega⟩
    · exact hgo _ ⟨rfl, by omega, e, by dsimp only; omega, by dsimp only; omega, by dsimp only; omega, by dsimp only; omega, fun i hi => by have := hN i hi; dsimp only; rw [hz2]; omega⟩
  · obtain ⟨k4, s, a, ver, n0, n1, on3, of3, on4, of4⟩ := v
    obtain ⟨e1, hm, e2, a0, a1, h0, h1, hN⟩ := hv
    dsimp only at e1 e2 a0 a1 h0 h1 hN ⊢
    subst e1 e2
    unfold F_spec_l5Right_M_B0
    refine tot_bif (fun hc => by simp at hc) (fun _ => ?_)
    exact tot_some ⟨h0, h1, hN, rfl, a0, by dsimp only; omega⟩
structure Few (k : Nat) (c : S_impl_Config) : Prop where
  backs : c.Backends.n ≤ k
  vips : c.Vips.n ≤ k
  names : ∀ i, i < c.Vips.n → (c.Vips.f i).Names.n ≤ k
theorem few_len {k : Nat} {c : S_impl_Config} (h : Few k c) (hk : k ≤ 100) : ConfLen c := ⟨by have := h.backs; omega, by have := h.vips; omega, fun i hi => by have := h.names i hi; omega⟩
theorem few_small {k : Nat} {c : S_impl_Config} (h : Few k c) (hk : k ≤ 100) : Small c := by
  have h1 := h.vips
  refine ⟨by have := h.backs; omega, by omega, fun i hi => by have := h.names i hi; omega, ?_⟩
  have h2 := vipsN_le (f := c.Vips.f) (b := k) c.Vips.n 0 (fun j _ hj => h.names j (by omega))
  have h3 : (8 + 2 * k) * c.Vips.n ≤ (8 + 2 * k) * k := Nat.mul_le_mul_left _ h1
  have h4 : (8 + 2 * k) * k ≤ (8 + 2 * k) * 100 := Nat.mul_le_mul_left _ hk
  omega
theorem d_UnpackConfig {fu : Nat} (hf : 2000000 ≤ fu) {b : Sl Int} (hb : Src b) : Tot Rows1 (F_spec_DrawUnpackConfig fu b) := by
  unfold F_spec_DrawUnpackConfig F_spec_l1Source_M
  simp only [Option.bind_some]
  refine tot_bind (d_Right hf hb) (fun y hy => ?_)
  obtain ⟨y1, y2, y3, b', a', y6, y7, y8, y9⟩ := y
  obtain ⟨h0, h1, hN, e, k1, k2⟩ := hy
  dsimp only at h0 h1 hN e k1 k2 ⊢
  subst e
  have hc : Few 23 ⟨y1, ⟨none, y2, y7⟩, ⟨none, y3, y9⟩⟩ := ⟨h0, h1, hN⟩
  obtain ⟨n, f, e, hB⟩ := s_pack hf _ (few_small hc (by omega))
  have hn : n ≤ 1000000 := by
    rw [hB.len, confL_len]
    have h2 := vipsN_le (f := y9) (b := 23) y3 0 (fun j _ hj => hN j (by omega))
    dsimp only; omega
  rw [e]
  exact d_turn fu (hB.byt (confL_byt _)) hn hb k1 (by omega)
def BentP (y : Int × Nat × Nat × Sl Int × Int × Nat × (Nat → S_impl_Backend) × Nat × (Nat → S_impl_Vip)) : Prop := y.2.1 ≤ 24 ∧ y.2.2.1 ≤ 24 ∧ ∀ i, i < y.2.2.1 → (y.2.2.2.2.2.2.2.2 i).Names.n ≤ 24
theorem d_PackConfig {fu : Nat} (hf : 2000000 ≤ fu) {b : Sl Int} (hb : Src b) : Tot (Few 24) (F_spec_DrawPackConfig fu b) := by
  unfold F_spec_DrawPackConfig F_spec_l1Source_M F_spec_l5Bent_M
  simp only [Option.bind_some]
  refine tot_bind (Q := BentP) ?_ (fun y hy => tot_some ⟨hy.1, hy.2.1, hy.2.2⟩)
  refine tot_bind (d_Right hf hb) (fun y hy => ?_)
  obtain ⟨y1, y2, y3, b', a', y6, y7, y8, y9⟩ := y
  obtain ⟨h0, h1, hN, e, k1, k2⟩ := hy
  dsimp only at h0 h1 hN e k1 k2 ⊢
  subst e
  have hM : ∀ i, i < y3 → (y9 i).Names.n ≤ 24 := fun i hi => by have := hN i hi; omega
  refine tot_next hb (by omega) (by omega) (fun v _ _ => ?_)
  dsimp only
  refine tot_bif (fun _ => ?_) (fun _ => ?_)
  · refine tot_pick (Nat.le_of_ble_eq_true rfl) hb (by omega) (by omega) (fun i _ => ?_)
    exact tot_some ⟨by dsimp only; omega, by dsimp only; omega, hM⟩
  refine tot_bif (fun _ => ?_) (fun _ => ?_)
  · refine tot_pick (Nat.le_of_ble_eq_true rfl) hb (by omega) (by omega) (fun i _ => ?_)
    dsimp only
    refine tot_pick (Nat.le_of_ble_eq_true rfl) hb (by omega) (by omega) (fun i _ => ?_)
    dsimp only
    refine tot_next hb (by omega) (by omega) (fun v _ _ => ?_)
    refine tot_fin (by simp only [Bool.and_eq_true, decide_eq_true_eq]; omega) ?_
    exact tot_some ⟨by dsimp only; omega, by dsimp only; omega, hM⟩
  refine tot_bif (fun _ => ?_) (fun _ => ?_)
  · refine tot_pick (Nat.le_of_ble_eq_true rfl) hb (by omega) (by omega) (fun i _ => ?_)
    dsimp only
    refine tot_pick (Nat.le_of_ble_eq_true rfl) hb (by omega) (by omega) (fun i _ => ?_)
    dsimp only
    refine tot_pick (Nat.le_of_ble_eq_true rfl) hb (by omega) (by omega) (fun i _ => ?_)
    dsimp only
    refine tot_next hb (by omega) (by omega) (fun v _ _ => ?_)
    refine tot_fin (by simp only [Bool.and_eq_true, decide_eq_true_eq]; omega) ?_
    refine tot_some ⟨by dsimp only; omega, by dsimp only; omega, fun j hj => ?_⟩
    dsimp only at hj ⊢
    split
    · next h => exact hM j h
    · have : j - y3 = 0 := by omega
      rw [this]; exact Nat.le_of_ble_eq_true rfl
  refine tot_bif (fun _ => ?_) (fun _ => ?_)
  · exact tot_some ⟨by dsimp only; omega, by dsimp only; omega, hM⟩
  · exact tot_some ⟨by dsimp only; omega, by dsimp only; omega, hM⟩
end Go.Proofs.Ytcmfekgdlaffkaa.Pq
