/- Plain laws of what FnCodecs draws: a command applied. Conditions: none. -/
import Derived.Test.YtcmfekgdlaffkaaPqPlDrawD
namespace Go.Proofs.Ytcmfekgdlaffkaa.Pq
open Go Go.RowKit Go.Proofs Vm
set_option linter.unusedVariables false
set_option linter.unusedSimpArgs false
set_option maxRecDepth 100000
def ApP (k : Nat) (rf1 : Nat → S_impl_Vip) (y : Yc0) : Prop := (y.1 = 0 → y.2.2.1 ≤ k + 1 ∧ y.2.2.2.1 ≤ k + 1 ∧ ∀ i, i < y.2.2.2.1 → (y.2.2.2.2.2.2.2.2.2.2.2 i).Names.n ≤ k + 1) ∧ y.2.2.2.2.2.2.2.1 = rf1
theorem ap_bad {k : Nat} {rf1 : Nat → S_impl_Vip} {c : Int} (hc : c ≠ 0) {a : Int} {e f} {r1 r2 r3 g1 g2 g3 g4} : Tot (ApP k rf1) (some (c, a, e, f, r1, r2, r3, rf1, g1, g2, g3, g4) : Option Yc0) := tot_some ⟨fun h => absurd h hc, rfl⟩
theorem ap_ok {k : Nat} {rf1 : Nat → S_impl_Vip} {a : Int} {e f : Nat} {r1 r2 r3 g1 g2 g3 g4} (h1 : e ≤ k + 1) (h2 : f ≤ k + 1) (h3 : ∀ i, i < f → (g4 i).Names.n ≤ k + 1) : Tot (ApP k rf1) (some (0, a, e, f, r1, r2, r3, rf1, g1, g2, g3, g4) : Option Yc0) := tot_some ⟨fun _ => ⟨h1, h2, h3⟩, rfl⟩
theorem tot_fin {α : Type} {P : α → Prop} {c : Bool} {x : Option α} (hc : c = true) (hx : Tot P x) : Tot P (bif c then x else none) := by
  subst hc; exact hx
theorem d_i0B0 {ρ : Type} {P : ρ → Prop} {fu : Nat} (hf : 2000000 ≤ fu) {e1 e2 e3 e4 e5 e6 n0 f0 n1 f1 e7 e8 e9 m0 m1 e10 e11 e12 e13 e14 e15 e16 q0 q n2 f2 n3 f3 e17 e18 e19 e20 e21 e22 e23 e24 e25} {K : Int → Option ρ} (hq : q ≤ 1000) (hK : ∀ i : Nat, i ≤ q → Tot P (K (i : Int))) : Tot P (L (fun w0 go0 => F_spec_l5Apply_M_3_i0_B0 fu e1 e2 e3 e4 e5 e6 n0 f0 n1 f1 e7 e8 e9 m0 m1 e10 e11 e12 e13 e14 e15 e16 q0 q n2 f2 n3 f3 e17 e18 e19 e20 e21 e22 e23 e24 e25 K w0 go0) fu (0 : Int)) := by
  refine tot_seek (n := q) (by omega) (fun i go hi hgo => ?_) (fun go => ?_) (by omega)
  · unfold F_spec_l5Apply_M_3_i0_B0 F_spec_l5Behind
    simp only [Int.toNat_natCast, Int.natCast_nonneg, Int.ofNat_lt, hi, decide_true, Bool.and_self, cond_true, Option.bind_some]
    refine tot_bind (Q := fun _ => True) (tot_bind (Q := fun _ => True) ?_ (fun y _ => tot_some trivial)) (fun m _ => tot_bif (fun _ => hgo) (fun _ => hK i (by omega)))
    exact tot_bif (fun _ => tot_some trivial) (fun _ => tot_bif (fun _ => tot_some trivial) (fun _ => tot_some trivial))
  · unfold F_spec_l5Apply_M_3_i0_B0
    simp only [Int.lt_irrefl, decide_false, cond_false, Option.bind_some]
    exact hK q (Nat.le_refl _)
theorem d_i1B0 {ρ : Type} {P : ρ → Prop} {fu : Nat} (hf : 2000000 ≤ fu) {e1 e2 e3 e4 e5 e6 n0 f0 n1 f1 e7 e8 e9 m0 m1 e10 e11 e12 e13 e14 e15 e16 q q1 n2 f2 n3 f3 e17 e18 e19 e20 e21 e22} {K : Int → Option ρ} (hq : q ≤ 1000) (hK : ∀ i : Nat, i ≤ q → Tot P (K (i : Int))) : Tot P (L (fun w0 go0 => F_spec_l5Apply_M_3_i1_B0 fu e1 e2 e3 e4 e5 e6 n0 f0 n1 f1 e7 e8 e9 m0 m1 e10 e11 e12 e13 e14 e15 e16 q q1 n2 f2 n3 f3 e17 e18 e19 e20 e21 e22 K w0 go0) fu (0 : Int)) := by
  refine tot_seek (n := q) (by omega) (fun i go hi hgo => ?_) (fun go => ?_) (by omega)
  · unfold F_spec_l5Apply_M_3_i1_B0
    simp only [Int.toNat_natCast, Int.natCast_nonneg, Int.ofNat_lt, hi, decide_true, Bool.and_self, cond_true, Option.bind_some]
    exact tot_bif (fun _ => hgo) (fun _ => hK i (by omega))
  · unfold F_spec_l5Apply_M_3_i1_B0
    simp only [Int.lt_irrefl, decide_false, cond_false, Option.bind_some]
    exact hK q (Nat.le_refl _)
theorem d_i0B3 {ρ : Type} {P : ρ → Prop} {fu : Nat} (hf : 2000000 ≤ fu) {p : Int} {e1 e2 e3 e4 e5 e6 n0 f0 n1 f1 e7 e8 e9 m0 m1 e10 e11 e12 e13 e14 e15 e16 q1 q n2 f2 n3 g e17 e18 e19 e20 e21 e22} {K : Nat → Nat → (Nat → Int) → Option ρ} (hp : 0 ≤ p) (hq : p.toNat < q) (hN : (g p.toNat).Names.n ≤ 1000) (hK : ∀ t o f, t ≤ (g p.toNat).Names.n → Tot P (K t o f)) : Tot P (L (fun w3 go3 => F_spec_l5Apply_M_3_i0_B3 fu p e1 e2 e3 e4 e5 e6 n0 f0 n1 f1 e7 e8 e9 m0 m1 e10 e11 e12 e13 e14 e15 e16 q1 q n2 f2 n3 g e17 e18 e19 e20 e21 e22 K w3.1 w3.2.1 w3.2.2.1 w3.2.2.2 (fun q0 q1 q2 q3 => go3 (q0, q1, q2, q3))) fu ((0, 0, 0, (fun _ => dflt .i64)) : Nat × Int × Nat × (Nat → Int))) := by
  refine tot_loop (fun m (v : Nat × Int × Nat × (Nat → Int)) => ∃ i : Nat, v.2.1 = (i : Int) ∧ i + m = (g p.toNat).Names.n ∧ v.1 ≤ i) (fun m v go hv hgo => ?_) (fun v go hv => ?_) (g p.toNat).Names.n fu _ (by omega) ⟨0, rfl, by omega, Nat.le_refl 0⟩
  · obtain ⟨t, v2, o, f⟩ := v
    obtain ⟨i, e, hi, ht⟩ := hv
    dsimp only at e ht ⊢
    subst e
    have hi' : i < (g p.toNat).Names.n := by omega
    have a1 : t + 1 ≤ 9223372036854775807 := by omega
    have a2 : (t + 1) * 8 ≤ 140737488355328 := by omega
    have hw : IntKind.wrap .i64 ((i : Int) + 1) = ((i + 1 : Nat) : Int) := by rw [wrap64 (by omega) (by omega)]; rfl
    unfold F_spec_l5Apply_M_3_i0_B3
    simp only [Int.toNat_natCast, Int.natCast_nonneg, Int.ofNat_lt, hi', hp, hq, a1, a2, hw, decide_true, Bool.and_self, cond_true, Option.bind_some]
    exact tot_bif (fun _ => hgo _ ⟨i + 1, rfl, by omega, by dsimp only; omega⟩) (fun _ => hgo _ ⟨i + 1, rfl, by omega, by dsimp only; omega⟩)
  · obtain ⟨t, v2, o, f⟩ := v
    obtain ⟨i, e, hi, ht⟩ := hv
    dsimp only at e ht ⊢
    subst e
    have hi' : ¬ i < (g p.toNat).Names.n := by omega
    unfold F_spec_l5Apply_M_3_i0_B3
    simp only [Int.toNat_natCast, Int.natCast_nonneg, Int.ofNat_lt, hi', hp, hq, decide_true, decide_false, Bool.and_self, cond_true, cond_false, Option.bind_some]
    exact hK _ _ _ (by omega)
theorem d_Apply {fu : Nat} (hf : 2000000 ≤ fu) (ver : Int) {n0 n1 k : Nat} (x : S_impl_Cmd) (rn0 : Nat) (rf0 : Nat → S_impl_Backend) (rn1 : Nat) {rf1 : Nat → S_impl_Vip} (hk : k ≤ 100) (hb : n0 ≤ k) (hv : n1 ≤ k) (hN : ∀ i, i < n1 → (rf1 i).Names.n ≤ k) : Tot (ApP k rf1) (F_spec_l5Apply_M_3 fu ver n0 n1 x rn0 rf0 rn1 rf1) := by
  unfold F_spec_l5Apply_M_3
  refine tot_bif (fun _ => ap_bad (by decide)) (fun _ => ?_)
  refine tot_bind (Q := fun _ => True) (tot_bif (fun _ => tot_some trivial) (fun _ => tot_some trivial)) (fun m _ => ?_)
  refine tot_bif (fun _ => ap_bad (by decide)) (fun _ => ?_)
  rw [d_Copy hf ver rn0 rf0 rn1 (by omega) (by omega) (fun i hi => by have := hN i hi; omega)]
  have hg : ∀ i, i < n1 → (copyM rf1 n1 i).Names.n ≤ k := fun i hi => by
    rw [copyM_at _ _ _ hi]; exact hN i hi
  generalize copyM rf1 n1 = g at hg ⊢
  simp only [Option.bind_some, p_l1In]
  refine tot_bif (fun _ => ?_) (fun _ => ?_)
  · refine tot_bind (d_Find hf _ x (by dsimp only; omega)) (fun p hp => ?_)
    obtain ⟨hp1, hp2⟩ := hp
    dsimp only at hp2
    have chk : 0 ≤ p → ((decide (0 ≤ p) && decide (p.toNat < n1)) = true) := fun h => by simp only [Bool.and_eq_true, decide_eq_true_eq]; omega
    refine tot_bif (fun _ => ?_) (fun _ => ?_)
    · refine tot_bif (fun _ => ap_bad (by decide)) (fun _ => ?_)
      refine tot_bif (fun _ => ap_bad (by decide)) (fun _ => ?_)
      refine d_i0B0 hf (by omega) (fun i hi => ?_)
      simp only [Int.toNat_natCast, Nat.sub_zero]
      refine tot_chk (by simp only [Bool.and_eq_true, decide_eq_true_eq]; omega) ?_
      refine tot_fin (by simp only [Bool.and_eq_true, decide_eq_true_eq]; omega) ?_
      refine tot_fin (by simp only [Bool.and_eq_true, decide_eq_true_eq]; omega) ?_
      refine tot_chk (by simp only [Bool.and_eq_true, decide_eq_true_eq]; omega) ?_
      refine tot_fin (by simp only [Bool.and_eq_true, decide_eq_true_eq]; omega) ?_
      refine ap_ok (by omega) (by omega) (fun j hj => ?_)
      split
      · split
        · have := hg (0 + j) (by omega); omega
        · have : j - i = 0 := by omega
          rw [this]; exact Nat.zero_le _
      · have := hg (i + (j - (i + 1))) (by omega); omega
    · refine tot_bind (Q := fun m => m = false → 0 ≤ p) ?_ (fun m hm => ?_)
      · by_cases hp0 : 0 ≤ p
        · have l : p.toNat < n1 := by omega
          have hh := d_Has hf (g p.toNat).Names x.Name (by have := hg _ l; omega)
          refine tot_bif (fun _ => tot_some (fun _ => hp0)) (fun _ => ?_)
          refine tot_bif (fun _ => ?_) (fun _ => ?_)
          · refine tot_bind (d_At hf _ _ (by dsimp only; omega)) (fun q _ => ?_)
            refine tot_bif (fun _ => tot_some (fun _ => hp0)) (fun _ => ?_)
            exact tot_bif (fun _ => tot_chk (chk hp0) (tot_bind hh (fun _ _ => tot_some (fun _ => hp0)))) (fun _ => tot_some (fun _ => hp0))
          · exact tot_bif (fun _ => tot_chk (chk hp0) (tot_bind hh (fun _ _ => tot_some (fun _ => hp0)))) (fun _ => tot_some (fun _ => hp0))
        · have : p < 0 := by omega
          simp only [this, decide_true, cond_true]
          exact tot_some (fun h => by cases h)
      refine tot_bif (fun _ => ap_bad (by decide)) (fun hmf => ?_)
      have hp0 := hm hmf
      have l : p.toNat < n1 := by omega
      have hl := hg _ l
      have hw : IntKind.wrap .i64 (p + 1) = p + 1 := wrap64 (by omega) (by omega)
      have hw2 : (p + 1).toNat = p.toNat + 1 := by omega
      refine tot_bif (fun _ => ?_) (fun _ => ?_)
      · simp only [hw, hw2, Nat.sub_zero]
        refine tot_chk (by simp only [Bool.and_eq_true, decide_eq_true_eq]; omega) ?_
        refine tot_fin (by simp only [Bool.and_eq_true, decide_eq_true_eq]; omega) ?_
        refine tot_chk (by simp only [Bool.and_eq_true, decide_eq_true_eq]; omega) ?_
        refine tot_fin (by simp only [Bool.and_eq_true, decide_eq_true_eq]; omega) ?_
        refine ap_ok (by omega) (by omega) (fun j hj => ?_)
        split
        · have := hg (0 + j) (by omega); omega
        · have := hg (p.toNat + 1 + (j - p.toNat)) (by omega); omega
      refine tot_bif (fun _ => ?_) (fun _ => ?_)
      · refine tot_chk (chk hp0) (tot_bind (d_Has hf _ _ (by omega)) (fun v _ => ?_))
        refine tot_bif (fun _ => ap_bad (by decide)) (fun _ => ?_)
        refine tot_chk (chk hp0) (tot_bind (d_Rise hf _ _ (by omega)) (fun r hr => ?_))
        refine tot_chk (chk hp0) (ap_ok (by omega) (by omega) (fun j hj => ?_))
        unfold upd_impl_Vip_3_1
        by_cases e : j = p.toNat
        · simp only [e, if_true]; omega
        · simp only [e, if_false]; have := hg j hj; omega
      refine tot_bif (fun _ => ?_) (fun _ => ap_ok (by omega) (by omega) (fun j hj => by have := hg j hj; omega))
      refine d_i0B3 hf hp0 l (by omega) (fun t o f ht => ?_)
      refine tot_chk (chk hp0) (ap_ok (by omega) (by omega) (fun j hj => ?_))
      unfold upd_impl_Vip_3_1
      by_cases e : j = p.toNat
      · simp only [e, if_true]; omega
      · simp only [e, if_false]; have := hg j hj; omega
  · refine tot_bind (d_At hf _ x.Name (by dsimp only; omega)) (fun p hp => ?_)
    obtain ⟨hp1, hp2⟩ := hp
    dsimp only at hp2
    have chk : 0 ≤ p → ((decide (0 ≤ p) && decide (p.toNat < n0)) = true) := fun h => by simp only [Bool.and_eq_true, decide_eq_true_eq]; omega
    have hgk : ∀ j, j < n1 → (g j).Names.n ≤ k + 1 := fun j hj => by have := hg j hj; omega
    refine tot_bif (fun _ => ?_) (fun _ => ?_)
    · refine tot_bif (fun _ => ap_bad (by decide)) (fun _ => ?_)
      refine tot_bif (fun _ => ap_bad (by decide)) (fun _ => ?_)
      refine d_i1B0 hf (by omega) (fun i hi => ?_)
      simp only [Int.toNat_natCast, Nat.sub_zero]
      refine tot_chk (by simp only [Bool.and_eq_true, decide_eq_true_eq]; omega) ?_
      refine tot_fin (by simp only [Bool.and_eq_true, decide_eq_true_eq]; omega) ?_
      refine tot_fin (by simp only [Bool.and_eq_true, decide_eq_true_eq]; omega) ?_
      refine tot_chk (by simp only [Bool.and_eq_true, decide_eq_true_eq]; omega) ?_
      refine tot_fin (by simp only [Bool.and_eq_true, decide_eq_true_eq]; omega) ?_
      exact ap_ok (by omega) (by omega) hgk
    refine tot_bif (fun _ => ap_bad (by decide)) (fun hp0 => ?_)
    have hp0 : 0 ≤ p := by simp only [decide_eq_false_iff_not] at hp0; omega
    have hw : IntKind.wrap .i64 (p + 1) = p + 1 := wrap64 (by omega) (by omega)
    have hw2 : (p + 1).toNat = p.toNat + 1 := by omega
    refine tot_bif (fun _ => tot_chk (chk hp0) (ap_ok (by omega) (by omega) hgk)) (fun _ => ?_)
    refine tot_bif (fun _ => tot_chk (chk hp0) (ap_ok (by omega) (by omega) hgk)) (fun _ => ?_)
    refine tot_bif (fun _ => tot_chk (chk hp0) (ap_ok (by omega) (by omega) hgk)) (fun _ => ?_)
    refine tot_bif (fun _ => tot_chk (chk hp0) ?_) (fun _ => ap_ok (by omega) (by omega) hgk)
    refine tot_bif (fun _ => ap_bad (by decide)) (fun _ => ?_)
    refine tot_bind (d_Serves hf _ _ (by dsimp only; omega) (fun i hi => by have := hg i hi; dsimp only; omega)) (fun v _ => ?_)
    refine tot_bif (fun _ => ap_bad (by decide)) (fun _ => ?_)
    simp only [hw, hw2, Int.toNat_natCast]
    refine tot_chk (by simp only [Bool.and_eq_true, decide_eq_true_eq]; omega) ?_
    refine tot_fin (by simp only [Bool.and_eq_true, decide_eq_true_eq]; omega) ?_
    refine tot_chk (by simp only [Bool.and_eq_true, decide_eq_true_eq]; omega) ?_
    refine tot_fin (by simp only [Bool.and_eq_true, decide_eq_true_eq]; omega) ?_
    exact ap_ok (by omega) (by omega) hgk
end Go.Proofs.Ytcmfekgdlaffkaa.Pq
