/- The law of one probe. Conditions: none. -/
import Derived.Test.YtokpamekcpbkaaaPcPlHealth
import Derived.Test.YtokpamekcpbkaaaPcPlDraw
namespace Go.Proofs.Ytokpamekcpbkaaa.Pc
open Go Go.RowKit Go.Proofs Vm
set_option linter.unusedVariables false
set_option linter.unusedSimpArgs false
set_option maxRecDepth 100000

theorem d_Health (fu : Nat) {b : Sl Int} {a : Int} (hb : Src b) (h0 : 0 ≤ a) (h1 : a ≤ 100000000) : ∃ n u r a', F_spec_l12Health_M fu b a = some (n, u, r, b, a') ∧ 0 ≤ a' ∧ a' ≤ a + 10 := by
  unfold F_spec_l12Health_M F_spec_l12Bound
  obtain ⟨v1, e1, _⟩ := d_Next fu 5 hb h0 (by omega)
  obtain ⟨c2, e2⟩ := d_Chance fu (a := a + 1) 2 hb (by omega) (by omega)
  have e3 : ∀ k, ∃ v, F_spec_l1Next_M fu k b (a + 1 + 1) = some (v, b, a + 1 + 1 + 1) := fun k => by
    obtain ⟨v, e, _⟩ := d_Next fu (a := a + 1 + 1) k hb (by omega) (by omega)
    exact ⟨v, e⟩
  obtain ⟨v4, e4, _⟩ := d_Next fu (a := a + 1 + 1 + 1) 14 hb (by omega) (by omega)
  obtain ⟨i5, _, e5⟩ := d_Pick fu (l := ⟨some false, 2, fun i => [0, 1000].getD i (dflt .i64)⟩) (a := a + 1 + 1 + 1 + 1) (by decide) hb (by omega) (by omega)
  obtain ⟨i6, _, e6⟩ := d_Pick fu (l := ⟨some false, 3, fun i => [(-1), 2, 3].getD i (dflt .i64)⟩) (a := a + 1 + 1 + 1 + 1) (by decide) hb (by omega) (by omega)
  simp only [e1, e2, Option.bind_some]
  cases c2 <;> simp only [cond_true, cond_false, Option.bind_some]
  · obtain ⟨v3, e3⟩ := e3 2
    simp only [e3, e4, Option.bind_some]
    cases (v4 == 0) <;> simp only [cond_true, cond_false]
    · cases (v4 == 1) <;> simp only [cond_true, cond_false]
      · exact ⟨_, _, _, _, rfl, by omega, by omega⟩
      · simp only [e6, Option.bind_some]
        exact ⟨_, _, _, _, rfl, by omega, by omega⟩
    · simp only [e5, Option.bind_some]
      exact ⟨_, _, _, _, rfl, by omega, by omega⟩
  · obtain ⟨v3, e3⟩ := e3 3
    simp only [e3, e4, Option.bind_some]
    cases (v4 == 0) <;> simp only [cond_true, cond_false]
    · cases (v4 == 1) <;> simp only [cond_true, cond_false]
      · exact ⟨_, _, _, _, rfl, by omega, by omega⟩
      · simp only [e6, Option.bind_some]
        exact ⟨_, _, _, _, rfl, by omega, by omega⟩
    · simp only [e5, Option.bind_some]
      exact ⟨_, _, _, _, rfl, by omega, by omega⟩

theorem d_DrawProbeHealth (fu : Nat) {b : Sl Int} (hb : Src b) : ∃ h ok, F_spec_DrawProbeHealth fu b = some (h, ok) := by
  unfold F_spec_DrawProbeHealth F_spec_l1Source_M
  obtain ⟨n, u, r, a', e, h0, h1⟩ := d_Health fu hb (Int.le_refl 0) (by decide)
  obtain ⟨c, e2⟩ := d_Chance fu (a := a') 2 hb h0 (by omega)
  simp only [Option.bind_some, e, e2]
  exact ⟨_, _, rfl⟩

theorem runs3 {σ : Type} (f : Nat → σ → Sum Unit σ) (g : σ → σ) (hf : ∀ i s, i < 3 → f i s = .inr (g s)) (s : σ) : run f 3 0 s = .inr (g (g (g s))) := by
  simp only [run, hf _ _ (by decide : 0 < 3), hf _ _ (by decide : 0 + 1 < 3), hf _ _ (by decide : 0 + 1 + 1 < 3)]

theorem plain_FnHealths (x : Sl Int) (w : W_sl_u8 x) : F_laws_FnHealths plainFuel x = some true := by
  unfold F_laws_FnHealths F_laws_lwBig
  simp only [Option.bind_some]
  by_cases hx : ((x.n : Int) > 1048576)
  · simp only [hx, decide_true, cond_true]
  simp only [hx, decide_false, cond_false]
  obtain ⟨h, ok, e⟩ := d_DrawProbeHealth plainFuel (src_of w (by omega))
  rw [e]
  simp only [Option.bind_some, s_ProbeHealth, i_ProbeHealth, i_HealthFault, i_ProbeMany pf _ (⟨some false, 3, fun i => [ok, ok, ok].getD i (dflt .bo)⟩ : Sl Bool) (Nat.le_of_ble_eq_true rfl)]
  cases hh : (healthf h != 0) with
  | true =>
    have e1 : probeh h ok = ⟨healthf h, false, ⟨0, false, 0⟩⟩ := by unfold probeh; rw [hh]; rfl
    rw [e1]
    simp only [hh, cond_true, beq_self_eq_true]
  | false =>
    have hg := healthf_good hh
    have hn : rng h.Name 1 999 = true := by
      unfold healthf at hh
      cases hr : rng h.Name 1 999 with
      | false => rw [hr] at hh; simp at hh
      | true => rfl
    have e1 : probeh h ok = ⟨0, (probf h ok).2, (probf h ok).1⟩ := by unfold probeh; rw [hh]; rfl
    have e2 : manyo h (⟨some false, 3, fun i => [ok, ok, ok].getD i (dflt .bo)⟩ : Sl Bool) = some ⟨0, !((probf (probf (probf h ok).1 ok).1 ok).1.Up == h.Up), (probf (probf (probf h ok).1 ok).1 ok).1⟩ := by
      unfold manyo
      rw [hh]
      simp only [cond_false]
      rw [show decide (100 < 3) = false from rfl]
      simp only [cond_false]
      rw [runs3 _ (fun s => (probf s ok).1) (fun i s hi => by
        unfold probeF
        have : i = 0 ∨ i = 1 ∨ i = 2 := by omega
        rcases this with rfl | rfl | rfl <;> rfl)]
      rfl
    rw [e1, e2]
    obtain ⟨n, u, r⟩ := h
    obtain ⟨h0, h1⟩ := hg
    dsimp only at h0 h1 hn ⊢
    have hc : (u = true ∧ (r = 0 ∨ r = 1 ∨ r = 2)) ∨ (u = false ∧ (r = 0 ∨ r = 1)) := by
      cases u <;> simp only [cond_true, cond_false] at h1
      · right; exact ⟨rfl, by omega⟩
      · left; exact ⟨rfl, by omega⟩
    have hH : ∀ (u : Bool) (r : Int), 0 ≤ r → r ≤ (bif u then 2 else 1) → healthf ⟨n, u, r⟩ = 0 := by
      intro u r h0 h1
      unfold healthf rng at *
      dsimp only
      simp only [hn, h0, h1, decide_true, Bool.and_self, cond_true]
    have a0 : ∀ r, probf ⟨n, true, r⟩ true = (⟨n, true, 0⟩, false) := fun r => rfl
    have a1 : probf ⟨n, true, 0⟩ false = (⟨n, true, 1⟩, false) := rfl
    have a2 : probf ⟨n, true, 1⟩ false = (⟨n, true, 2⟩, false) := rfl
    have a3 : probf ⟨n, true, 2⟩ false = (⟨n, false, 0⟩, true) := rfl
    have b0 : ∀ r, probf ⟨n, false, r⟩ false = (⟨n, false, 0⟩, false) := fun r => rfl
    have b1 : probf ⟨n, false, 0⟩ true = (⟨n, false, 1⟩, false) := rfl
    have b2 : probf ⟨n, false, 1⟩ true = (⟨n, true, 0⟩, true) := rfl
    have hP : ∀ (u : Bool) (r : Int) (k : Bool), 0 ≤ r → r ≤ (bif u then 2 else 1) → probeh ⟨n, u, r⟩ k = ⟨0, (probf ⟨n, u, r⟩ k).2, (probf ⟨n, u, r⟩ k).1⟩ := by
      intro u r k h0 h1
      unfold probeh
      rw [hH u r h0 h1]; rfl
    have q0 : healthf ⟨n, true, 0⟩ = 0 := hH true 0 (by decide) (by decide)
    have q1 : healthf ⟨n, true, 1⟩ = 0 := hH true 1 (by decide) (by decide)
    have q2 : healthf ⟨n, true, 2⟩ = 0 := hH true 2 (by decide) (by decide)
    have q3 : healthf ⟨n, false, 0⟩ = 0 := hH false 0 (by decide) (by decide)
    have q4 : healthf ⟨n, false, 1⟩ = 0 := hH false 1 (by decide) (by decide)
    have p0 := fun k => hP true 0 k (by decide) (by decide)
    have p1 := fun k => hP true 1 k (by decide) (by decide)
    have p2 := fun k => hP true 2 k (by decide) (by decide)
    have p3 := fun k => hP false 0 k (by decide) (by decide)
    have p4 := fun k => hP false 1 k (by decide) (by decide)
    clear e e1 e2 hh hH hP
    rcases hc with ⟨rfl, rfl | rfl | rfl⟩ | ⟨rfl, rfl | rfl⟩ <;> cases ok <;> simp only [a0, a1, a2, a3, b0, b1, b2, q0, q1, q2, q3, q4, p0, p1, p2, p3, p4, Bool.not_true, Bool.not_false] <;> rfl

end Go.Proofs.Ytokpamekcpbkaaa.Pc
