/- Plain laws of the health of a backend. Conditions: none. -/
import Derived.Test.YtokpamekcpbkaaaPcPlBase
namespace Go.Proofs.Ytokpamekcpbkaaa.Pc
open Go Go.RowKit Go.Proofs Vm
set_option linter.unusedVariables false
set_option linter.unusedSimpArgs false
set_option maxRecDepth 100000

theorem run_inr {α σ : Type} {f : Nat → σ → Sum α σ} (h : ∀ i s, ∃ s', f i s = .inr s') : ∀ (m i : Nat) (s : σ), ∃ s', run f m i s = .inr s'
  | 0, _, s => ⟨s, rfl⟩
  | m + 1, i, s => by
    obtain ⟨s', e⟩ := h i s
    obtain ⟨t, et⟩ := run_inr h m (i + 1) s'
    exact ⟨t, by simp only [run, e]; exact et⟩

def healthf (h : S_impl_Health) : Int := bif rng h.Name 1 999 && rng h.Run 0 (bif h.Up then 2 else 1) then 0 else 3
theorem s_HealthFault (fu : Nat) (h : S_impl_Health) : F_spec_HealthFault fu h = some (healthf h) := by
  unfold F_spec_HealthFault healthf F_spec_l12Bound
  obtain ⟨n, u, r⟩ := h
  simp only [p_l3Name, p_l1In, Option.bind_some]
  cases u <;> simp only [cond_true, cond_false, Option.bind_some]
  · rw [show IntKind.wrap .i64 (2 - 1) = 1 from by decide]
    cases rng n 1 999 <;> cases rng r 0 1 <;> rfl
  · rw [show IntKind.wrap .i64 (3 - 1) = 2 from by decide]
    cases rng n 1 999 <;> cases rng r 0 2 <;> rfl
theorem i_HealthFault (fu : Nat) (h : S_impl_Health) : F_impl_HealthFault fu h = some (healthf h) := by
  unfold F_impl_HealthFault healthf F_impl_isName
  obtain ⟨n, u, r⟩ := h
  simp only [p_in, Option.bind_some]
  cases u <;> simp only [cond_true, cond_false]
  · cases rng n 1 999 <;> cases rng r 0 1 <;> rfl
  · cases rng n 1 999 <;> cases rng r 0 2 <;> rfl

/-- One probe. -/
def probf (h : S_impl_Health) (ok : Bool) : S_impl_Health × Bool :=
  bif ok == h.Up then (⟨h.Name, h.Up, 0⟩, false) else bif IntKind.wrap .i64 (h.Run + 1) == (bif h.Up then 3 else 2) then (⟨h.Name, !h.Up, 0⟩, true) else (⟨h.Name, h.Up, IntKind.wrap .i64 (h.Run + 1)⟩, false)
theorem s_Probe (fu : Nat) (h : S_impl_Health) (ok : Bool) : F_spec_l12Probe fu h ok = some (probf h ok) := by
  unfold F_spec_l12Probe probf F_spec_l12Bound
  obtain ⟨n, u, r⟩ := h
  cases u <;> cases ok <;> simp only [cond_true, cond_false, Option.bind_some, beq_self_eq_true] <;> (try rfl)
  · cases (IntKind.wrap .i64 (r + 1) == 2) <;> rfl
  · cases (IntKind.wrap .i64 (r + 1) == 3) <;> rfl
def HG (h : S_impl_Health) : Prop := 0 ≤ h.Run ∧ h.Run ≤ (bif h.Up then 2 else 1)
theorem i_probe (fu : Nat) (h : S_impl_Health) (ok : Bool) (hg : HG h) : F_impl_Health_probe fu h ok = some (probf h ok) := by
  unfold F_impl_Health_probe probf
  obtain ⟨n, u, r⟩ := h
  obtain ⟨h0, h1⟩ := hg
  dsimp only at h0 h1
  cases u <;> cases ok <;> simp only [cond_true, cond_false] at h1 <;> (try rfl)
  · have : r = 0 ∨ r = 1 := by omega
    rcases this with rfl | rfl <;> rfl
  · have : r = 0 ∨ r = 1 ∨ r = 2 := by omega
    rcases this with rfl | rfl | rfl <;> rfl
theorem probf_good (h : S_impl_Health) (ok : Bool) (hg : HG h) : HG (probf h ok).1 := by
  unfold probf
  obtain ⟨n, u, r⟩ := h
  obtain ⟨h0, h1⟩ := hg
  dsimp only at h0 h1
  cases u <;> cases ok <;> simp only [cond_true, cond_false] at h1
  · exact ⟨Int.le_refl 0, (by decide : (0 : Int) ≤ 1)⟩
  · have : r = 0 ∨ r = 1 := by omega
    rcases this with rfl | rfl
    · exact ⟨(by decide : (0 : Int) ≤ 1), Int.le_refl 1⟩
    · exact ⟨Int.le_refl 0, (by decide : (0 : Int) ≤ 2)⟩
  · have : r = 0 ∨ r = 1 ∨ r = 2 := by omega
    rcases this with rfl | rfl | rfl
    · exact ⟨(by decide : (0 : Int) ≤ 1), (by decide : (1 : Int) ≤ 2)⟩
    · exact ⟨(by decide : (0 : Int) ≤ 2), Int.le_refl 2⟩
    · exact ⟨Int.le_refl 0, (by decide : (0 : Int) ≤ 1)⟩
  · exact ⟨Int.le_refl 0, (by decide : (0 : Int) ≤ 2)⟩
theorem healthf_good {h : S_impl_Health} (e : (healthf h != 0) = false) : HG h := by
  unfold healthf at e
  cases hr : rng h.Run 0 (bif h.Up then 2 else 1) with
  | false => rw [hr, Bool.and_false] at e; simp at e
  | true =>
    unfold rng at hr
    simp only [Bool.and_eq_true, decide_eq_true_eq] at hr
    exact hr

def probeh (h : S_impl_Health) (ok : Bool) : S_impl_HealthResult := bif healthf h != 0 then ⟨healthf h, false, ⟨0, false, 0⟩⟩ else ⟨0, (probf h ok).2, (probf h ok).1⟩
theorem s_ProbeHealth (fu : Nat) (h : S_impl_Health) (ok : Bool) : F_spec_ProbeHealth fu h ok = some (probeh h ok) := by
  unfold F_spec_ProbeHealth probeh
  simp only [s_HealthFault, s_Probe, Option.bind_some]
  cases (healthf h != 0) <;> rfl
theorem i_ProbeHealth (fu : Nat) (h : S_impl_Health) (ok : Bool) : F_impl_ProbeHealth fu h ok = some (probeh h ok) := by
  unfold F_impl_ProbeHealth probeh
  simp only [i_HealthFault, Option.bind_some]
  cases hh : (healthf h != 0) with
  | true => rfl
  | false => simp only [cond_false, i_probe fu h ok (healthf_good hh), Option.bind_some]
/-! ### Many probes -/

def probeF (v : Sl Bool) (i : Nat) (s : S_impl_Health) : Sum Unit S_impl_Health := .inr (probf s (v.f i)).1
def manyo (h : S_impl_Health) (v : Sl Bool) : Option S_impl_HealthResult :=
  bif healthf h != 0 then some ⟨healthf h, false, ⟨0, false, 0⟩⟩ else bif decide (100 < v.n) then some ⟨2, false, ⟨0, false, 0⟩⟩ else
    (run (probeF v) v.n 0 h).elim (fun _ => none) (fun s => some ⟨0, !(s.Up == h.Up), s⟩)
theorem many_some (h : S_impl_Health) (v : Sl Bool) : ∃ y, manyo h v = some y := by
  unfold manyo
  cases (healthf h != 0) with
  | true => exact ⟨_, rfl⟩
  | false =>
    cases decide (100 < v.n) with
    | true => exact ⟨_, rfl⟩
    | false =>
      obtain ⟨s, e⟩ := run_inr (f := probeF v) (fun i s => ⟨_, rfl⟩) v.n 0 h
      simp only [cond_false, e]
      exact ⟨_, rfl⟩
theorem i_ProbeMany {fu : Nat} (hf : 2000000 ≤ fu) (h : S_impl_Health) (v : Sl Bool) (hv : v.n ≤ 1048576) : F_impl_ProbeMany fu h v = manyo h v := by
  unfold F_impl_ProbeMany manyo
  simp only [i_HealthFault, Option.bind_some]
  have e0 : (healthf h == 0) = !(healthf h != 0) := by rw [bne, Bool.not_not]
  rw [e0]
  cases hh : (healthf h != 0) with
  | true => rfl
  | false =>
    simp only [cond_false, cond_true, Bool.not_false, Option.bind_some]
    rw [show decide ((v.n : Int) > 100) = decide (100 < v.n) from decide_eq_decide.2 (by omega)]
    cases decide (100 < v.n) with
    | true => rfl
    | false =>
      simp only [cond_false]
      refine runL v.n (fun i s => ((i : Int), s.Name, s.Up, s.Run)) h (probeF v) (fun _ => none) (fun s => some ⟨0, !(s.Up == h.Up), s⟩) (fun _ s => HG s) (by omega) rfl (healthf_good hh) (fun i s go hi hs => ?_) (fun i s s' _ hs e => ?_) (fun s go _ => ?_) rfl
      · unfold F_impl_ProbeMany_B0 probeF
        simp only [Int.toNat_natCast, Int.natCast_nonneg, Int.ofNat_lt, hi, decide_true, Bool.and_self, cond_true, Option.bind_some, i_probe fu ⟨s.Name, s.Up, s.Run⟩ (v.f i) hs, wsucc (show i < 4611686018427387904 by omega), Sum.elim_inr]
      · unfold probeF at e
        cases e
        exact probf_good s (v.f i) hs
      · unfold F_impl_ProbeMany_B0
        simp
end Go.Proofs.Ytokpamekcpbkaaa.Pc
