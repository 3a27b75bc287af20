/- Plain law of UpCmds. Conditions: none. -/
import Derived.Test.YtmnbmponjhglcaaPePlTool
namespace Go.Proofs.Ytmnbmponjhglcaa.Pe
open Go Go.RowKit Go.Proofs Vm
set_option linter.unusedVariables false
set_option linter.unusedSimpArgs false
set_option maxRecDepth 100000

theorem mu_Int64S {fu : Nat} (hf : 2000000 ≤ fu) (n : Nat) (k : Int) (rn : Nat) (f : Nat → Int) (hn : n ≤ 1048576) (h0 : 0 ≤ k) (h1 : k ≤ 9000000000000000000) : ∃ y, F_laws_markInt64S_U fu n k rn f = some y ∧ y.1 = k + 1 * n := by
  unfold F_laws_markInt64S_U
  exact totL (B := fun w0 go0 => F_laws_markInt64S_U_B0 fu n rn (fun z375 z376 => (some (z375, rn, z376))) w0.1 w0.2.1 w0.2.2 (fun q0 q1 q2 => go0 (q0, q1, q2))) (fu := fu) (v := ((k, 0, f) : Int × Int × (Nat → Int))) (Q := fun y => y.1 = k + 1 * n) n (fun i v => v.2.1 = (i : Int) ∧ v.1 = k + 1 * i) (by omega) ⟨rfl, by show k = _; omega⟩ (fun i v go hi hv => by
    obtain ⟨k', j, f⟩ := v
    obtain ⟨hv, hk⟩ := hv
    replace hv : j = (_ : Int) := hv
    replace hk : k' = (_ : Int) := hk
    subst hv
    subst hk
    unfold F_laws_markInt64S_U_B0
    simp only [Int.toNat_natCast, Int.natCast_nonneg, Int.ofNat_lt, hi, decide_true, Bool.and_self, cond_true, Option.bind_some, wsucc (show i < 4611686018427387904 by omega)]
    refine ⟨_, ?_, rfl⟩
    refine ⟨rfl, ?_⟩
    dsimp only
    simp (disch := omega) only [Vm.wrap64]
    omega) (fun v go hv => by
    obtain ⟨k', j, f⟩ := v
    obtain ⟨hv, hk⟩ := hv
    replace hv : j = (_ : Int) := hv
    subst hv
    unfold F_laws_markInt64S_U_B0
    simp only [Int.lt_irrefl, decide_false, cond_false]
    exact ⟨_, rfl, hk⟩)
theorem mu_BackendS {fu : Nat} (hf : 2000000 ≤ fu) (n : Nat) (k : Int) (rn : Nat) (f : Nat → S_impl_Backend) (hn : n ≤ 1048576) (h0 : 0 ≤ k) (h1 : k ≤ 9000000000000000000) : ∃ y, F_laws_markBackendS_U fu n k rn f = some y ∧ y.1 = k + 5 * n := by
  unfold F_laws_markBackendS_U
  exact totL (B := fun w0 go0 => F_laws_markBackendS_U_B0 fu n rn (fun z375 z376 => (some (z375, rn, z376))) w0.1 w0.2.1 w0.2.2 (fun q0 q1 q2 => go0 (q0, q1, q2))) (fu := fu) (v := ((k, 0, f) : Int × Int × (Nat → S_impl_Backend))) (Q := fun y => y.1 = k + 5 * n) n (fun i v => v.2.1 = (i : Int) ∧ v.1 = k + 5 * i) (by omega) ⟨rfl, by show k = _; omega⟩ (fun i v go hi hv => by
    obtain ⟨k', j, f⟩ := v
    obtain ⟨hv, hk⟩ := hv
    replace hv : j = (_ : Int) := hv
    replace hk : k' = (_ : Int) := hk
    subst hv
    subst hk
    unfold F_laws_markBackendS_U_B0
    simp only [Int.toNat_natCast, Int.natCast_nonneg, Int.ofNat_lt, hi, decide_true, Bool.and_self, cond_true, Option.bind_some, wsucc (show i < 4611686018427387904 by omega)]
    refine ⟨_, ?_, rfl⟩
    refine ⟨rfl, ?_⟩
    dsimp only
    simp (disch := omega) only [Vm.wrap64]
    omega) (fun v go hv => by
    obtain ⟨k', j, f⟩ := v
    obtain ⟨hv, hk⟩ := hv
    replace hv : j = (_ : Int) := hv
    subst hv
    unfold F_laws_markBackendS_U_B0
    simp only [Int.lt_irrefl, decide_false, cond_false]
    exact ⟨_, rfl, hk⟩)
theorem goes_Int64S {V ρ : Type} {I : V → Prop} {go : V → Option ρ} {fu : Nat} (hf : 2000000 ≤ fu) {n : Nat} {k : Int} {rn : Nat} {f : Nat → Int} {K : Int × Nat × (Nat → Int) → Option ρ} (hn : n ≤ 1048576) (h0 : 0 ≤ k) (h1 : k ≤ 9000000000000000000) (H : ∀ y : Int × Nat × (Nat → Int), y.1 = k + 1 * n → Goes I go (K y)) : Goes I go ((F_laws_markInt64S_U fu n k rn f).bind K) := by
  obtain ⟨y, e, hy⟩ := mu_Int64S hf n k rn f hn h0 h1
  rw [e]; exact H y hy


/-! ### Services -/
def Vips (n : Nat) (f : Nat → S_impl_Vip) : Prop := ∀ m, m < n → (f m).Names.n ≤ 1048576
theorem mu_VipS {fu : Nat} (hf : 2000000 ≤ fu) (n : Nat) (k : Int) (f : Nat → S_impl_Vip) (hn : n ≤ 1048576) (h0 : 0 ≤ k) (h1 : k ≤ 8000000000000000000) (hI : Vips n f) : ∃ y, F_laws_markVipS_U fu n k n n f = some y ∧ (0 ≤ y.1 ∧ y.1 ≤ k + 16777216 * n) := by
  unfold F_laws_markVipS_U
  let J : Nat → Int × Int × (Nat → S_impl_Vip) → Prop := fun i v => v.2.1 = (i : Int) ∧ (0 ≤ v.1 ∧ v.1 ≤ k + 16777216 * i) ∧ Vips n v.2.2
  exact totL (B := fun w0 go0 => F_laws_markVipS_U_B0 fu n n n (fun z387 z388 => (some (z387, n, n, z388))) w0.1 w0.2.1 w0.2.2 (fun q0 q1 q2 => go0 (q0, q1, q2))) (fu := fu) (v := ((k, 0, f) : Int × Int × (Nat → S_impl_Vip))) (Q := fun y => 0 ≤ y.1 ∧ y.1 ≤ k + 16777216 * n) n J (by omega) ⟨rfl, by show 0 ≤ k ∧ k ≤ _; omega, hI⟩ (fun i v go hi hv => by
    obtain ⟨k', j, f⟩ := v
    obtain ⟨hv, hk, hm⟩ := hv
    replace hv : j = (_ : Int) := hv
    replace hk : 0 ≤ k' ∧ k' ≤ k + 16777216 * (i : Int) := hk
    subst hv
    have hl := hm i hi
    replace hl : (f i).Names.n ≤ 1048576 := hl
    unfold F_laws_markVipS_U_B0
    simp only [Int.toNat_natCast, Int.natCast_nonneg, Int.ofNat_lt, hi, decide_true, Bool.and_self, Bool.and_true, cond_true, Option.bind_some, wsucc (show i < 4611686018427387904 by omega),
      upd_impl_Vip_0_1, upd_impl_Vip_1_1, upd_impl_Vip_2_1, upd_impl_Vip_3_1, if_true]
    simp (disch := omega) only [Vm.wrap64]
    refine goes_Int64S (I := J (i + 1)) (go := go) hf hl (by omega) (by omega) (fun y hy => ?_)
    refine ⟨_, ?_, rfl⟩
    refine ⟨rfl, ?_, fun m hm' => ?_⟩
    · show 0 ≤ y.1 ∧ y.1 ≤ _
      omega
    · simp only [upd_impl_Vip_0_1, upd_impl_Vip_1_1, upd_impl_Vip_2_1, upd_impl_Vip_3_1]
      by_cases e : m = i
      · subst e; simp only [if_true]; exact hl
      · simp only [e, if_false]; exact hm m hm') (fun v go hv => by
    obtain ⟨k', j, f⟩ := v
    obtain ⟨hv, hk, hm⟩ := hv
    replace hv : j = (_ : Int) := hv
    subst hv
    unfold F_laws_markVipS_U_B0
    simp only [Int.lt_irrefl, decide_false, cond_false]
    exact ⟨_, rfl, hk⟩)

/-! ### Copies -/
theorem tH_Int64S {fu : Nat} (hf : 2000000 ≤ fu) (x : Sl Int) (hx : x.n ≤ 1048576) : F_laws_toInt64S_H fu x = some (cp id 0 x) := by
  unfold F_laws_toInt64S_H
  have h1 : (8 : Int) * (x.n : Int) ≤ 281474976710656 := by omega
  have h2 : (x.n : Int) ≤ 9223372036854775807 := by omega
  simp only [h1, h2, decide_true, Bool.and_true, Int.toNat_natCast, Int.natCast_nonneg, cond_true]
  exact to_loop x.n x.f id 0 (fun w0 go0 => F_laws_toInt64S_H_B0 fu x x.n x.n (fun z => some (⟨none, x.n, z⟩ : Sl Int)) w0.1 w0.2 (fun q0 q1 => go0 (q0, q1))) (fun z => some (⟨none, x.n, z⟩ : Sl Int)) (fun i o go hi => by
    unfold F_laws_toInt64S_H_B0
    by_cases h : i < x.n
    · simp [h, wsucc (show i < 4611686018427387904 by omega)]
    · simp [h]) fu (by omega)
theorem tH_BackendS {fu : Nat} (hf : 2000000 ≤ fu) (x : Sl S_impl_Backend) (hx : x.n ≤ 1048576) : F_laws_toBackendS_H fu x = some (cp id d_Backend x) := by
  unfold F_laws_toBackendS_H
  have h1 : (40 : Int) * (x.n : Int) ≤ 281474976710656 := by omega
  have h2 : (x.n : Int) ≤ 9223372036854775807 := by omega
  simp only [h1, h2, decide_true, Bool.and_true, Int.toNat_natCast, Int.natCast_nonneg, cond_true]
  exact to_loop x.n x.f id d_Backend (fun w0 go0 => F_laws_toBackendS_H_B0 fu x x.n x.n (fun z => some (⟨none, x.n, z⟩ : Sl S_impl_Backend)) w0.1 w0.2 (fun q0 q1 => go0 (q0, q1))) (fun z => some (⟨none, x.n, z⟩ : Sl S_impl_Backend)) (fun i o go hi => by
    unfold F_laws_toBackendS_H_B0 F_laws_toBackend
    by_cases h : i < x.n
    · simp [h, wsucc (show i < 4611686018427387904 by omega)]
    · simp [h]) fu (by omega)
theorem tH_VerdictS {fu : Nat} (hf : 2000000 ≤ fu) (x : Sl S_impl_Verdict) (hx : x.n ≤ 1048576) : F_laws_toVerdictS_H fu x = some (cp id ⟨0, 0, false, 0⟩ x) := by
  unfold F_laws_toVerdictS_H
  have h1 : (32 : Int) * (x.n : Int) ≤ 281474976710656 := by omega
  have h2 : (x.n : Int) ≤ 9223372036854775807 := by omega
  simp only [h1, h2, decide_true, Bool.and_true, Int.toNat_natCast, Int.natCast_nonneg, cond_true]
  exact to_loop x.n x.f id ⟨0, 0, false, 0⟩ (fun w0 go0 => F_laws_toVerdictS_H_B0 fu x x.n x.n (fun z => some (⟨none, x.n, z⟩ : Sl S_impl_Verdict)) w0.1 w0.2 (fun q0 q1 => go0 (q0, q1))) (fun z => some (⟨none, x.n, z⟩ : Sl S_impl_Verdict)) (fun i o go hi => by
    unfold F_laws_toVerdictS_H_B0 F_laws_toVerdict
    by_cases h : i < x.n
    · simp [h, wsucc (show i < 4611686018427387904 by omega)]
    · simp [h]) fu (by omega)
theorem tH_Vip {fu : Nat} (hf : 2000000 ≤ fu) (x : S_impl_Vip) (hx : x.Names.n ≤ 1048576) : F_laws_toVip_H fu x = some (toV x) := by
  unfold F_laws_toVip_H
  simp only [tH_Int64S hf x.Names hx, Option.bind_some]
  rfl
theorem tu_VipS {fu : Nat} (hf : 2000000 ≤ fu) (x : Sl S_impl_Vip) (hx : x.n ≤ 1048576) (he : ∀ i, i < x.n → (x.f i).Names.n ≤ 1048576) : F_laws_toVipS_U fu x = some (x.n, x.n, (cp toV d_Vip x).f) := by
  unfold F_laws_toVipS_U
  have h1 : (48 : Int) * (x.n : Int) ≤ 281474976710656 := by omega
  have h2 : (x.n : Int) ≤ 9223372036854775807 := by omega
  simp only [h1, h2, decide_true, Bool.and_true, Int.toNat_natCast, Int.natCast_nonneg, cond_true]
  refine stepL x.n (fun i => ((i : Int), i, fun j => if j < i then toV (x.f j) else d_Vip)) (by omega) rfl (fun i go hi => ?_) (fun go => ?_)
  · unfold F_laws_toVipS_U_B0
    simp only [Int.toNat_natCast, Int.natCast_nonneg, Int.ofNat_lt, hi, decide_true, Bool.and_self, cond_true, Option.bind_some, wsucc (show i < 4611686018427387904 by omega), tH_Vip hf (x.f i) (he i hi)]
    rw [← cp_succ]
    rfl
  · unfold F_laws_toVipS_U_B0
    simp only [Int.lt_irrefl, Nat.le_refl, decide_true, decide_false, cond_false, cond_true]
    rfl
theorem tu_Config {fu : Nat} (hf : 2000000 ≤ fu) (x : S_laws_Config) (hx : ConfLen' x) : F_laws_toConfig_U fu x = some (x.Version, x.Backends.n, x.Vips.n, x.Backends.n, (toConf x).Backends.f, x.Vips.n, (toConf x).Vips.f) := by
  unfold F_laws_toConfig_U
  simp only [tH_BackendS hf x.Backends hx.backends, tu_VipS hf x.Vips hx.vips hx.names, Option.bind_some, Nat.le_refl, decide_true, Bool.and_self, cond_true]
  rfl
theorem mu_Config {fu : Nat} (hf : 2000000 ≤ fu) (x : S_laws_Config) (hx : ConfLen' x) : ∃ y, F_laws_markConfig_U fu x.Version x.Backends.n x.Vips.n 1 x.Backends.n (toConf x).Backends.f x.Vips.n x.Vips.n (toConf x).Vips.f = some y ∧ 0 ≤ y.1 ∧ y.1 ≤ 100000000000000000 := by
  have hl := toConf_len hx
  have n1 := hx.backends
  have n2 := hx.vips
  unfold F_laws_markConfig_U
  obtain ⟨y1, e1, g1⟩ := mu_BackendS hf x.Backends.n 1 x.Backends.n (toConf x).Backends.f hx.backends (by omega) (by omega)
  obtain ⟨y2, e2, g2⟩ := mu_VipS hf x.Vips.n y1.1 (toConf x).Vips.f hx.vips (by omega) (by omega) (fun m hm => hl.names m hm)
  simp only [e1, e2, Option.bind_some]
  exact ⟨_, rfl, by show 0 ≤ y2.1; omega, by show y2.1 ≤ _; omega⟩

end Go.Proofs.Ytmnbmponjhglcaa.Pe
