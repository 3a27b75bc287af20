/- Plain law of UpCmds. Conditions: none. -/
import Derived.Test.YtcmfekgdlaffkaaPcPlTool
namespace Go.Proofs.Ytcmfekgdlaffkaa.Pc
open Go Go.RowKit Go.Proofs Vm
set_option linter.unusedVariables false
set_option linter.unusedSimpArgs false
set_option maxRecDepth 100000

theorem mu_Int64S {fu : Nat} (hf : 2000000 ≤ fu) (n : Nat) (k : Int) (rn : Nat) (f : Nat → Int) (hn : n ≤ 1048576) (h0 : 0 ≤ k) (h1 : k ≤ 9000000000000000000) : ∃ y, F_laws_markInt64S_U fu n k rn f = some y ∧ y.1 = k + 1 * n := by
  unfold F_laws_markInt64S_U
  exact totL (B := fun w0 go0 => F_laws_markInt64S_U_B0 fu n rn (fun z375 z376 => (some (z375, rn, z376))) w0.1 w0.2.1 w0.2.2 (fun q0 q1 q2 => go0 (q0, q1, q2))) (fu := fu) (v := ((k, 0, f) : Int × Int × (Nat → Int))) (Q := fun y => y.1 = k + 1 * n) n (fun i v => v.2.1 = (i : Int) ∧ v.1 = k + 1 * i) (by omega) ⟨rfl, by show k = _; omega⟩ (fun i v go hi hv => by
    obtain ⟨k', j, f⟩ := v
    obtain ⟨hv, hk⟩ := hv
    replace hv : j = (_ : Int) := hv
    replace hk : k' = (_ : Int) := hk
    subst hv
    subst hk
    unfold F_laws_markInt64S_U_B0
    simp only [Int.toNat_natCast, Int.natCast_nonneg, Int.ofNat_lt, hi, decide_true, Bool.and_self, cond_true, Option.bind_some, wsucc (show i < 4611686018427387904 by omega)]
    refine ⟨_, ?_, rfl⟩
    refine ⟨rfl, ?_⟩
    dsimp only
    simp (disch := omega) only [Vm.wrap64]
    omega) (fun v go hv => by
    obtain ⟨k', j, f⟩ := v
    obtain ⟨hv, hk⟩ := hv
    replace hv : j = (_ : Int) := hv
    subst hv
    unfold F_laws_markInt64S_U_B0
    simp only [Int.lt_irrefl, decide_false, cond_false]
    exact ⟨_, rfl, hk⟩)
theorem mu_BackendS {fu : Nat} (hf : 2000000 ≤ fu) (n : Nat) (k : Int) (rn : Nat) (f : Nat → S_impl_Backend) (hn : n ≤ 1048576) (h0 : 0 ≤ k) (h1 : k ≤ 9000000000000000000) : ∃ y, F_laws_markBackendS_U fu n k rn f = some y ∧ y.1 = k + 5 * n := by
  unfold F_laws_markBackendS_U
  exact totL (B := fun w0 go0 => F_laws_markBackendS_U_B0 fu n rn (fun z375 z376 => (some (z375, rn, z376))) w0.1 w0.2.1 w0.2.2 (fun q0 q1 q2 => go0 (q0, q1, q2))) (fu := fu) (v := ((k, 0, f) : Int × Int × (Nat → S_impl_Backend))) (Q := fun y => y.1 = k + 5 * n) n (fun i v => v.2.1 = (i : Int) ∧ v.1 = k + 5 * i) (by omega) ⟨rfl, by show k = _; omega⟩ (fun i v go hi hv => by
    obtain ⟨k', j, f⟩ := v
    obtain ⟨hv, hk⟩ := hv
    replace hv : j = (_ : Int) := hv
    replace hk : k' = (_ : Int) := hk
    subst hv
    subst hk
    unfold F_laws_markBackendS_U_B0
    simp only [Int.toNat_natCast, Int.natCast_nonneg, Int.ofNat_lt, hi, decide_true, Bool.and_self, cond_true, Option.bind_some, wsucc (show i < 4611686018427387904 by omega)]
    refine ⟨_, ?_, rfl⟩
    refine ⟨rfl, ?_⟩
    dsimp only
    simp (disch := omega) only [Vm.wrap64]
    omega) (fun v go hv => by
    obtain ⟨k', j, f⟩ := v
    obtain ⟨hv, hk⟩ := hv
    replace hv : j = (_ : Int) := hv
    subst hv
    unfold F_laws_markBackendS_U_B0
    simp only [Int.lt_irrefl, decide_false, cond_false]
    exact ⟨_, rfl, hk⟩)
theorem goes_Int64S {V ρ : Type} {I : V → Prop} {go : V → Option ρ} {fu : Nat} (hf : 2000000 ≤ fu) {n : Nat} {k : Int} {rn : Nat} {f : Nat → Int} {K : Int × Nat × (Nat → Int) → Option ρ} (hn : n ≤ 1048576) (h0 : 0 ≤ k) (h1 : k ≤ 9000000000000000000) (H : ∀ y : Int × Nat × (Nat → Int), y.1 = k + 1 * n → Goes I go (K y)) : Goes I go ((F_laws_markInt64S_U fu n k rn f).bind K) := by
  obtain ⟨y, e, hy⟩ := mu_Int64S hf n k rn f hn h0 h1
  rw [e]; exact H y hy


/-! ### Services -/
def Vips (n : Nat) (f : Nat → S_impl_Vip) : Prop := ∀ m, m < n → (f m).Names.n ≤ 1048576
theorem mu_VipS {fu : Nat} (hf : 2000000 ≤ fu) (n : Nat) (k : Int) (f : Nat → S_impl_Vip) (hn : n ≤ 1048576) (h0 : 0 ≤ k) (h1 : k ≤ 8000000000000000000) (hI : Vips n f) : ∃ y, F_laws_markVipS_U fu n k n n f = some y ∧ (0 ≤ y.1 ∧ y.1 ≤ k + 16777216 * n) := by
  unfold F_laws_markVipS_U
  let J : Nat → Int × Int × (Nat → S_impl_Vip) → Prop := fun i v => v.2.1 = (i : Int) ∧ (0 ≤ v.1 ∧ v.1 ≤ k + 16777216 * i) ∧ Vips n v.2.2
  exact totL (B := fun w0 go0 => F_laws_markVipS_U_B0 fu n n n (fun z387 z388 => (some (z387, n, n, z388))) w0.1 w0.2.1 w0.2.2 (fun q0 q1 q2 => go0 (q0, q1, q2))) (fu := fu) (v := ((k, 0, f) : Int × Int × (Nat → S_impl_Vip))) (Q := fun y => 0 ≤ y.1 ∧ y.1 ≤ k + 16777216 * n) n J (by omega) ⟨rfl, by show 0 ≤ k ∧ k ≤ _; omega, hI⟩ (fun i v go hi hv => by
    obtain ⟨k', j, f⟩ := v
    obtain ⟨hv, hk, hm⟩ := hv
    replace hv : j = (_ : Int) := hv
    replace hk : 0 ≤ k' ∧ k' ≤ k + 16777216 * (i : Int) := hk
    subst hv
    have hl := hm i hi
    replace hl : (f i).Names.n ≤ 1048576 := hl
    unfold F_laws_markVipS_U_B0
    simp only [Int.toNat_natCast, Int.natCast_nonneg, Int.ofNat_lt, hi, decide_true, Bool.and_self, Bool.and_true, cond_true, Option.bind_some, wsucc (show i < 4611686018427387904 by omega),
      upd_impl_Vip_0_1, upd_impl_Vip_1_1, upd_impl_Vip_2_1, upd_impl_Vip_3_1, if_true]
    simp (disch := omega) only [Vm.wrap64]
    refine goes_Int64S (I := J (i + 1)) (go := go) hf hl (by omega) (by omega) (fun y hy => ?_)
    refine ⟨_, ?_, rfl⟩
    refine ⟨rfl, ?_, fun m hm' => ?_⟩
    · show 0 ≤ y.1 ∧ y.1 ≤ _
      omega
    · simp only [upd_impl_Vip_0_1, upd_impl_Vip_1_1, upd_impl_Vip_2_1, upd_impl_Vip_3_1]
      by_cases e : m = i
      · subst e; simp only [if_true]; exact hl
      · simp only [e, if_false]; exact hm m hm') (fun v go hv => by
    obtain ⟨k', j, f⟩ := v
    obtain ⟨hv, hk, hm⟩ := hv
    replace hv : j = (_ : Int) := hv
    subst hv
    unfold F_laws_markVipS_U_B0
    simp only [Int.lt_irrefl, decide_false, cond_false]
    exact ⟨_, rfl, hk⟩)

/-! ### Copies -/
end Go.Proofs.Ytcmfekgdlaffkaa.Pc
