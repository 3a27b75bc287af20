/- Plain law of UpCmds. Conditions: none. -/
import Derived.Test.YtmnbmponjhglcaaPePlUpcA
namespace Go.Proofs.Ytmnbmponjhglcaa.Pe
open Go Go.RowKit Go.Proofs Vm
set_option linter.unusedVariables false
set_option linter.unusedSimpArgs false
set_option maxRecDepth 100000

theorem ml_VerdictS {fu : Nat} (hf : 2000000 ≤ fu) (n : Nat) (k : Int) (rn : Nat) (f : Nat → S_impl_Verdict) (hn : n ≤ 1048576) (h0 : 0 ≤ k) (h1 : k ≤ 1000000000000000000) : ∃ y, F_laws_markVerdictS_L fu n k rn f = some y ∧ y.1 = k + 4 * n := by
  unfold F_laws_markVerdictS_L
  exact totL (B := fun w0 go0 => F_laws_markVerdictS_L_B0 fu n rn (fun z375 z376 => (some (z375, rn, z376))) w0.1 w0.2.1 w0.2.2 (fun q0 q1 q2 => go0 (q0, q1, q2))) (fu := fu) (v := ((k, 0, f) : Int × Int × (Nat → S_impl_Verdict))) (Q := fun y => y.1 = k + 4 * n) n (fun i v => v.2.1 = (i : Int) ∧ v.1 = k + 4 * i) (by omega) ⟨rfl, by show k = _; omega⟩ (fun i v go hi hv => by
    obtain ⟨k', j, f⟩ := v
    obtain ⟨hv, hk⟩ := hv
    replace hv : j = (_ : Int) := hv
    replace hk : k' = (_ : Int) := hk
    subst hv
    subst hk
    unfold F_laws_markVerdictS_L_B0
    simp only [Int.toNat_natCast, Int.natCast_nonneg, Int.ofNat_lt, hi, decide_true, Bool.and_self, cond_true, Option.bind_some, wsucc (show i < 4611686018427387904 by omega)]
    refine ⟨_, ?_, rfl⟩
    refine ⟨rfl, ?_⟩
    dsimp only
    simp (disch := omega) only [Vm.wrap64]
    omega) (fun v go hv => by
    obtain ⟨k', j, f⟩ := v
    obtain ⟨hv, hk⟩ := hv
    replace hv : j = (_ : Int) := hv
    subst hv
    unfold F_laws_markVerdictS_L_B0
    simp only [Int.lt_irrefl, decide_false, cond_false]
    exact ⟨_, rfl, hk⟩)
def mkC (k : Int) : S_impl_Cmd := ⟨k, k + 1, k + 1 + 1, k + 1 + 1 + 1, k + 1 + 1 + 1 + 1, k + 1 + 1 + 1 + 1 + 1⟩
theorem m_CmdS {fu : Nat} (hf : 2000000 ≤ fu) (n : Nat) (k : Int) (rn : Nat) (f : Nat → S_impl_Cmd) (hn : n ≤ 1048576) (h0 : 0 ≤ k) (h1 : k ≤ 1000000000000) : F_laws_markCmdS_L fu n k rn f = some (k + 6 * n, (rn, marks mkC 6 k n f)) := by
  unfold F_laws_markCmdS_L
  refine stepL n (fun i => (k + 6 * i, (i : Int), marks mkC 6 k i f)) (by omega) ?_ (fun i go hi => ?_) (fun go => ?_)
  · have : marks mkC 6 k 0 f = f := by funext j; simp [marks]
    simp [this]
  · unfold F_laws_markCmdS_L_B0
    simp only [Int.toNat_natCast, Int.natCast_nonneg, Int.ofNat_lt, hi, decide_true, Bool.and_self, cond_true, Option.bind_some, wsucc (show i < 4611686018427387904 by omega)]
    simp (disch := omega) only [Vm.wrap64]
    have e : (upd_impl_Cmd_5_1 ((upd_impl_Cmd_4_1 ((upd_impl_Cmd_3_1 ((upd_impl_Cmd_2_1 ((upd_impl_Cmd_1_1 ((upd_impl_Cmd_0_1 (marks mkC 6 k i f) i (k + 6 * (i : Int)))) i (k + 6 * (i : Int) + 1))) i (k + 6 * (i : Int) + 1 + 1))) i (k + 6 * (i : Int) + 1 + 1 + 1))) i (k + 6 * (i : Int) + 1 + 1 + 1 + 1))) i (k + 6 * (i : Int) + 1 + 1 + 1 + 1 + 1)) = marks mkC 6 k (i + 1) f := by
      rw [← marks_succ]
      funext j
      simp only [upd_impl_Cmd_0_1, upd_impl_Cmd_1_1, upd_impl_Cmd_2_1, upd_impl_Cmd_3_1, upd_impl_Cmd_4_1, upd_impl_Cmd_5_1, mkC]
      by_cases hj : j = i
      · subst hj; simp only [if_true]
      · simp only [hj, if_false]
    rw [e, show k + 6 * (i : Int) + 1 + 1 + 1 + 1 + 1 + 1 = k + 6 * ((i + 1 : Nat) : Int) by omega]
  · unfold F_laws_markCmdS_L_B0
    simp
theorem h_CmdS {fu : Nat} (hf : 2000000 ≤ fu) (x : Sl S_impl_Cmd) (k : Int) (hn : x.n ≤ 1048576) (h0 : 0 ≤ k) (h1 : k ≤ 1000000000000) (hx : ∀ i, i < x.n → x.f i = mkC (k + 6 * i)) : F_laws_heldCmdS fu x k = some (k + 6 * x.n) := by
  unfold F_laws_heldCmdS
  refine stepL x.n (fun i => (k + 6 * i, (i : Int))) (by omega) (by simp) (fun i go hi => ?_) (fun go => ?_)
  · unfold F_laws_heldCmdS_B0
    simp only [Int.toNat_natCast, Int.natCast_nonneg, Int.ofNat_lt, hi, decide_true, Bool.and_self, cond_true, Option.bind_some, wsucc (show i < 4611686018427387904 by omega), hx i hi, mkC]
    simp (disch := omega) only [Vm.wrap64]
    simp only [bne_self_eq_false, cond_false]
    rw [show k + 6 * (i : Int) + 1 + 1 + 1 + 1 + 1 + 1 = k + 6 * ((i + 1 : Nat) : Int) by omega]
  · unfold F_laws_heldCmdS_B0
    simp
theorem e_CmdS {fu : Nat} (hf : 2000000 ≤ fu) (x : Sl S_impl_Cmd) (hx : x.n ≤ 1048576) : F_laws_eqCmdS fu x x = some true := by
  unfold F_laws_eqCmdS
  simp only [bne_self_eq_false, cond_false]
  refine eqL x.n (by omega) (fun i go hi => ?_) (fun go => ?_)
  · unfold F_laws_eqCmdS_B0 F_laws_eqCmd
    simp [hi, wsucc (show i < 4611686018427387904 by omega)]
  · unfold F_laws_eqCmdS_B0; simp
theorem e_CmdsR {fu : Nat} (hf : 2000000 ≤ fu) (x : S_impl_CmdsResult) (hx : x.Cmds.n ≤ 1048576) : F_laws_eqCmdsResult fu ⟨x.Code, ⟨none, x.Cmds.n, x.Cmds.f⟩⟩ ⟨x.Code, ⟨none, x.Cmds.n, x.Cmds.f⟩⟩ = some true := by
  unfold F_laws_eqCmdsResult
  simp [e_CmdS hf (⟨none, x.Cmds.n, x.Cmds.f⟩ : Sl S_impl_Cmd) hx]

/-! ### The commands -/
def verdV (x : Sl S_impl_Verdict) (n : Int) (m : Nat) : Int := (verdo x n m).getD 0
theorem verdV_eq (x : Sl S_impl_Verdict) (n : Int) (m : Nat) : verdo x n m = some (verdV x n m) := by
  obtain ⟨y, h⟩ := verdo_some x n m
  unfold verdV; rw [h]; rfl
def addC (c : S_impl_Cmd) (s : Nat × (Nat → S_impl_Cmd)) : Nat × (Nat → S_impl_Cmd) := (s.1 + 1, fun i => if i < s.1 then s.2 i else ((fun i => [c].getD i (dflt .impl_Cmd)) (i - s.1)))
def upS (b : Sl S_impl_Backend) (x : Sl S_impl_Verdict) (m : Nat) : Nat → Nat × (Nat → S_impl_Cmd)
  | 0 => (0, fun _ => dflt .impl_Cmd)
  | i + 1 => bif (verdV x (b.f i).Name m == 1) && !(b.f i).Up then addC ⟨9, -1, (b.f i).Name, 0, 1, 0⟩ (upS b x m i)
      else bif (verdV x (b.f i).Name m == 2) && (b.f i).Up then addC ⟨9, -1, (b.f i).Name, 0, 0, 0⟩ (upS b x m i) else upS b x m i
theorem upS_le (b : Sl S_impl_Backend) (x : Sl S_impl_Verdict) (m : Nat) : ∀ i, (upS b x m i).1 ≤ i
  | 0 => Nat.le_refl _
  | i + 1 => by
    have ih := upS_le b x m i
    unfold upS
    cases ((verdV x (b.f i).Name m == 1) && !(b.f i).Up) with
    | true => simp only [cond_true, addC]; omega
    | false =>
      cases ((verdV x (b.f i).Name m == 2) && (b.f i).Up) with
      | true => simp only [cond_true, cond_false, addC]; omega
      | false => simp only [cond_false]; omega
theorem s_Ups {fu : Nat} (hf : 2000000 ≤ fu) (c : S_impl_Config) (x : Sl S_impl_Verdict) (m : Nat) (hb : c.Backends.n ≤ 1048576) (hx : x.n ≤ 60) (hm : m ≤ 10) {k0 : Nat → Nat → (Nat → S_impl_Cmd) → Option S_impl_CmdsResult} :
    L (fun w0 go0 => F_spec_UpCmds_H_B0 fu x (m : Int) 0 c.Version c.Backends c.Vips 0 k0 w0.1 w0.2.1 w0.2.2.1 w0.2.2.2 (fun q0 q1 q2 q3 => go0 (q0, q1, q2, q3))) fu ((0, 0, 0, (fun _ => dflt .impl_Cmd)) : Int × Nat × Nat × (Nat → S_impl_Cmd)) = k0 (upS c.Backends x m c.Backends.n).1 (upS c.Backends x m c.Backends.n).1 (upS c.Backends x m c.Backends.n).2 := by
  refine stepL c.Backends.n (fun i => ((i : Int), (upS c.Backends x m i).1, (upS c.Backends x m i).1, (upS c.Backends x m i).2)) (by omega) rfl (fun i go hi => ?_) (fun go => ?_)
  · have hle := upS_le c.Backends x m i
    have h1 : (upS c.Backends x m i).1 + 1 ≤ 9223372036854775807 := by omega
    have h2 : ((upS c.Backends x m i).1 + 1) * 48 ≤ 140737488355328 := by omega
    unfold F_spec_UpCmds_H_B0
    simp only [Int.toNat_natCast, Int.natCast_nonneg, Int.ofNat_lt, hi, decide_true, Bool.and_self, cond_true, Option.bind_some, wsucc (show i < 4611686018427387904 by omega), s_Verdict hf x hx _ m hm, verdV_eq, h1, h2]
    rw [show upS c.Backends x m (i + 1) = bif (verdV x (c.Backends.f i).Name m == 1) && !(c.Backends.f i).Up then addC ⟨9, -1, (c.Backends.f i).Name, 0, 1, 0⟩ (upS c.Backends x m i)
      else bif (verdV x (c.Backends.f i).Name m == 2) && (c.Backends.f i).Up then addC ⟨9, -1, (c.Backends.f i).Name, 0, 0, 0⟩ (upS c.Backends x m i) else upS c.Backends x m i from rfl]
    generalize verdV x (c.Backends.f i).Name m = v
    cases e1 : (v == 1) with
    | true =>
      have e2 : (v == 2) = false := by simp only [beq_iff_eq] at e1; subst e1; rfl
      cases (c.Backends.f i).Up <;> simp only [e2, addC, cond_true, cond_false, Bool.not_true, Bool.not_false, Bool.and_self, Bool.and_true, Bool.and_false, Bool.false_and, Option.bind_some]
    | false =>
      cases (v == 2) <;> cases (c.Backends.f i).Up <;> simp only [addC, cond_true, cond_false, Bool.not_true, Bool.not_false, Bool.and_self, Bool.and_true, Bool.and_false, Bool.false_and, Option.bind_some]
  · unfold F_spec_UpCmds_H_B0
    simp only [Int.lt_irrefl, decide_false, cond_false]
theorem i_Ups {fu : Nat} (hf : 2000000 ≤ fu) (c : S_impl_Config) (x : Sl S_impl_Verdict) (m : Nat) (hb : c.Backends.n ≤ 1048576) (hx : x.n ≤ 60) (he : ∀ i, i < x.n → 0 ≤ (x.f i).Epoch) (hm : m ≤ 10) {k0 : Nat → Nat → (Nat → S_impl_Cmd) → Option S_impl_CmdsResult} :
    L (fun w0 go0 => F_impl_UpCmds_H_B0 fu x (m : Int) c.Backends ((c.Backends.n : Nat) : Int) 0 c.Version c.Backends c.Vips k0 w0.1 w0.2.1 w0.2.2.1 w0.2.2.2 (fun q0 q1 q2 q3 => go0 (q0, q1, q2, q3))) fu ((0, 0, 0, (fun _ => dflt .impl_Cmd)) : Nat × Int × Nat × (Nat → S_impl_Cmd)) = k0 (upS c.Backends x m c.Backends.n).1 (upS c.Backends x m c.Backends.n).1 (upS c.Backends x m c.Backends.n).2 := by
  refine stepL c.Backends.n (fun i => ((upS c.Backends x m i).1, (i : Int), (upS c.Backends x m i).1, (upS c.Backends x m i).2)) (by omega) rfl (fun i go hi => ?_) (fun go => ?_)
  · have hle := upS_le c.Backends x m i
    have h1 : (upS c.Backends x m i).1 + 1 ≤ 9223372036854775807 := by omega
    have h2 : ((upS c.Backends x m i).1 + 1) * 48 ≤ 140737488355328 := by omega
    unfold F_impl_UpCmds_H_B0
    simp only [Int.toNat_natCast, Int.natCast_nonneg, Int.ofNat_lt, hi, decide_true, Bool.and_self, cond_true, Option.bind_some, wsucc (show i < 4611686018427387904 by omega), i_Verdict hf x hx he _ m hm, verdV_eq, h1, h2]
    rw [show upS c.Backends x m (i + 1) = bif (verdV x (c.Backends.f i).Name m == 1) && !(c.Backends.f i).Up then addC ⟨9, -1, (c.Backends.f i).Name, 0, 1, 0⟩ (upS c.Backends x m i)
      else bif (verdV x (c.Backends.f i).Name m == 2) && (c.Backends.f i).Up then addC ⟨9, -1, (c.Backends.f i).Name, 0, 0, 0⟩ (upS c.Backends x m i) else upS c.Backends x m i from rfl]
    generalize verdV x (c.Backends.f i).Name m = v
    cases e1 : (v == 1) with
    | true =>
      have e2 : (v == 2) = false := by simp only [beq_iff_eq] at e1; subst e1; rfl
      cases (c.Backends.f i).Up <;> simp only [e2, addC, cond_true, cond_false, Bool.not_true, Bool.not_false, Bool.and_self, Bool.and_true, Bool.and_false, Bool.false_and, Option.bind_some]
    | false =>
      cases (v == 2) <;> cases (c.Backends.f i).Up <;> simp only [addC, cond_true, cond_false, Bool.not_true, Bool.not_false, Bool.and_self, Bool.and_true, Bool.and_false, Bool.false_and, Option.bind_some]
  · unfold F_impl_UpCmds_H_B0
    simp only [Int.lt_irrefl, decide_false, cond_false]

def noC : Sl S_impl_Cmd := ⟨some true, 0, fun _ => dflt .impl_Cmd⟩
def upcR (c : S_impl_Config) (x : Sl S_impl_Verdict) (p : Int) : S_impl_CmdsResult :=
  bif conff c != 0 then ⟨conff c, noC⟩ else bif verdsf x != 0 then ⟨verdsf x, noC⟩ else bif !rng p 1 10 then ⟨3, noC⟩ else ⟨0, ⟨none, (upS c.Backends x p.toNat c.Backends.n).1, (upS c.Backends x p.toNat c.Backends.n).2⟩⟩
theorem upcR_len {c : S_impl_Config} (hc : ConfLen c) (x : Sl S_impl_Verdict) (p : Int) : (upcR c x p).Cmds.n ≤ 1048576 := by
  unfold upcR
  cases (conff c != 0) with
  | true => exact Nat.zero_le _
  | false =>
    cases (verdsf x != 0) with
    | true => exact Nat.zero_le _
    | false =>
      cases rng p 1 10 with
      | false => exact Nat.zero_le _
      | true => exact Nat.le_trans (upS_le _ _ _ _) hc.backends
theorem rng_nat {p : Int} (h : rng p 1 10 = true) : ∃ m : Nat, p = (m : Int) ∧ m ≤ 10 := by
  unfold rng at h
  simp only [Bool.and_eq_true, decide_eq_true_eq] at h
  exact ⟨p.toNat, by omega, by omega⟩
theorem s_UpCmds {fu : Nat} (hf : 2000000 ≤ fu) (c : S_impl_Config) (hc : ConfLen c) (x : Sl S_impl_Verdict) (p : Int) : F_spec_UpCmds_H fu c x p = some (upcR c x p) := by
  unfold F_spec_UpCmds_H upcR
  simp only [s_ConfFault hf c hc, s_VerdictsFault hf x, p_l1In, Option.bind_some]
  cases (conff c != 0) with
  | true => rfl
  | false =>
    cases h2 : (verdsf x != 0) with
    | true => rfl
    | false =>
      cases h3 : rng p 1 10 with
      | false => rfl
      | true =>
        obtain ⟨m, rfl, hm⟩ := rng_nat h3
        simp only [cond_false, Bool.not_true, s_Ups hf c x m hc.backends (verdsf_good h2).1 hm, Int.toNat_natCast]
theorem i_UpCmds {fu : Nat} (hf : 2000000 ≤ fu) (c : S_impl_Config) (hc : ConfLen c) (x : Sl S_impl_Verdict) (p : Int) : F_impl_UpCmds_H fu c x p = some (upcR c x p) := by
  unfold F_impl_UpCmds_H upcR
  simp only [i_ConfigFault hf c hc, i_VerdictsFault hf x, p_in, Option.bind_some]
  cases h1 : (conff c != 0) with
  | true =>
    have h1' : (conff c == 0) = false := by simpa using h1
    simp only [h1', cond_true, cond_false, Option.bind_some]
    rfl
  | false =>
    have h1' : (conff c == 0) = true := by simpa using h1
    simp only [h1', cond_true, cond_false, Option.bind_some]
    cases h2 : (verdsf x != 0) with
    | true =>
      have h2' : (verdsf x == 0) = false := by simpa using h2
      simp only [h2', cond_true, cond_false, Option.bind_some]
      rfl
    | false =>
      have h2' : (verdsf x == 0) = true := by simpa using h2
      simp only [h2', cond_true, cond_false, Option.bind_some]
      cases h3 : rng p 1 10 with
      | false => rfl
      | true =>
        obtain ⟨m, rfl, hm⟩ := rng_nat h3
        simp only [cond_false, Bool.not_true, i_Ups hf c x m hc.backends (verdsf_good h2).1 (verdsf_good h2).2 hm, Int.toNat_natCast]

theorem plain_FnExactUpCmds (x : S_laws_Config) (v : Sl S_impl_Verdict) (p : Int) {q : Prop} (w : W_laws_Config x) (w' : W_sl_impl_Verdict v) (w2 : q) : F_laws_FnExactUpCmds plainFuel x v p = some true := by
  unfold F_laws_FnExactUpCmds
  obtain ⟨y, h1, s1⟩ := sz_Config pf x w (left := 1048576) (by omega) (by omega)
  simp only [h1, Option.bind_some]
  rcases s1.neg with a | ⟨a1, a2, hx⟩
  · simp [a]
  · have hz : F_laws_szVerdictS plainFuel v y = some (szf y v.n) := by
      unfold F_laws_szVerdictS szf
      by_cases h : IntKind.wrap .i64 (y - (v.n : Int)) < 0 <;> simp [h]
    simp only [show ¬ y < 0 by omega, decide_false, cond_false, hz, Option.bind_some]
    rcases (sz_one (left := y) a1 (by omega) w'.1).neg with b | ⟨b1, b2, b3⟩
    · simp only [b, decide_true, cond_true]
    · have hl := toConf_len hx
      have hC : (⟨x.Version, ⟨none, x.Backends.n, (toConf x).Backends.f⟩, ⟨none, x.Vips.n, (toConf x).Vips.f⟩⟩ : S_impl_Config) = toConf x := rfl
      have hV : (⟨none, (cp id ⟨0, 0, false, 0⟩ v).n, (cp id ⟨0, 0, false, 0⟩ v).f⟩ : Sl S_impl_Verdict) = cp id ⟨0, 0, false, 0⟩ v := rfl
      simp only [show ¬ szf y v.n < 0 by omega, decide_false, cond_false, tu_Config pf x hx, tH_VerdictS pf v b3, Option.bind_some, hC, hV, s_UpCmds pf _ hl, i_UpCmds pf _ hl, e_Config pf _ hl, e_VerdictS pf (cp id ⟨0, 0, false, 0⟩ v) b3, e_CmdsR pf _ (upcR_len hl _ _), Bool.not_true]
      obtain ⟨m, hm, hm0, hm1⟩ := mu_Config pf x hx
      obtain ⟨m2, hm2, hm3⟩ := ml_VerdictS pf (cp id ⟨0, 0, false, 0⟩ v).n m.1 (cp id ⟨0, 0, false, 0⟩ v).n (cp id ⟨0, 0, false, 0⟩ v).f b3 hm0 (by omega)
      have hR := upcR_len hl (cp id ⟨0, 0, false, 0⟩ v) p
      have eR := e_CmdsR pf _ hR
      generalize upcR (toConf x) (cp id ⟨0, 0, false, 0⟩ v) p = R at hR eR
      have m3 := m_CmdS pf R.Cmds.n 1 R.Cmds.n R.Cmds.f (by omega) (by omega) (by omega)
      have g3 := h_CmdS pf (⟨none, R.Cmds.n, marks mkC 6 1 R.Cmds.n R.Cmds.f⟩) 1 (by show R.Cmds.n ≤ _; omega) (by omega) (by omega) (fun i hi => marks_at hi)
      have n3 : ¬ (1 + 6 * (R.Cmds.n : Int) < 0) := by omega
      have n2 : ¬ m2.1 < 0 := by omega
      simp only [hm, hm2, Option.bind_some]
      unfold F_laws_markCmdsResult_L F_laws_heldCmdsResult
      simp only [n2, cond_true, cond_false, Option.bind_some, m3, g3, n3, decide_false, bne_self_eq_false, Bool.not_true, eR]

end Go.Proofs.Ytmnbmponjhglcaa.Pe
