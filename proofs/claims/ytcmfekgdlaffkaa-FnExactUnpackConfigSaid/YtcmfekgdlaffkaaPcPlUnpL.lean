/- The law UnpackConfig, whole. Conditions: none. -/
import Derived.Test.YtcmfekgdlaffkaaPcPlUnp2
namespace Go.Proofs.Ytcmfekgdlaffkaa.Pc
open Go Go.RowKit Go.Proofs Vm
set_option linter.unusedVariables false
set_option linter.unusedSimpArgs false
set_option maxRecDepth 100000

theorem tH_ByteS {fu : Nat} (hf : 2000000 ≤ fu) (x : Sl Int) (hx : x.n ≤ 1048576) : F_laws_toByteS_H fu x = some (cp id 0 x) := by
  unfold F_laws_toByteS_H
  have h1 : (0 : Int) ≤ (x.n : Int) := by omega
  have h2 : (1 : Int) * (x.n : Int) ≤ 281474976710656 := by omega
  have h3 : (x.n : Int) ≤ 9223372036854775807 := by omega
  simp only [h1, h2, h3, decide_true, Bool.and_self, cond_true, Int.toNat_natCast]
  refine toL x id (by omega) (fun i o go hi => ?_)
  unfold F_laws_toByteS_H_B0
  by_cases h : i < x.n
  · simp [h, wsucc (show i < 4611686018427387904 by omega)]
  · simp [h]
theorem e_ByteS {fu : Nat} (hf : 2000000 ≤ fu) (x : Sl Int) (hx : x.n ≤ 1048576) : F_laws_eqByteS fu x x = some true := by
  unfold F_laws_eqByteS
  simp only [bne_self_eq_false, cond_false]
  refine eqL x.n (by omega) (fun i go hi => ?_) (fun go => ?_)
  · unfold F_laws_eqByteS_B0
    simp [hi, wsucc (show i < 4611686018427387904 by omega)]
  · unfold F_laws_eqByteS_B0; simp
theorem ml_ByteS {fu : Nat} (hf : 2000000 ≤ fu) (n : Nat) (k : Int) (rn : Nat) (f : Nat → Int) (hn : n ≤ 1048576) (h0 : 0 ≤ k) (h1 : k ≤ 9000000000000000000) : ∃ y, F_laws_markByteS_L fu n k rn f = some y ∧ y.1 = k + 1 * n := by
  unfold F_laws_markByteS_L
  refine totL n (fun i v => v.1 = k + 1 * i ∧ v.2.1 = (i : Int)) (by omega) ⟨by simp, rfl⟩ (fun i v go hi hv => ?_) (fun v go hv => ?_)
  · obtain ⟨a, b, c⟩ := v
    obtain ⟨e1, e2⟩ := hv
    dsimp only at e1 e2
    subst e1 e2
    unfold F_laws_markByteS_L_B0
    simp only [Int.toNat_natCast, Int.natCast_nonneg, Int.ofNat_lt, hi, decide_true, Bool.and_self, cond_true, Option.bind_some, wsucc (show i < 4611686018427387904 by omega)]
    rw [wrap64 (by omega) (by omega)]
    exact ⟨_, ⟨by dsimp only; omega, rfl⟩, rfl⟩
  · obtain ⟨a, b, c⟩ := v
    obtain ⟨e1, e2⟩ := hv
    dsimp only at e1 e2
    subst e1 e2
    unfold F_laws_markByteS_L_B0
    simp only [Int.lt_irrefl, decide_false, cond_false]
    exact ⟨_, rfl, rfl⟩
theorem xy_ConfigResult {fu : Nat} (hf : 2000000 ≤ fu) (code ver : Int) (bn vn : Nat) (bf : Nat → S_impl_Backend) (vf : Nat → S_impl_Vip) (hb : bn ≤ 1048576) (hv : vn ≤ 1048576) (hI : Vips vn vf) :
    ∃ k bf' vf', F_laws_markConfigResult_U fu code ver bn vn 1 bn bf vn vn vf = some (k, bn, bf', vn, vn, vf') ∧ ¬ k < 0 ∧
      F_laws_heldConfigResult fu ⟨code, ⟨ver, ⟨none, bn, bf'⟩, ⟨none, vn, vf'⟩⟩⟩ 1 = some k := by
  obtain ⟨b0, b1⟩ := kV_bound (k := 1 + 5 * (bn : Int)) hI vn (Nat.le_refl _)
  refine ⟨kV vf (1 + 5 * bn) vn, marks mkB 5 1 bn bf, gV vf (1 + 5 * bn) vn, ?_, by omega, ?_⟩
  · unfold F_laws_markConfigResult_U F_laws_markConfig_U
    simp only [x_BackendS hf bn 1 bn bf hb (by omega) (by omega), x_VipS hf vn (1 + 5 * bn) vf hv (by omega) (by omega) hI, Option.bind_some]
  · unfold F_laws_heldConfigResult F_laws_heldConfig
    have n1 : ¬ (1 + 5 * (bn : Int) < 0) := by omega
    have n2 : ¬ (kV vf (1 + 5 * bn) vn < 0) := by omega
    simp only [y_BackendS hf ⟨none, bn, marks mkB 5 1 bn bf⟩ 1 hb (by omega) (by omega) (fun i hi => marks_at hi), y_VipS hf vn (1 + 5 * bn) vf hv (by omega) (by omega) hI none, Option.bind_some, n1, n2, decide_false, cond_false]
theorem e_ConfigResult {fu : Nat} (hf : 2000000 ≤ fu) (code : Int) (x : S_impl_Config) (hx : ConfLen x) : F_laws_eqConfigResult fu ⟨code, x⟩ ⟨code, x⟩ = some true := by
  unfold F_laws_eqConfigResult
  simp [e_Config hf x hx]
theorem unpT_len {d : Sl Int} (hd : Rows1 d) : ∃ code ver bn vn bf vf, unpT d = (code, ver, bn, vn, bn, bf, vn, vf) ∧ bn ≤ 1048576 ∧ vn ≤ 1048576 ∧ Vips vn vf := by
  have hfail : ∃ code ver bn vn bf vf, failU = (code, ver, bn, vn, bn, bf, vn, vf) ∧ bn ≤ 1048576 ∧ vn ≤ 1048576 ∧ Vips vn vf := ⟨5, 0, 0, 0, _, _, rfl, by omega, by omega, fun m hm => absurd hm (Nat.not_lt_zero _)⟩
  have hl := uC_len hd
  unfold unpT
  cases (uV d).2.1 with
  | true => exact hfail
  | false =>
    cases conff (uC d) != 0 with
    | true => exact hfail
    | false =>
      cases !(strL (confL (uC d)) == strL (rowL d)) with
      | true => exact hfail
      | false => exact ⟨0, _, _, _, _, _, rfl, hl.backends, hl.vips, hl.names⟩
theorem byt_of {x : Sl Int} (w : W_sl_u8 x) : Byt x.n x.f := fun i hi => by
  have := w.2 i hi
  unfold W_u8 Lit.wf at this
  simp only [Bool.and_eq_true, decide_eq_true_eq] at this
  exact this
theorem plain_FnExactUnpackConfig (x : Sl Int) (w : W_sl_u8 x) : F_laws_FnExactUnpackConfig plainFuel x = some true := by
  unfold F_laws_FnExactUnpackConfig
  by_cases hx : ((x.n : Nat) : Int) > 1048576
  · simp only [hx, decide_true, cond_true]
  · have hn : x.n ≤ 1048576 := by omega
    have hd : Rows1 (cp id 0 x) := ⟨fun i hi => by
      have := byt_of w i hi
      show 0 ≤ (if i < x.n then id (x.f i) else 0) ∧ (if i < x.n then id (x.f i) else 0) ≤ 255
      rw [if_pos (show i < x.n from hi)]
      exact this, hn⟩
    have hC : (⟨none, (cp id 0 x).n, (cp id 0 x).f⟩ : Sl Int) = cp id 0 x := rfl
    obtain ⟨y, hy, hy1⟩ := ml_ByteS pf (cp id 0 x).n 1 (cp id 0 x).n (cp id 0 x).f hn (by omega) (by omega)
    obtain ⟨code, ver, bn, vn, bf, vf, e, hb, hv, hI⟩ := unpT_len hd
    obtain ⟨k, bf', vf', q1, q2, q3⟩ := xy_ConfigResult pf code ver bn vn bf vf hb hv hI
    have hyn : ¬ y.1 < 0 := by omega
    have heq := e_ConfigResult pf code ⟨ver, ⟨none, bn, bf⟩, ⟨none, vn, vf⟩⟩ ⟨hb, hv, hI⟩
    simp only [hx, decide_false, cond_false, tH_ByteS pf x hn, Option.bind_some, hC, s_Unpack pf hd, i_Unpack pf hd, e, heq, Bool.not_true, e_ByteS pf (cp id 0 x) hn, hy, hyn, q1, q2, q3, bne_self_eq_false]

end Go.Proofs.Ytcmfekgdlaffkaa.Pc
