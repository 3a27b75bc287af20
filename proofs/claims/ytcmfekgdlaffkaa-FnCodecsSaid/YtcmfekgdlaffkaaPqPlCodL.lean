/- Plain law of FnCodecs. Conditions: none. -/
import Derived.Test.YtcmfekgdlaffkaaPqPlDrawF
namespace Go.Proofs.Ytcmfekgdlaffkaa.Pq
open Go Go.RowKit Go.Proofs Vm
set_option linter.unusedVariables false
set_option linter.unusedSimpArgs false
set_option maxRecDepth 100000
theorem str_row (d : Sl Int) : ByteArray.toList (bytesOf d.n d.f) = strL (rowL d) := strL_of ⟨by simp [rowL], fun i hi => by simp [rowL, List.getD_eq_getElem?_getD, hi]⟩
theorem c_UnpackCmd {fu : Nat} (hf : 2000000 ≤ fu) {d : Sl Int} (hd : Rows1 d) : ∃ r, F_impl_UnpackCmd fu d = some r ∧ F_spec_UnpackCmd fu d = some r ∧ (r.Code = 0 → ∃ n f, F_impl_PackCmd_H fu r.Cmd = some ⟨0, ⟨none, n, f⟩⟩ ∧ ByteArray.toList (bytesOf n f) = ByteArray.toList (bytesOf d.n d.f)) := by
  refine ⟨_, i_UnpackCmd hf hd.byt, s_UnpackCmd hf hd.byt, ?_⟩
  unfold cT
  cases h : (((d.n : Nat) : Int) != 14) with
  | true => intro h; exact absurd h (show ¬ (5 : Int) = 0 by decide)
  | false =>
    cases h2 : cmdf (uCmd d) != 0 with
    | true => intro h; exact absurd h (show ¬ (5 : Int) = 0 by decide)
    | false =>
      intro _
      have hn : d.n = 14 := by simp at h; omega
      obtain ⟨n, f, e, hB⟩ := i_packCmd hf (uCmd d)
      refine ⟨n, f, ?_, ?_⟩
      · unfold F_impl_PackCmd_H
        simp only [cond_false, i_CmdFault, Option.bind_some, h2]
        rw [e]; rfl
      · rw [strL_of hB, cmd_back hd.byt hn, str_row]
theorem c_UnpackConfig {fu : Nat} (hf : 2000000 ≤ fu) {d : Sl Int} (hd : Rows1 d) : ∃ t, F_impl_UnpackConfig fu d = some t ∧ F_spec_UnpackConfig fu d = some t ∧ (t.Code = 0 → ∃ n f, F_impl_PackConfig fu t.Config = some ⟨0, ⟨none, n, f⟩⟩ ∧ ByteArray.toList (bytesOf n f) = ByteArray.toList (bytesOf d.n d.f)) := by
  refine ⟨_, i_Unpack hf hd, s_Unpack hf hd, ?_⟩
  unfold unpT
  cases h : (uV d).2.1 with
  | true => intro h; exact absurd h (show ¬ (5 : Int) = 0 by decide)
  | false =>
    cases h2 : conff (uC d) != 0 with
    | true => intro h; exact absurd h (show ¬ (5 : Int) = 0 by decide)
    | false =>
      cases h3 : strL (confL (uC d)) == strL (rowL d) with
      | false => intro h; exact absurd h (show ¬ (5 : Int) = 0 by decide)
      | true =>
        intro _
        obtain ⟨n, f, e, hB⟩ := i_pack hf (uC d) (uC_pack hd)
        refine ⟨n, f, ?_, ?_⟩
        · show F_impl_PackConfig fu (uC d) = _
          unfold F_impl_PackConfig
          rw [i_ConfigFault hf _ (uC_len hd)]
          simp only [Option.bind_some, h2, cond_false]
          rw [e]; rfl
        · rw [strL_of hB, eq_of_beq h3, str_row]
theorem c_PackCmd {fu : Nat} (hf : 2000000 ≤ fu) (x : S_impl_Cmd) : ∃ r r', F_impl_PackCmd_H fu x = some r ∧ F_spec_PackCmd_H fu x = some r' ∧ r'.Code = r.Code ∧ (r.Code = 0 → F_impl_UnpackCmd fu ⟨none, r.Bytes.n, r.Bytes.f⟩ = some ⟨0, x⟩) := by
  unfold F_impl_PackCmd_H F_spec_PackCmd_H
  simp only [i_CmdFault, s_CmdFault, Option.bind_some]
  cases h : cmdf x != 0 with
  | true => exact ⟨_, _, rfl, rfl, rfl, fun h2 => by simp at h; exact absurd h2 h⟩
  | false =>
    obtain ⟨n, f, e, hB⟩ := i_packCmd hf x
    obtain ⟨n', f', e', hB'⟩ := s_packCmd hf x
    simp only [cond_false]
    rw [e, e']
    refine ⟨_, _, rfl, rfl, rfl, fun _ => ?_⟩
    have h0 : cmdf x = 0 := by simpa using h
    obtain ⟨q1, q2⟩ := cmd_read (d := ⟨none, n, f⟩) h0 hB
    dsimp only
    rw [i_UnpackCmd hf (hB.byt (cmdL_byt _))]
    unfold cT
    rw [q1, q2, h0]
    rfl
theorem c_PackConfig {fu : Nat} (hf : 2000000 ≤ fu) {c : S_impl_Config} (hc : Few 24 c) : ∃ r r', F_impl_PackConfig fu c = some r ∧ F_spec_PackConfig fu c = some r' ∧ r'.Code = r.Code ∧ (r.Code = 0 → ∃ t, F_impl_UnpackConfig fu r.Bytes = some t ∧ t.Code = 0 ∧ F_impl_SameConfigs fu t.Config c = some true) := by
  unfold F_impl_PackConfig F_spec_PackConfig
  rw [i_ConfigFault hf _ (few_len hc (by omega)), s_ConfFault hf _ (few_len hc (by omega))]
  simp only [Option.bind_some]
  cases h : conff c != 0 with
  | true => exact ⟨_, _, rfl, rfl, rfl, fun h2 => by simp at h; exact absurd h2 h⟩
  | false =>
    obtain ⟨n, f, e, hB⟩ := i_pack hf c (few_small hc (by omega))
    obtain ⟨n', f', e', hB'⟩ := s_pack hf c (few_small hc (by omega))
    simp only [cond_false]
    rw [e, e']
    refine ⟨_, _, rfl, rfl, rfl, fun _ => ?_⟩
    have h0 : conff c = 0 := by simpa using h
    obtain ⟨u, eu, hu⟩ := unp_pack (d := ⟨none, n, f⟩) h0 hB
    have hn : n ≤ 1048576 := by
      rw [hB.len, confL_len]
      have h1 := hc.backs
      have h3 := hc.vips
      have h2 := vipsN_le (f := c.Vips.f) (b := 24) c.Vips.n 0 (fun j _ hj => hc.names j (by omega))
      omega
    have hr : Rows1 ⟨none, n, f⟩ := ⟨hB.byt (confL_byt _), hn⟩
    refine ⟨okU u, ?_, rfl, ?_⟩
    · dsimp only; rw [i_Unpack hf hr, eu]
    · have hl : ConfLen u := ⟨by rw [hu.bn]; have := hc.backs; omega, by rw [hu.vn]; have := hc.vips; omega, fun i hi => by
        have hi := hi; rw [hu.vn] at hi; rw [(hu.vips i hi).len]; have := hc.names i hi; omega⟩
      unfold F_impl_SameConfigs
      show (F_impl_sameConfigs fu u c).bind _ = _
      rw [i_sameConfigs hf u c ⟨hl.backends, hl.vips, hl.names⟩]
      have := sameC_of hu
      show some (sameC u c) = _
      rw [this]
theorem plain_FnCodecs (x : Sl Int) (w : W_sl_u8 x) : F_laws_FnCodecs plainFuel x = some true := by
  have hf : 2000000 ≤ plainFuel := Nat.le_of_ble_eq_true rfl
  generalize plainFuel = fu at hf ⊢
  unfold F_laws_FnCodecs F_laws_FnCodecs_t1 F_laws_FnCodecs_t0 F_laws_FnCodecs_t2 F_laws_lwBig
  simp only [Option.bind_some]
  cases hbig : decide (((x.n : Nat) : Int) > 1048576) with
  | true => rfl
  | false =>
  have hb : Src x := src_of w (by simp only [decide_eq_false_iff_not] at hbig; omega)
  obtain ⟨d1, a1, R1⟩ := d_UnpackCmd hf hb
  obtain ⟨d2, a2, R2⟩ := d_UnpackConfig hf hb
  obtain ⟨c1, a3, _⟩ := d_PackCmd fu hb
  obtain ⟨c2, a4, R4⟩ := d_PackConfig hf hb
  obtain ⟨r1, i1, s1, k1⟩ := c_UnpackCmd hf R1
  obtain ⟨r2, i2, s2, k2⟩ := c_UnpackConfig hf R2
  obtain ⟨r3, q3, i3, s3, e3, k3⟩ := c_PackCmd hf c1
  obtain ⟨r4, q4, i4, s4, e4, k4⟩ := c_PackConfig hf R4
  simp only [a1, a2, a3, a4, i1, s1, i2, s2, i3, s3, i4, s4, e3, e4, Option.bind_some, cond_false, bne_self_eq_false, beq_self_eq_true]
  have z1 : (r1.Code != 0) = !(r1.Code == 0) := rfl
  have z2 : (r2.Code != 0) = !(r2.Code == 0) := rfl
  have z4 : (r4.Code != 0) = !(r4.Code == 0) := rfl
  simp only [z1, z2, z4]
  have y1 : (r1.Code == 0) = false ∨ ∃ n f, (r1.Code == 0) = true ∧ F_impl_PackCmd_H fu r1.Cmd = some ⟨0, ⟨none, n, f⟩⟩ ∧ ByteArray.toList (bytesOf n f) = ByteArray.toList (bytesOf d1.n d1.f) := by
    cases h : r1.Code == 0 with
    | false => exact .inl rfl
    | true => obtain ⟨n, f, p, t⟩ := k1 (by simpa using h); exact .inr ⟨n, f, rfl, p, t⟩
  have y2 : (r2.Code == 0) = false ∨ ∃ n f, (r2.Code == 0) = true ∧ F_impl_PackConfig fu r2.Config = some ⟨0, ⟨none, n, f⟩⟩ ∧ ByteArray.toList (bytesOf n f) = ByteArray.toList (bytesOf d2.n d2.f) := by
    cases h : r2.Code == 0 with
    | false => exact .inl rfl
    | true => obtain ⟨n, f, p, t⟩ := k2 (by simpa using h); exact .inr ⟨n, f, rfl, p, t⟩
  have y3 : (r3.Code == 0) = false ∨ (r3.Code == 0) = true ∧ F_impl_UnpackCmd fu ⟨none, r3.Bytes.n, r3.Bytes.f⟩ = some ⟨0, c1⟩ := by
    cases h : r3.Code == 0 with
    | false => exact .inl rfl
    | true => exact .inr ⟨rfl, k3 (by simpa using h)⟩
  have y4 : (r4.Code == 0) = false ∨ ∃ t, (r4.Code == 0) = true ∧ F_impl_UnpackConfig fu r4.Bytes = some t ∧ t.Code = 0 ∧ F_impl_SameConfigs fu t.Config c2 = some true := by
    cases h : r4.Code == 0 with
    | false => exact .inl rfl
    | true => obtain ⟨t, p⟩ := k4 (by simpa using h); exact .inr ⟨t, rfl, p⟩
  clear k1 k2 k3 k4 a1 a2 a3 a4 i1 i2 i3 i4 s1 s2 s3 s4 e3 e4 z1 z2 z4
  rcases y1 with h1 | ⟨n1, f1, h1, p1, t1⟩ <;> rcases y2 with h2 | ⟨n2, f2, h2, p2, t2⟩ <;> rcases y3 with h3 | ⟨h3, p3⟩ <;> rcases y4 with h4 | ⟨t, h4, p4, p5, p6⟩ <;>
    simp only [*, cond_true, cond_false, Bool.not_true, Bool.not_false, Option.bind_some, beq_self_eq_true, Bool.and_self]
end Go.Proofs.Ytcmfekgdlaffkaa.Pq
