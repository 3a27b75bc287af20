/- The law MayGo, whole. Conditions: none. -/
import Derived.Test.YtcmfekgdlaffkaaPmPlMay
namespace Go.Proofs.Ytcmfekgdlaffkaa.Pm
open Go Go.RowKit Go.Proofs Vm
set_option linter.unusedVariables false
set_option linter.unusedSimpArgs false
set_option maxRecDepth 100000

theorem tH_ByteS {fu : Nat} (hf : 2000000 ≤ fu) (x : Sl Int) (hx : x.n ≤ 1048576) : F_laws_toByteS_H fu x = some (cp id 0 x) := by
  unfold F_laws_toByteS_H
  have h1 : (0 : Int) ≤ (x.n : Int) := by omega
  have h2 : (1 : Int) * (x.n : Int) ≤ 281474976710656 := by omega
  have h3 : (x.n : Int) ≤ 9223372036854775807 := by omega
  simp only [h1, h2, h3, decide_true, Bool.and_self, cond_true, Int.toNat_natCast]
  refine toL x id (by omega) (fun i o go hi => ?_)
  unfold F_laws_toByteS_H_B0
  by_cases h : i < x.n
  · simp [h, wsucc (show i < 4611686018427387904 by omega)]
  · simp [h]
theorem e_ByteS {fu : Nat} (hf : 2000000 ≤ fu) (x : Sl Int) (hx : x.n ≤ 1048576) : F_laws_eqByteS fu x x = some true := by
  unfold F_laws_eqByteS
  simp only [bne_self_eq_false, cond_false]
  refine eqL x.n (by omega) (fun i go hi => ?_) (fun go => ?_)
  · unfold F_laws_eqByteS_B0
    simp [hi, wsucc (show i < 4611686018427387904 by omega)]
  · unfold F_laws_eqByteS_B0; simp
theorem byt_of {x : Sl Int} (w : W_sl_u8 x) : Byt x.n x.f := fun i hi => by
  have := w.2 i hi
  unfold W_u8 Lit.wf at this
  simp only [Bool.and_eq_true, decide_eq_true_eq] at this
  exact this

def rowB (d : Sl Int) : List Int := (List.range d.n).map d.f
def bkOf (c : S_impl_Config) (nm : Int) : S_impl_Backend := c.Backends.f ((hasB c.Backends nm).getD 0)
def okN (c : S_impl_Config) (a : Int) (d out : Sl Int) (nm : Int) : Bool := ((bkOf c nm).Stage != 3) && (strL (wrapL a (bkOf c nm).Address d) == strL (rowB out))
def flowP (p : S_impl_Packet) : S_impl_Flow := ⟨p.From, p.To, p.Proto, p.FromP, p.ToP⟩
def anyN (c : S_impl_Config) (a : Int) (d out : Sl Int) (v : Nat) : Bool := (scan (fun i => bif okN c a d out ((c.Vips.f v).Names.f i) then some i else none) (c.Vips.f v).Names.n 0).isSome
def mayT (c : S_impl_Config) (a : Int) (d out : Sl Int) : Bool :=
  bif conff c != 0 then false else bif ((out.n : Nat) : Int) == 0 then true else bif (parseT d).Code != 0 then false else bif !rng a 0 4294967295 then false else
  (vipFor c (flowP (parseT d).Packet)).elim false (fun v => anyN c a d out v)
theorem parse_len {d : Sl Int} (h : ((parseT d).Code != 0) = false) : d.n ≤ 224 := by
  unfold parseT at h
  cases hr : rng (d.n : Int) 24 224 with
  | true => exact (rng_len hr).2
  | false => rw [hr] at h; cases h
theorem s_Gre {g : Nat} (hg : 2000000 ≤ g) (a t : Int) (d : Sl Int) (ht : rng t 0 4294967295 = true) (hn : d.n ≤ 224) : ∃ y, F_spec_WrapGre g a t d = some y ∧ (rng a 0 4294967295 = false → (y.Code == 0) = false) ∧ (rng a 0 4294967295 = true → (y.Code == 0) = true ∧ ByteArray.toList (bytesOf y.Bytes.n fun i => y.Bytes.f i) = strL (wrapL a t d)) := by
  obtain ⟨n, f, e, h⟩ := s_Wrap hg a t d (by omega)
  unfold F_spec_WrapGre
  simp only [p_l2Address, Option.bind_some, ht]
  cases rng a 0 4294967295 with
  | false => exact ⟨_, rfl, fun _ => rfl, fun h => by cases h⟩
  | true =>
    have h2 : ¬ ((d.n : Nat) : Int) > 230 := by omega
    simp only [Bool.not_true, cond_false, Option.bind_some, h2, decide_false, e]
    exact ⟨_, rfl, fun h => (by cases h), fun _ => ⟨rfl, strL_of h⟩⟩
theorem back_addr {c : S_impl_Config} (hc : ConfOk c) {b : Nat} (hb : b < c.Backends.n) : rng (c.Backends.f b).Address 0 4294967295 = true := by
  have := hc.back b hb
  unfold backOk at this
  simp only [Bool.and_eq_true] at this
  exact this.2.1
theorem s_Any {g : Nat} (hg : 2000000 ≤ g) {c : S_impl_Config} (hl : ConfLen c) (hc : ConfOk c) (a : Int) (d out : Sl Int) (hd : d.n ≤ 224) {v : Nat} (hv : v < c.Vips.n) (p1 p2 p3 p4 p5 p6 : Int) (p7 : Sl Int) :
    L (fun w0 go0 => F_spec_MayGo_B0 g a d out (c.Vips.f v).Names c.Version c.Backends c.Vips p1 p2 p3 p4 p5 p6 p7 (fun _ _ _ _ _ _ _ => some true) (some false) w0 go0) g (0 : Int) = some (rng a 0 4294967295 && anyN c a d out v) := by
  have hN := hl.names v hv
  refine scanL (c.Vips.f v).Names.n (fun i => bif rng a 0 4294967295 && okN c a d out ((c.Vips.f v).Names.f i) then some i else none) (fun _ => some true) (some false) (by omega) (fun i go hi => ?_) (fun go => ?_) ?_
  · obtain ⟨b, hb⟩ := hc.names v hv i hi
    obtain ⟨b1, b2⟩ := hasB_is hb
    have hat : atB c.Backends ((c.Vips.f v).Names.f i) = (b : Int) := by unfold atB; rw [hb]; rfl
    obtain ⟨y, e, y1, y2⟩ := s_Gre hg a (c.Backends.f b).Address d (back_addr hc b1) hd
    have hk : bkOf c ((c.Vips.f v).Names.f i) = c.Backends.f b := by unfold bkOf; rw [hb]; rfl
    unfold F_spec_MayGo_B0
    simp only [Int.toNat_natCast, Int.natCast_nonneg, Int.ofNat_lt, hi, decide_true, Bool.and_self, cond_true, Option.bind_some, wsucc (show i < 4611686018427387904 by omega)]
    rw [s_At hg ⟨c.Version, c.Backends, c.Vips⟩ hl.backends]
    simp only [Option.bind_some, hat, Int.natCast_nonneg, Int.toNat_natCast, b1, decide_true, Bool.and_self, cond_true, e]
    unfold okN
    rw [hk]
    cases hs : ((c.Backends.f b).Stage != 3) with
    | false => simp only [cond_false, Option.bind_some, Bool.false_and, Bool.and_false]; rfl
    | true =>
      simp only [cond_true, Bool.true_and]
      cases hr : rng a 0 4294967295 with
      | false =>
        rw [y1 hr]
        simp only [cond_false, Option.bind_some, Bool.false_and]; rfl
      | true =>
        obtain ⟨z1, z2⟩ := y2 hr
        have z3 : ByteArray.toList (bytesOf out.n fun i => out.f i) = strL (rowB out) := strL_of (bs_self out.n out.f)
        rw [z1, z2, z3]
        simp only [cond_true, Option.bind_some, Bool.true_and]
        cases (strL (wrapL a (c.Backends.f b).Address d) == strL (rowB out)) <;> rfl
  · unfold F_spec_MayGo_B0
    simp only [Int.lt_irrefl, decide_false, cond_false]
  · unfold anyN
    cases hr : rng a 0 4294967295 with
    | false =>
      rw [scan_all_none _ _ (fun i hi => by simp)]
      rfl
    | true =>
      simp only [Bool.true_and]
      cases scan (fun i => bif okN c a d out ((c.Vips.f v).Names.f i) then some i else none) (c.Vips.f v).Names.n 0 <;> rfl
theorem s_MayGo {g : Nat} (hg : 2000000 ≤ g) {c : S_impl_Config} (hl : ConfLen c) (a : Int) (d out : Sl Int) (hd : Byt d.n d.f) (hn : d.n ≤ 1048576) : F_spec_MayGo g c a d out = some (mayT c a d out) := by
  unfold F_spec_MayGo mayT
  rw [s_ConfFault hg c hl]
  simp only [Option.bind_some]
  cases hc0 : (conff c != 0) with
  | true => rfl
  | false =>
    have hc : ConfOk c := conf_ok (by simpa using hc0)
    simp only [cond_false]
    cases ho : ((out.n : Nat) : Int) == 0 with
    | true => rfl
    | false =>
      simp only [cond_false]
      rw [s_Parse hg hd hn]
      simp only [Option.bind_some]
      cases hp : ((parseT d).Code != 0) with
      | true => rfl
      | false =>
        simp only [cond_false]
        unfold F_spec_l3Of
        simp only [Option.bind_some]
        rw [s_For hg hl]
        simp only [Option.bind_some]
        show (bif decide ((vipFor c (flowP (parseT d).Packet)).elim (-1) (fun j => (j : Int)) < 0) then some false else _) = _
        cases hv : vipFor c (flowP (parseT d).Packet) with
        | none => cases rng a 0 4294967295 <;> rfl
        | some v =>
          have hvl := vipFor_lt hv
          simp only [Option.elim_some, show ¬ ((v : Int) < 0) by omega, decide_false, cond_false]
          have h0 : vipFor c ⟨(parseT d).Packet.From, (parseT d).Packet.To, (parseT d).Packet.Proto, (parseT d).Packet.FromP, (parseT d).Packet.ToP⟩ = some v := hv
          rw [h0]
          simp only [Option.elim_some, Int.natCast_nonneg, Int.toNat_natCast, hvl, decide_true, Bool.and_self, cond_true, Option.bind_some]
          rw [s_Any hg hl hc a d out (parse_len hp) hvl]
          cases rng a 0 4294967295 <;> rfl
theorem hasN_self {x : Sl Int} {i : Nat} (hi : i < x.n) : (hasN x (x.f i)).isSome = true := by
  cases h : hasN x (x.f i) with
  | some j => rfl
  | none =>
    have := (scan_none.1 h) i (Nat.zero_le _) (by omega)
    simp at this
theorem i_c1 {g : Nat} (hg : 2000000 ≤ g) {c : S_impl_Config} (hl : ConfLen c) (hc : ConfOk c) (a : Int) (d out : Sl Int) (hd : d.n ≤ 224) (f : S_impl_Flow) {v : Nat} (hv : vipFor c f = some v) {i : Nat} (hi : i < (c.Vips.f v).Names.n) :
    F_impl_MayGo_c1 g ((c.Vips.f v).Names.f i) c.Version c.Backends c.Vips f.From f.To f.Proto f.FromP f.ToP out a d = some (okN c a d out ((c.Vips.f v).Names.f i)) := by
  have hvl := vipFor_lt hv
  obtain ⟨b, hb⟩ := hc.names v hvl i hi
  obtain ⟨b1, b2⟩ := hasB_is hb
  have hat : atB c.Backends ((c.Vips.f v).Names.f i) = (b : Int) := by unfold atB; rw [hb]; rfl
  have hk : bkOf c ((c.Vips.f v).Names.f i) = c.Backends.f b := by unfold bkOf; rw [hb]; rfl
  have hs : servs c f ((c.Vips.f v).Names.f i) = ((c.Backends.f b).Stage != 3) := by
    unfold servs
    rw [hv]
    simp only [Option.elim_some, hasN_self hi, Bool.true_and, hb, Option.getD_some]
  obtain ⟨n, z, e, h⟩ := i_Wrap hg a (c.Backends.f b).Address d (by omega)
  unfold F_impl_MayGo_c1
  have e1 : F_impl_Config_serves g (⟨c.Version, c.Backends, c.Vips⟩ : S_impl_Config) (⟨f.From, f.To, f.Proto, f.FromP, f.ToP⟩ : S_impl_Flow) ((c.Vips.f v).Names.f i) = some (servs c f ((c.Vips.f v).Names.f i)) := i_serves hg hl hc f _
  have e2 : F_impl_Config_backend g (⟨c.Version, c.Backends, c.Vips⟩ : S_impl_Config) ((c.Vips.f v).Names.f i) = some (atB c.Backends ((c.Vips.f v).Names.f i)) := i_backend hg c hl.backends _
  rw [e1, e2, hs]
  unfold okN
  rw [hk]
  simp only [Option.bind_some, hat, Int.natCast_nonneg, Int.toNat_natCast, b1, decide_true, Bool.and_self, cond_true]
  cases ((c.Backends.f b).Stage != 3) with
  | false => rfl
  | true =>
    simp only [cond_true, Bool.true_and]
    rw [e]
    unfold F_bytes_Equal
    have z3 : ByteArray.toList (bytesOf out.n fun i => out.f i) = strL (rowB out) := strL_of (bs_self out.n out.f)
    have z4 : ByteArray.toList (bytesOf n fun i => z i) = strL (wrapL a (c.Backends.f b).Address d) := strL_of h
    simp only [Option.bind_some]
    rw [z3, z4]
    congr 1
    rw [Bool.eq_iff_iff, beq_iff_eq, beq_iff_eq]
    exact eq_comm
theorem i_Any {g : Nat} (hg : 2000000 ≤ g) {c : S_impl_Config} (hl : ConfLen c) (hc : ConfOk c) (a : Int) (d out : Sl Int) (hd : d.n ≤ 224) (f : S_impl_Flow) {v : Nat} (hv : vipFor c f = some v) :
    F_slices_ContainsFunc_int64_int64_w_impl_MayGo_c1 g (c.Vips.f v).Names c.Version c.Backends c.Vips f.From f.To f.Proto f.FromP f.ToP out a d = some (anyN c a d out v) := by
  have hvl := vipFor_lt hv
  have hN := hl.names v hvl
  unfold F_slices_ContainsFunc_int64_int64_w_impl_MayGo_c1
  have e : F_slices_IndexFunc_int64_int64_w_impl_MayGo_c1 g (c.Vips.f v).Names c.Version c.Backends c.Vips f.From f.To f.Proto f.FromP f.ToP out a d = some ((scan (fun i => bif okN c a d out ((c.Vips.f v).Names.f i) then some i else none) (c.Vips.f v).Names.n 0).elim (-1) (fun j => (j : Int))) := by
    unfold F_slices_IndexFunc_int64_int64_w_impl_MayGo_c1
    refine scanL (c.Vips.f v).Names.n (fun i => bif okN c a d out ((c.Vips.f v).Names.f i) then some i else none) (fun j => some ((j : Nat) : Int)) (some (-1)) (by omega) (fun i go hi => ?_) (fun go => ?_) ?_
    · unfold F_slices_IndexFunc_int64_int64_w_impl_MayGo_c1_B0
      simp only [Int.toNat_natCast, Int.natCast_nonneg, Int.ofNat_lt, hi, decide_true, Bool.and_self, cond_true, Option.bind_some, wsucc (show i < 4611686018427387904 by omega), i_c1 hg hl hc a d out hd f hv hi]
      cases okN c a d out ((c.Vips.f v).Names.f i) <;> rfl
    · unfold F_slices_IndexFunc_int64_int64_w_impl_MayGo_c1_B0
      simp only [Int.lt_irrefl, decide_false, cond_false]
    · cases scan (fun i => bif okN c a d out ((c.Vips.f v).Names.f i) then some i else none) (c.Vips.f v).Names.n 0 <;> rfl
  rw [e]
  unfold anyN
  cases scan (fun i => bif okN c a d out ((c.Vips.f v).Names.f i) then some i else none) (c.Vips.f v).Names.n 0 with
  | none => rfl
  | some j =>
    have : (j : Int) ≥ 0 := by omega
    simp only [Option.bind_some, Option.elim_some, this, decide_true, Option.isSome_some]
theorem i_MayGo {g : Nat} (hg : 2000000 ≤ g) {c : S_impl_Config} (hl : ConfLen c) (a : Int) (d out : Sl Int) (hd : Byt d.n d.f) (hn : d.n ≤ 1048576) : F_impl_MayGo g c a d out = some (mayT c a d out) := by
  unfold F_impl_MayGo mayT
  rw [i_ConfigFault hg c hl]
  simp only [Option.bind_some]
  cases hc0 : (conff c != 0) with
  | true => rfl
  | false =>
    have hc : ConfOk c := conf_ok (by simpa using hc0)
    simp only [cond_false]
    cases ho : ((out.n : Nat) : Int) == 0 with
    | true => rfl
    | false =>
      simp only [cond_false]
      rw [i_Parse hg hd hn]
      simp only [Option.bind_some]
      cases hp : ((parseT d).Code != 0) with
      | true => rfl
      | false =>
        simp only [cond_false]
        rw [p_isAddress, p_l2Address]
        simp only [Option.bind_some]
        cases hr : rng a 0 4294967295 with
        | false => rfl
        | true =>
          simp only [Bool.not_true, cond_false]
          unfold F_impl_flowOf
          simp only [Option.bind_some]
          have h0 : F_impl_Config_vipOf g c ⟨(parseT d).Packet.From, (parseT d).Packet.To, (parseT d).Packet.Proto, (parseT d).Packet.FromP, (parseT d).Packet.ToP⟩ = some ((vipFor c (flowP (parseT d).Packet)).elim (-1) (fun j => (j : Int))) := i_vipOf hg hl _
          rw [h0]
          simp only [Option.bind_some]
          cases hv : vipFor c (flowP (parseT d).Packet) with
          | none => rfl
          | some v =>
            have hvl := vipFor_lt hv
            simp only [Option.elim_some, show ¬ ((v : Int) < 0) by omega, decide_false, cond_false, Int.natCast_nonneg, Int.toNat_natCast, hvl, decide_true, Bool.and_self, cond_true, Option.bind_some]
            have h1 := i_Any hg hl hc a d out (parse_len hp) (flowP (parseT d).Packet) hv
            simp only [flowP] at h1
            rw [h1]
            rfl
theorem plain_FnExactMayGo (x : S_laws_Config) (a : Int) (d o : Sl Int) (w : W_laws_Config x) (w2 : W_i64 a) (w3 : W_sl_u8 d) (w4 : W_sl_u8 o) : F_laws_FnExactMayGo plainFuel x a d o = some true := by
  unfold F_laws_FnExactMayGo
  by_cases h1 : ((d.n : Nat) : Int) > 1048576
  · simp only [h1, decide_true, cond_true]
  · simp only [h1, decide_false, cond_false]
    by_cases h2 : ((o.n : Nat) : Int) > 1048576
    · simp only [h2, decide_true, cond_true]
    · simp only [h2, decide_false, cond_false]
      have hd : d.n ≤ 1048576 := by omega
      have ho : o.n ≤ 1048576 := by omega
      obtain ⟨y, e1, s1⟩ := sz_Config pf x w (left := 1048576) (by omega) (by omega)
      simp only [e1, Option.bind_some]
      rcases s1.neg with b | ⟨b1, b2, hx⟩
      · simp only [b, decide_true, cond_true]
      · have hl := toConf_len hx
        have hbyt : Byt (cp id 0 d).n (cp id 0 d).f := fun i hi => by
          have := byt_of w3 i hi
          show 0 ≤ (if i < d.n then id (d.f i) else 0) ∧ (if i < d.n then id (d.f i) else 0) ≤ 255
          rw [if_pos (show i < d.n from hi)]
          exact this
        have hC : (⟨x.Version, ⟨none, x.Backends.n, (toConf x).Backends.f⟩, ⟨none, x.Vips.n, (toConf x).Vips.f⟩⟩ : S_impl_Config) = toConf x := rfl
        have hD : (⟨none, (cp id 0 d).n, (cp id 0 d).f⟩ : Sl Int) = cp id 0 d := rfl
        have hO : (⟨none, (cp id 0 o).n, (cp id 0 o).f⟩ : Sl Int) = cp id 0 o := rfl
        simp only [show ¬ y < 0 by omega, decide_false, cond_false, tu_Config pf x hx, tH_ByteS pf d hd, tH_ByteS pf o ho, Option.bind_some, hC, hD, hO, s_MayGo pf hl a (cp id 0 d) (cp id 0 o) hbyt hd, i_MayGo pf hl a (cp id 0 d) (cp id 0 o) hbyt hd, beq_self_eq_true, Bool.not_true, e_Config pf (toConf x) hl, e_ByteS pf (cp id 0 d) hd, e_ByteS pf (cp id 0 o) ho]

end Go.Proofs.Ytcmfekgdlaffkaa.Pm
