/- The law UnpackConfig: what is read, and that it is the same. Conditions: none. -/
import Derived.Test.YtcmfekgdlaffkaaPqPlUnp
namespace Go.Proofs.Ytcmfekgdlaffkaa.Pq
open Go Go.RowKit Go.Proofs Vm
set_option linter.unusedVariables false
set_option linter.unusedSimpArgs false
set_option maxRecDepth 100000
theorem rd_at {d : Sl Int} {a k : Nat} {bad : Bool} (h : (rd d a k bad).2.2 = false) : bad = false ∧ (rd d a k bad).2.1 = a + k := by
  unfold rd at h ⊢
  cases hq : bad || decide (d.n < a + k) with
  | true => rw [hq] at h; cases h
  | false =>
    simp only [Bool.or_eq_false_iff] at hq
    exact ⟨hq.1, rfl⟩
theorem rdB_at {d : Sl Int} : ∀ (m a : Nat) (bad : Bool) (l : Nat) (f : Nat → S_impl_Backend), (rdB d m a bad l f).2.1 = false → bad = false ∧ (rdB d m a bad l f).1 + 7 * l = a + 7 * (rdB d m a bad l f).2.2.1
  | 0, a, bad, l, f, h => ⟨h, rfl⟩
  | m + 1, a, bad, l, f, h => by
    cases bad with
    | true => cases h
    | false =>
      obtain ⟨h3, e⟩ := rdB_at m (bk3 d a).2.1 (bk3 d a).2.2 (l + 1) (apB l f (mkBk (bk1 d a).1 (bk2 d a).1 (bk3 d a).1)) h
      obtain ⟨h2, e3⟩ := rd_at h3
      obtain ⟨h1, e2⟩ := rd_at h2
      obtain ⟨_, e1⟩ := rd_at h1
      refine ⟨rfl, ?_⟩
      have e3 : (bk3 d a).2.1 = (bk2 d a).2.1 + 1 := e3
      have e2 : (bk2 d a).2.1 = (bk1 d a).2.1 + 4 := e2
      have e1 : (bk1 d a).2.1 = a + 2 := e1
      simp only [rdB, cond_false]
      omega
theorem rdN_at {d : Sl Int} : ∀ (m a : Nat) (bad : Bool) (l : Nat) (f : Nat → Int), (rdN d m a bad l f).2.1 = false → bad = false ∧ (rdN d m a bad l f).1 + 2 * l = a + 2 * (rdN d m a bad l f).2.2.1
  | 0, a, bad, l, f, h => ⟨h, rfl⟩
  | m + 1, a, bad, l, f, h => by
    cases bad with
    | true => cases h
    | false =>
      obtain ⟨h3, e⟩ := rdN_at m (rd d a 2 false).2.1 (rd d a 2 false).2.2 (l + 1) (apN l f (rd d a 2 false).1) h
      obtain ⟨_, e1⟩ := rd_at h3
      refine ⟨rfl, ?_⟩
      simp only [rdN, cond_false]
      omega
theorem vipsN_congr {f g : Nat → S_impl_Vip} : ∀ (m i : Nat), (∀ j, i ≤ j → j < i + m → f j = g j) → vipsN f i m = vipsN g i m
  | 0, i, _ => rfl
  | m + 1, i, h => by simp only [vipsN]; rw [h i (Nat.le_refl _) (by omega), vipsN_congr m (i + 1) (fun j h1 h2 => h j (by omega) (by omega))]
theorem vipsN_snoc (f : Nat → S_impl_Vip) : ∀ (m i : Nat), vipsN f i (m + 1) = vipsN f i m + (8 + 2 * (f (i + m)).Names.n)
  | 0, i => by simp [vipsN]
  | m + 1, i => by
    rw [vipsN, vipsN_snoc f m (i + 1), vipsN, show i + 1 + m = i + (m + 1) by omega]
    omega
theorem rdV_at {d : Sl Int} : ∀ (m a : Nat) (bad : Bool) (l : Nat) (f : Nat → S_impl_Vip), (rdV d m a bad l f).2.1 = false → bad = false ∧ (rdV d m a bad l f).1 + vipsN f 0 l = a + vipsN (rdV d m a bad l f).2.2.2 0 (rdV d m a bad l f).2.2.1
  | 0, a, bad, l, f, h => ⟨h, rfl⟩
  | m + 1, a, bad, l, f, h => by
    cases bad with
    | true => cases h
    | false =>
      obtain ⟨h5, e⟩ := rdV_at m (vpN d a).1 (vpN d a).2.1 (l + 1) (apV l f (vpV d a)) h
      obtain ⟨h4, e5⟩ := rdN_at _ _ _ _ _ h5
      obtain ⟨h3, e4⟩ := rd_at h4
      obtain ⟨h2, e3⟩ := rd_at h3
      obtain ⟨h1, e2⟩ := rd_at h2
      obtain ⟨_, e1⟩ := rd_at h1
      refine ⟨rfl, ?_⟩
      have e5 : (vpN d a).1 + 2 * 0 = (vp4 d a).2.1 + 2 * (vpN d a).2.2.1 := e5
      have e4 : (vp4 d a).2.1 = (vp3 d a).2.1 + 1 := e4
      have e3 : (vp3 d a).2.1 = (vp2 d a).2.1 + 1 := e3
      have e2 : (vp2 d a).2.1 = (vp1 d a).2.1 + 2 := e2
      have e1 : (vp1 d a).2.1 = a + 4 := e1
      have hs : vipsN (apV l f (vpV d a)) 0 (l + 1) = vipsN f 0 l + (8 + 2 * (vpN d a).2.2.1) := by
        rw [vipsN_snoc, vipsN_congr (g := f) l 0 (fun j _ h2 => by unfold apV; rw [if_pos (by omega)])]
        have : apV l f (vpV d a) (0 + l) = vpV d a := by unfold apV; rw [if_neg (by omega), Nat.zero_add, Nat.sub_self]; rfl
        rw [this]
        rfl
      simp only [rdV, cond_false]
      omega
abbrev UT : Type := S_impl_ConfigResult
def failU : UT := ⟨5, ⟨0, ⟨some true, 0, fun _ => dflt .impl_Backend⟩, ⟨some true, 0, fun _ => dflt .impl_Vip⟩⟩⟩
def u0 (d : Sl Int) : Int × Nat × Bool := rd d 0 4 false
def u1 (d : Sl Int) : Int × Nat × Bool := rd d (u0 d).2.1 1 (u0 d).2.2
def uB (d : Sl Int) : Nat × Bool × Nat × (Nat → S_impl_Backend) := rdB d (u1 d).1.toNat (u1 d).2.1 (u1 d).2.2 0 (fun _ => dflt .impl_Backend)
def u2 (d : Sl Int) : Int × Nat × Bool := rd d (uB d).1 1 (uB d).2.1
def uV (d : Sl Int) : Nat × Bool × Nat × (Nat → S_impl_Vip) := rdV d (u2 d).1.toNat (u2 d).2.1 (u2 d).2.2 0 (fun _ => dflt .impl_Vip)
def uC (d : Sl Int) : S_impl_Config := ⟨(u0 d).1, ⟨none, (uB d).2.2.1, (uB d).2.2.2⟩, ⟨none, (uV d).2.2.1, (uV d).2.2.2⟩⟩
def okU (c : S_impl_Config) : UT := ⟨0, c⟩
def rowL (d : Sl Int) : List Int := (List.range d.n).map d.f
def unpT (d : Sl Int) : UT := bif (uV d).2.1 then failU else bif conff (uC d) != 0 then failU else bif !(strL (confL (uC d)) == strL (rowL d)) then failU else okU (uC d)
theorem byte_nat {x : Int} (h0 : 0 ≤ x) (h1 : x ≤ 255) : x = ((x.toNat : Nat) : Int) ∧ x.toNat ≤ 255 := by omega
theorem u_le (d : Sl Int) : (u0 d).2.1 ≤ d.n ∧ (u1 d).2.1 ≤ d.n ∧ (uB d).1 ≤ d.n ∧ (u2 d).2.1 ≤ d.n := by
  have a0 : (u0 d).2.1 ≤ d.n := rd_le (Nat.zero_le _)
  have a1 : (u1 d).2.1 ≤ d.n := rd_le a0
  have a2 : (uB d).1 ≤ d.n := (rdB_le _ _ _ _ _ a1).1
  exact ⟨a0, a1, a2, rd_le a2⟩
theorem uC_small {d : Sl Int} (hd : Rows1 d) : (uC d).Backends.n ≤ 255 ∧ (uC d).Vips.n ≤ 255 ∧ ∀ i, i < (uC d).Vips.n → ((uC d).Vips.f i).Names.n ≤ 255 := by
  obtain ⟨a0, a1, a2, a3⟩ := u_le d
  obtain ⟨x0, x1⟩ := rd_byte hd (a := (u0 d).2.1) (bad := (u0 d).2.2)
  obtain ⟨y0, y1⟩ := rd_byte hd (a := (uB d).1) (bad := (uB d).2.1)
  obtain ⟨_, b1⟩ := byte_nat x0 x1
  obtain ⟨_, b2⟩ := byte_nat y0 y1
  have hB := (rdB_le (u1 d).1.toNat (u1 d).2.1 (u1 d).2.2 0 (fun _ => dflt .impl_Backend) a1).2
  have hV := rdV_le hd (u2 d).1.toNat (u2 d).2.1 (u2 d).2.2 0 (fun _ => dflt .impl_Vip) a3 (fun i hi => absurd hi (Nat.not_lt_zero _))
  have b1 : (u1 d).1.toNat ≤ 255 := b1
  have b2 : (u2 d).1.toNat ≤ 255 := b2
  refine ⟨?_, ?_, hV.2.2⟩
  · show (uB d).2.2.1 ≤ 255
    unfold uB; omega
  · show (uV d).2.2.1 ≤ 255
    unfold uV; omega
theorem uC_len {d : Sl Int} (hd : Rows1 d) : ConfLen (uC d) := by
  obtain ⟨h1, h2, h3⟩ := uC_small hd
  exact ⟨by omega, by omega, fun i hi => by have := h3 i hi; omega⟩
theorem uC_pack {d : Sl Int} (hd : Rows1 d) : Small (uC d) := by
  obtain ⟨h1, h2, h3⟩ := uC_small hd
  refine ⟨by omega, by omega, fun i hi => by have := h3 i hi; omega, ?_⟩
  have := vipsN_le (f := (uC d).Vips.f) (b := 255) (uC d).Vips.n 0 (fun j _ h => h3 j (by omega))
  have h4 : (8 + 2 * 255) * (uC d).Vips.n ≤ (8 + 2 * 255) * 255 := Nat.mul_le_mul_left _ h2
  omega
theorem uV_at {d : Sl Int} (h : (uV d).2.1 = false) : (uV d).1 = (confL (uC d)).length := by
  obtain ⟨h2, e⟩ := rdV_at _ _ _ _ _ h
  obtain ⟨hB, e2⟩ := rd_at h2
  obtain ⟨h1, eB⟩ := rdB_at _ _ _ _ _ hB
  obtain ⟨h0, e1⟩ := rd_at h1
  obtain ⟨_, e0⟩ := rd_at h0
  have e : (uV d).1 + 0 = (u2 d).2.1 + vipsN (uV d).2.2.2 0 (uV d).2.2.1 := e
  have e2 : (u2 d).2.1 = (uB d).1 + 1 := e2
  have eB : (uB d).1 + 7 * 0 = (u1 d).2.1 + 7 * (uB d).2.2.1 := eB
  have e1 : (u1 d).2.1 = (u0 d).2.1 + 1 := e1
  have e0 : (u0 d).2.1 = 0 + 4 := e0
  rw [confL_len]
  show (uV d).1 = 6 + 7 * (uB d).2.2.1 + vipsN (uV d).2.2.2 0 (uV d).2.2.1
  omega
theorem strL_len (l : List Int) : (strL l).length = l.length := by simp [strL]
theorem str_len {d : Sl Int} {l : List Int} (h : (strL l == strL (rowL d)) = true) : l.length = d.n := by
  have := congrArg List.length (eq_of_beq h)
  rw [strL_len, strL_len] at this
  simpa [rowL] using this
theorem i_Unpack {g : Nat} (hg : 2000000 ≤ g) {d : Sl Int} (hd : Rows1 d) : F_impl_UnpackConfig g d = some (unpT d) := by
  obtain ⟨a0, a1, a2, a3⟩ := u_le d
  obtain ⟨x0, x1⟩ := rd_byte hd (a := (u0 d).2.1) (bad := (u0 d).2.2)
  obtain ⟨y0, y1⟩ := rd_byte hd (a := (uB d).1) (bad := (uB d).2.1)
  obtain ⟨ex, b1⟩ := byte_nat x0 x1
  obtain ⟨ey, b2⟩ := byte_nat y0 y1
  have e0 : F_impl_reader_take_M g 4 d false = some ((u0 d).1, lft d (u0 d).2.1, (u0 d).2.2) := by
    have := i_take4 hg hd (a := 0) (Nat.zero_le _) false
    have h0 : lft d 0 = d := by cases d; simp [lft]
    rw [h0] at this
    exact this
  unfold F_impl_UnpackConfig
  rw [e0]
  simp only [Option.bind_some]
  rw [i_take1 hg hd a0]
  simp only [Option.bind_some]
  obtain ⟨n, f, hp, hB⟩ := i_pack hg (uC d) (uC_pack hd)
  rw [ex]
  refine Eq.trans (i_B0 hg hd d 0 0 (u0 d).1 _ (u1 d).1.toNat (u1 d).2.1 (u1 d).2.2 0 (fun _ => dflt .impl_Backend) g a1 (by have : (u1 d).1.toNat ≤ 255 := b1; omega) (by have : (u1 d).1.toNat ≤ 255 := b1; omega) (by have : (u1 d).1.toNat ≤ 255 := b1; omega)) ?_
  show (F_impl_reader_take_M g 1 (lft d (uB d).1) (uB d).2.1).bind _ = _
  rw [i_take1 hg hd a2]
  simp only [Option.bind_some]
  rw [ey]
  refine Eq.trans (i_B2 hg hd d 0 0 (u0 d).1 (uB d).2.2.1 (uB d).2.2.1 (uB d).2.2.2 _ (u2 d).1.toNat (u2 d).2.1 (u2 d).2.2 0 (fun _ => dflt .impl_Vip) g a3 (by have : (u2 d).1.toNat ≤ 255 := b2; omega) (by have : (u2 d).1.toNat ≤ 255 := b2; omega) (by have : (u2 d).1.toNat ≤ 255 := b2; omega)) ?_
  show (bif (uV d).2.1 then _ else (F_impl_ConfigFault g (uC d)).bind _) = some (unpT d)
  unfold unpT
  cases hb : (uV d).2.1 with
  | true => simp only [cond_true, decide_true, Bool.and_self]; rfl
  | false =>
    simp only [cond_false]
    rw [i_ConfigFault hg _ (uC_len hd)]
    simp only [Option.bind_some]
    cases hc : conff (uC d) != 0 with
    | true => simp only [cond_true, decide_true, Bool.and_self]; rfl
    | false =>
      simp only [cond_false]
      show (F_impl_packConfig_H g (uC d)).bind _ = _
      rw [hp]
      simp only [Option.bind_some]
      unfold F_bytes_Equal
      simp only [Option.bind_some]
      have e1 : ByteArray.toList (bytesOf n fun i => f i) = strL (confL (uC d)) := strL_of hB
      have e2 : ByteArray.toList (bytesOf d.n fun i => d.f i) = strL (rowL d) := strL_of (bs_self d.n d.f)
      rw [e1, e2]
      cases hs : !(strL (confL (uC d)) == strL (rowL d)) with
      | true => simp only [cond_true, decide_true, Bool.and_self]; rfl
      | false =>
        simp only [cond_true, cond_false, decide_true, Bool.and_self, Nat.le_refl]
        rfl
theorem s_Unpack {g : Nat} (hg : 2000000 ≤ g) {d : Sl Int} (hd : Rows1 d) : F_spec_UnpackConfig g d = some (unpT d) := by
  obtain ⟨a0, a1, a2, a3⟩ := u_le d
  obtain ⟨x0, x1⟩ := rd_byte hd (a := (u0 d).2.1) (bad := (u0 d).2.2)
  obtain ⟨y0, y1⟩ := rd_byte hd (a := (uB d).1) (bad := (uB d).2.1)
  obtain ⟨ex, b1⟩ := byte_nat x0 x1
  obtain ⟨ey, b2⟩ := byte_nat y0 y1
  have e0 : F_spec_l6Next_M g 4 d 0 false = some ((u0 d).1, d, ((u0 d).2.1 : Int), (u0 d).2.2) := s_Next4 hg hd (a := 0) (Nat.zero_le _) false
  unfold F_spec_UnpackConfig
  rw [e0]
  simp only [Option.bind_some]
  rw [s_Next1 hg hd a0]
  simp only [Option.bind_some]
  obtain ⟨n, f, hp, hB⟩ := s_pack hg (uC d) (uC_pack hd)
  rw [ex]
  refine Eq.trans (s_B0 hg hd 0 0 (u0 d).1 _ (u1 d).1.toNat (u1 d).2.1 (u1 d).2.2 0 (fun _ => dflt .impl_Backend) g a1 (by have : (u1 d).1.toNat ≤ 255 := b1; omega) (by have : (u1 d).1.toNat ≤ 255 := b1; omega) (by have : (u1 d).1.toNat ≤ 255 := b1; omega)) ?_
  show (F_spec_l6Next_M g 1 d ((uB d).1 : Int) (uB d).2.1).bind _ = _
  rw [s_Next1 hg hd a2]
  simp only [Option.bind_some]
  rw [ey]
  refine Eq.trans (s_B2 hg hd 0 0 (u0 d).1 (uB d).2.2.1 (uB d).2.2.1 (uB d).2.2.2 _ (u2 d).1.toNat (u2 d).2.1 (u2 d).2.2 0 (fun _ => dflt .impl_Vip) g a3 (by have : (u2 d).1.toNat ≤ 255 := b2; omega) (by have : (u2 d).1.toNat ≤ 255 := b2; omega) (by have : (u2 d).1.toNat ≤ 255 := b2; omega)) ?_
  show (bif (uV d).2.1 then _ else (bif ((uV d).1 : Int) != ((d.n : Nat) : Int) then _ else (F_spec_l5Fault g (uC d)).bind _)) = some (unpT d)
  unfold unpT
  cases hb : (uV d).2.1 with
  | true => simp only [cond_true, decide_true, Bool.and_self]; rfl
  | false =>
    simp only [cond_false]
    cases hat : ((uV d).1 : Int) != ((d.n : Nat) : Int) with
    | true =>
      have hne : (strL (confL (uC d)) == strL (rowL d)) = false := by
        rw [Bool.eq_false_iff]
        intro h
        have h1 := str_len h
        rw [← uV_at hb] at h1
        rw [h1] at hat
        simp at hat
      rw [hne]
      simp only [cond_true, decide_true, Bool.and_self, Bool.not_false]
      cases conff (uC d) != 0 <;> rfl
    | false =>
      simp only [cond_false]
      rw [s_ConfFault hg _ (uC_len hd)]
      simp only [Option.bind_some]
      cases hc : conff (uC d) != 0 with
      | true => simp only [cond_true, decide_true, Bool.and_self]; rfl
      | false =>
        simp only [cond_false]
        show (F_spec_l6Config_H g (uC d)).bind _ = _
        rw [hp]
        simp only [Option.bind_some]
        have e1 : ByteArray.toList (bytesOf n fun i => f i) = strL (confL (uC d)) := strL_of hB
        have e2 : ByteArray.toList (bytesOf d.n fun i => d.f i) = strL (rowL d) := strL_of (bs_self d.n d.f)
        rw [e1, e2]
        cases hs : !(strL (confL (uC d)) == strL (rowL d)) with
        | true => simp only [cond_true, decide_true, Bool.and_self]; rfl
        | false =>
          simp only [cond_true, cond_false, decide_true, Bool.and_self, Nat.le_refl]
          rfl
end Go.Proofs.Ytcmfekgdlaffkaa.Pq
