/- A configuration in bytes is read back. Conditions: none. -/
import Derived.Test.YtcmfekgdlaffkaaPqPlUnp2
namespace Go.Proofs.Ytcmfekgdlaffkaa.Pq
open Go Go.RowKit Go.Proofs Vm
set_option linter.unusedVariables false
set_option linter.unusedSimpArgs false
set_option maxRecDepth 100000
def At (d : Sl Int) (a : Nat) (M : List Int) : Prop := a + M.length ≤ d.n ∧ ∀ i, i < M.length → d.f (a + i) = M.getD i 0
theorem At.left {d : Sl Int} {a : Nat} {M N : List Int} (h : At d a (M ++ N)) : At d a M := by
  have h1 := h.1
  rw [List.length_append] at h1
  refine ⟨by omega, fun i hi => ?_⟩
  rw [h.2 i (by rw [List.length_append]; omega), List.getD_eq_getElem?_getD, List.getElem?_append_left hi, List.getD_eq_getElem?_getD]
theorem At.right {d : Sl Int} {a : Nat} {M N : List Int} (h : At d a (M ++ N)) : At d (a + M.length) N := by
  have h1 := h.1
  rw [List.length_append] at h1
  refine ⟨by omega, fun i hi => ?_⟩
  rw [Nat.add_assoc, h.2 (M.length + i) (by rw [List.length_append]; omega), List.getD_eq_getElem?_getD, List.getElem?_append_right (by omega), List.getD_eq_getElem?_getD, Nat.add_sub_cancel_left]
theorem wu8 (x : Int) : IntKind.wrap .u8 x = x % 256 := by simp [IntKind.wrap, IntKind.bits, IntKind.signed]
theorem byB_val (v : Int) (k i : Nat) (m : Int) (hm : (2 : Int) ^ (min (8 * ((k : Int) - 1 - (i : Int))).toNat (IntKind.i64).bits) = m) (h0 : 0 < m) : byB v k i = v / m % 256 := by
  unfold byB shrInt
  rw [wu8, hm, Int.fdiv_eq_ediv_of_nonneg _ (by omega)]
theorem byL2 (v : Int) : byL v 2 2 = [v / 256 % 256, v % 256] := by
  have e0 := byB_val v 2 0 256 (by decide) (by omega)
  have e1 := byB_val v 2 1 1 (by decide) (by omega)
  show [byB v 2 0, byB v 2 1] = _
  rw [e0, e1, Int.ediv_one]
theorem byL4 (v : Int) : byL v 4 4 = [v / 16777216 % 256, v / 65536 % 256, v / 256 % 256, v % 256] := by
  have e0 := byB_val v 4 0 16777216 (by decide) (by omega)
  have e1 := byB_val v 4 1 65536 (by decide) (by omega)
  have e2 := byB_val v 4 2 256 (by decide) (by omega)
  have e3 := byB_val v 4 3 1 (by decide) (by omega)
  show [byB v 4 0, byB v 4 1, byB v 4 2, byB v 4 3] = _
  rw [e0, e1, e2, e3, Int.ediv_one]
theorem rd_go {d : Sl Int} {a k : Nat} (h : a + k ≤ d.n) : rd d a k false = (be d.f a k, a + k, false) := by
  unfold rd
  rw [decide_eq_false (show ¬ d.n < a + k by omega)]; rfl
theorem rd1 {d : Sl Int} {a : Nat} {x : Int} (h : At d a [x]) : rd d a 1 false = (x, a + 1, false) := by
  have e : d.f (a + 0) = x := h.2 0 (by simp)
  rw [rd_go (k := 1) h.1]
  simp only [be, e]
  congr 1
  omega
theorem rd2 {d : Sl Int} {a : Nat} {v : Int} (h : At d a (byL v 2 2)) (h0 : 0 ≤ v) (h1 : v ≤ 65535) : rd d a 2 false = (v, a + 2, false) := by
  rw [byL2] at h
  have e0 : d.f (a + 0) = v / 256 % 256 := h.2 0 (by simp)
  have e1 : d.f (a + 1) = v % 256 := h.2 1 (by simp)
  rw [rd_go (k := 2) h.1]
  simp only [be, e0, e1]
  congr 1
  omega
theorem rd4 {d : Sl Int} {a : Nat} {v : Int} (h : At d a (byL v 4 4)) (h0 : 0 ≤ v) (h1 : v ≤ 4294967295) : rd d a 4 false = (v, a + 4, false) := by
  rw [byL4] at h
  have e0 : d.f (a + 0) = v / 16777216 % 256 := h.2 0 (by simp)
  have e1 : d.f (a + 1) = v / 65536 % 256 := h.2 1 (by simp)
  have e2 : d.f (a + 2) = v / 256 % 256 := h.2 2 (by simp)
  have e3 : d.f (a + 3) = v % 256 := h.2 3 (by simp)
  rw [rd_go (k := 4) h.1]
  simp only [be, e0, e1, e2, e3]
  congr 1
  omega
theorem bk_flag {b : S_impl_Backend} (h : backOk b = true) : mkBk b.Name b.Address (IntKind.wrap .u8 (flagI b)) = b ∧ 0 ≤ b.Name ∧ b.Name ≤ 999 ∧ 0 ≤ b.Address ∧ b.Address ≤ 4294967295 := by
  unfold backOk at h
  simp only [Bool.and_eq_true, rng, decide_eq_true_eq] at h
  obtain ⟨⟨n0, n1⟩, ⟨a0, a1⟩, ⟨w0, w1⟩, s0, s1⟩ := h
  refine ⟨?_, by omega, n1, a0, a1⟩
  obtain ⟨nm, ad, w, s, up⟩ := b
  dsimp only at *
  have wi : ∀ x : Int, 0 ≤ x → x ≤ 1000 → IntKind.wrap .i64 x = x := fun x h0 h1 => wrap64 (by omega) (by omega)
  have ef : IntKind.wrap .u8 (flagI ⟨nm, ad, w, s, up⟩) = w * 8 + s * 2 + (bif up then 1 else 0) := by
    unfold flagI
    dsimp only
    rw [wi (w * 8) (by omega) (by omega), wi (s * 2) (by omega) (by omega), wi (w * 8 + s * 2) (by omega) (by omega)]
    cases up with
    | true => rw [cond_true, cond_true, wi _ (by omega) (by omega), wu8]; omega
    | false => rw [cond_false, cond_false, wu8]; omega
  rw [ef]
  unfold mkBk
  have p : 0 ≤ w * 8 + s * 2 + (bif up then 1 else 0) := by cases up <;> simp only [cond_true, cond_false] <;> omega
  rw [Int.tdiv_eq_ediv_of_nonneg p, Int.tmod_eq_emod_of_nonneg p, Int.tmod_eq_emod_of_nonneg p, Int.tdiv_eq_ediv_of_nonneg (Int.emod_nonneg _ (by omega))]
  cases up with
  | true =>
    rw [cond_true]
    have e1 : (w * 8 + s * 2 + 1) / 8 = w := by omega
    have e2 : (w * 8 + s * 2 + 1) % 8 / 2 = s := by omega
    have e3 : (w * 8 + s * 2 + 1) % 2 = 1 := by omega
    rw [e1, e2, e3]; rfl
  | false =>
    rw [cond_false]
    have e1 : (w * 8 + s * 2 + 0) / 8 = w := by omega
    have e2 : (w * 8 + s * 2 + 0) % 8 / 2 = s := by omega
    have e3 : (w * 8 + s * 2 + 0) % 2 = 0 := by omega
    rw [e1, e2, e3]; rfl
theorem rdB_back {d : Sl Int} {f : Nat → S_impl_Backend} : ∀ (m a l i : Nat) (g : Nat → S_impl_Backend), At d a (backsL f i m) → (∀ j, j < m → backOk (f (i + j)) = true) →
    ∃ g', rdB d m a false l g = (a + 7 * m, false, l + m, g') ∧ (∀ j, j < l → g' j = g j) ∧ ∀ j, j < m → g' (l + j) = f (i + j)
  | 0, a, l, i, g, _, _ => ⟨g, rfl, fun _ _ => rfl, fun j hj => absurd hj (Nat.not_lt_zero _)⟩
  | m + 1, a, l, i, g, h, hb => by
    have hb0 : backOk (f i) = true := hb 0 (by omega)
    obtain ⟨q0, q1, q2, q3, q4⟩ := bk_flag hb0
    have h : At d a (backL (f i) ++ backsL f (i + 1) m) := h
    have hl := h.left
    have hr := h.right
    rw [backL_len] at hr
    unfold backL at hl
    have t1 := hl.left.left
    have t2 := hl.left.right
    have t3 := hl.right
    rw [byL_len] at t2
    rw [List.length_append, byL_len, byL_len] at t3
    have e1 : bk1 d a = ((f i).Name, a + 2, false) := rd2 t1 q1 (by omega)
    have e2 : bk2 d a = ((f i).Address, a + 2 + 4, false) := by unfold bk2; rw [e1]; exact rd4 t2 q3 q4
    have e3 : bk3 d a = (IntKind.wrap .u8 (flagI (f i)), a + 2 + 4 + 1, false) := by unfold bk3; rw [e2]; exact rd1 t3
    obtain ⟨g', r1, r2, r3⟩ := rdB_back m (a + 7) (l + 1) (i + 1) (apB l g (f i)) hr (fun j hj => by rw [show i + 1 + j = i + (j + 1) by omega]; exact hb (j + 1) (by omega))
    refine ⟨g', ?_, fun j hj => ?_, fun j hj => ?_⟩
    · show rdB d m (bk3 d a).2.1 (bk3 d a).2.2 (l + 1) (apB l g (mkBk (bk1 d a).1 (bk2 d a).1 (bk3 d a).1)) = _
      rw [e1, e2, e3]
      dsimp only
      rw [q0, show a + 2 + 4 + 1 = a + 7 by omega, r1]
      congr 1
      · omega
      · congr 2
        omega
    · rw [r2 j (by omega)]
      unfold apB
      rw [if_pos hj]
    · cases j with
      | zero =>
        rw [Nat.add_zero, r2 l (by omega)]
        unfold apB
        rw [if_neg (Nat.lt_irrefl l), Nat.sub_self]; rfl
      | succ j =>
        have := r3 j (by omega)
        rw [show l + 1 + j = l + (j + 1) by omega, show i + 1 + j = i + (j + 1) by omega] at this
        exact this
theorem rdN_back {d : Sl Int} {f : Nat → Int} : ∀ (m a l i : Nat) (g : Nat → Int), At d a (namesL f i m) → (∀ j, j < m → 0 ≤ f (i + j) ∧ f (i + j) ≤ 65535) →
    ∃ g', rdN d m a false l g = (a + 2 * m, false, l + m, g') ∧ (∀ j, j < l → g' j = g j) ∧ ∀ j, j < m → g' (l + j) = f (i + j)
  | 0, a, l, i, g, _, _ => ⟨g, rfl, fun _ _ => rfl, fun j hj => absurd hj (Nat.not_lt_zero _)⟩
  | m + 1, a, l, i, g, h, hb => by
    have hb0 := hb 0 (by omega)
    rw [Nat.add_zero] at hb0
    have h : At d a (byL (f i) 2 2 ++ namesL f (i + 1) m) := h
    have hr := h.right
    rw [byL_len] at hr
    have e1 := rd2 h.left hb0.1 hb0.2
    obtain ⟨g', r1, r2, r3⟩ := rdN_back m (a + 2) (l + 1) (i + 1) (apN l g (f i)) hr (fun j hj => by rw [show i + 1 + j = i + (j + 1) by omega]; exact hb (j + 1) (by omega))
    refine ⟨g', ?_, fun j hj => ?_, fun j hj => ?_⟩
    · show rdN d m (rd d a 2 false).2.1 (rd d a 2 false).2.2 (l + 1) (apN l g (rd d a 2 false).1) = _
      rw [e1]
      dsimp only
      rw [r1]
      congr 1
      · omega
      · congr 2
        omega
    · rw [r2 j (by omega)]
      unfold apN
      rw [if_pos hj]
    · cases j with
      | zero =>
        rw [Nat.add_zero, r2 l (by omega)]
        unfold apN
        rw [if_neg (Nat.lt_irrefl l), Nat.sub_self]; rfl
      | succ j =>
        have := r3 j (by omega)
        rw [show l + 1 + j = l + (j + 1) by omega, show i + 1 + j = i + (j + 1) by omega] at this
        exact this
structure VipEq (u v : S_impl_Vip) : Prop where
  addr : u.Address = v.Address
  port : u.Port = v.Port
  proto : u.Proto = v.Proto
  len : u.Names.n = v.Names.n
  names : ∀ t, t < v.Names.n → u.Names.f t = v.Names.f t
structure VipFit (v : S_impl_Vip) : Prop where
  ok : vipOk v = true
  len : v.Names.n ≤ 255
  names : ∀ t, t < v.Names.n → 0 ≤ v.Names.f t ∧ v.Names.f t ≤ 65535
theorem proto_fit {p : Int} (h : protoOk p = true) : 0 ≤ p ∧ p ≤ 255 := by
  unfold protoOk at h
  simp at h
  omega
theorem rdV_back {d : Sl Int} {f : Nat → S_impl_Vip} : ∀ (m a l i : Nat) (g : Nat → S_impl_Vip), At d a (vipsL f i m) → (∀ j, j < m → VipFit (f (i + j))) →
    ∃ g', rdV d m a false l g = (a + vipsN f i m, false, l + m, g') ∧ (∀ j, j < l → g' j = g j) ∧ ∀ j, j < m → VipEq (g' (l + j)) (f (i + j))
  | 0, a, l, i, g, _, _ => ⟨g, rfl, fun _ _ => rfl, fun j hj => absurd hj (Nat.not_lt_zero _)⟩
  | m + 1, a, l, i, g, h, hb => by
    have hv : VipFit (f i) := hb 0 (by omega)
    have ho := hv.ok
    unfold vipOk at ho
    simp only [Bool.and_eq_true, rng, decide_eq_true_eq] at ho
    obtain ⟨⟨a0, a1⟩, ⟨p0, p1⟩, hp⟩ := ho
    have hp := proto_fit hp
    have h : At d a (vipL (f i) ++ vipsL f (i + 1) m) := h
    have hl := h.left
    have hr := h.right
    rw [vipL_len] at hr
    unfold vipL at hl
    have t1 := hl.left.left.left
    have t2 := hl.left.left.right
    have t34 := hl.left.right
    have t5 := hl.right
    rw [byL_len] at t2
    rw [List.length_append, byL_len, byL_len] at t34
    have t3 : At d (a + (4 + 2)) [IntKind.wrap .u8 (f i).Proto] := At.left (N := [IntKind.wrap .u8 (((f i).Names.n : Nat) : Int)]) t34
    have t4 : At d (a + (4 + 2) + 1) [IntKind.wrap .u8 (((f i).Names.n : Nat) : Int)] := At.right (M := [IntKind.wrap .u8 (f i).Proto]) t34
    simp only [List.length_append, byL_len, List.length_cons, List.length_nil] at t5
    have hn := hv.len
    have w3 : IntKind.wrap .u8 (f i).Proto = (f i).Proto := by rw [wu8]; omega
    have w4 : IntKind.wrap .u8 (((f i).Names.n : Nat) : Int) = (((f i).Names.n : Nat) : Int) := by rw [wu8]; omega
    rw [w3] at t3
    rw [w4] at t4
    have e1 : vp1 d a = ((f i).Address, a + 4, false) := rd4 t1 a0 a1
    have e2 : vp2 d a = ((f i).Port, a + 4 + 2, false) := by unfold vp2; rw [e1]; exact rd2 t2 p0 p1
    have e3 : vp3 d a = ((f i).Proto, a + 4 + 2 + 1, false) := by unfold vp3; rw [e2]; exact rd1 t3
    have e4 : vp4 d a = ((((f i).Names.n : Nat) : Int), a + 4 + 2 + 1 + 1, false) := by unfold vp4; rw [e3]; exact rd1 t4
    obtain ⟨gn, s1, _, s3⟩ := rdN_back (f i).Names.n (a + 8) 0 0 (fun _ => dflt .i64) t5 (fun j hj => by rw [Nat.zero_add]; exact hv.names j hj)
    have e5 : vpN d a = (a + 8 + 2 * (f i).Names.n, false, 0 + (f i).Names.n, gn) := by unfold vpN; rw [e4]; exact s1
    have e6 : VipEq (vpV d a) (f i) := by
      unfold vpV
      rw [e1, e2, e3, e5]
      exact ⟨rfl, rfl, rfl, Nat.zero_add _, fun t ht => by have := s3 t ht; simp only [Nat.zero_add] at this; exact this⟩
    obtain ⟨g', r1, r2, r3⟩ := rdV_back m (a + (8 + 2 * (f i).Names.n)) (l + 1) (i + 1) (apV l g (vpV d a)) hr (fun j hj => by rw [show i + 1 + j = i + (j + 1) by omega]; exact hb (j + 1) (by omega))
    refine ⟨g', ?_, fun j hj => ?_, fun j hj => ?_⟩
    · show rdV d m (vpN d a).1 (vpN d a).2.1 (l + 1) (apV l g (vpV d a)) = _
      rw [e5]
      dsimp only
      rw [Nat.add_assoc, r1]
      have : vipsN f i (m + 1) = 8 + 2 * (f i).Names.n + vipsN f (i + 1) m := rfl
      rw [this]
      congr 1
      · omega
      · congr 2
        omega
    · rw [r2 j (by omega)]
      unfold apV
      rw [if_pos hj]
    · cases j with
      | zero =>
        rw [Nat.add_zero, Nat.add_zero, r2 l (by omega)]
        unfold apV
        rw [if_neg (Nat.lt_irrefl l), Nat.sub_self]
        exact e6
      | succ j =>
        have := r3 j (by omega)
        rw [show l + 1 + j = l + (j + 1) by omega, show i + 1 + j = i + (j + 1) by omega] at this
        exact this
end Go.Proofs.Ytcmfekgdlaffkaa.Pq
