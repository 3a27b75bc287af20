/- Plain laws of muxes. Conditions: none. -/
import Derived.Test.YtcmfekgdlaffkaaPmPlFill2
namespace Go.Proofs.Ytcmfekgdlaffkaa.Pm
open Go Go.RowKit Go.Proofs Vm
set_option linter.unusedVariables false
set_option linter.unusedSimpArgs false
set_option maxRecDepth 100000

/-! ### A good config -/

structure ConfOk (c : S_impl_Config) : Prop where
  back : ∀ i, i < c.Backends.n → backOk (c.Backends.f i) = true
  names : ∀ v, v < c.Vips.n → ∀ j, j < (c.Vips.f v).Names.n → ∃ b, hasB c.Backends ((c.Vips.f v).Names.f j) = some b
theorem conf_ok {c : S_impl_Config} (h : conff c = 0) : ConfOk c := by
  unfold conff at h
  cases h1 : (!rng c.Version 0 1000000) with
  | true => rw [h1] at h; cases h
  | false =>
    rw [h1] at h
    simp only [cond_false] at h
    cases h2 : (decide (8 < c.Backends.n) || decide (4 < c.Vips.n)) with
    | true => rw [h2] at h; cases h
    | false =>
      rw [h2] at h
      simp only [cond_false] at h
      cases h3 : scan (bkAt c.Backends) c.Backends.n 0 with
      | some v =>
        rw [h3] at h
        obtain ⟨j, _, _, hj⟩ := scan_some h3
        unfold bkAt at hj
        cases ha : (!backOk (c.Backends.f j)) with
        | true => rw [ha] at hj; cases hj; cases h
        | false =>
          rw [ha] at hj
          simp only [cond_false] at hj
          cases hb : (decide (0 < j) && decide ((c.Backends.f j).Name ≤ (c.Backends.f (j - 1)).Name)) with
          | true => rw [hb] at hj; cases hj; cases h
          | false => rw [hb] at hj; cases hj
      | none =>
        rw [h3] at h
        simp only [Option.elim_none] at h
        cases h4 : scan (vipAt c) c.Vips.n 0 with
        | some v =>
          rw [h4] at h
          obtain ⟨j, _, _, hj⟩ := scan_some h4
          have := vipAt_ne hj
          simp only [Option.getD_some] at h
          rw [h] at this
          cases this
        | none =>
          refine ⟨fun i hi => ?_, fun v hv j hj => ?_⟩
          · have := scan_none.1 h3 i (Nat.zero_le _) (by omega)
            unfold bkAt at this
            cases ha : backOk (c.Backends.f i) with
            | true => rfl
            | false => rw [ha] at this; cases this
          · have hq := scan_none.1 h4 v (Nat.zero_le _) (by omega)
            have hal : allin c (c.Vips.f v).Names = true := by
              unfold vipAt at hq
              generalize (!vipOk (c.Vips.f v)) = x1 at hq
              generalize (decide (0 < v) && !behind (c.Vips.f (v - 1)) (c.Vips.f v)) = x2 at hq
              generalize (!rise (c.Vips.f v).Names) = x4 at hq
              cases hx : allin c (c.Vips.f v).Names with
              | true => rfl
              | false =>
                rw [hx] at hq
                cases x1 <;> cases x2 <;> cases x4 <;> cases hq
            unfold allin at hal
            have := allb_iff.1 hal j hj
            cases hb : hasB c.Backends ((c.Vips.f v).Names.f j) with
            | some b => exact ⟨b, rfl⟩
            | none => rw [hb] at this; cases this
theorem hasB_is {x : Sl S_impl_Backend} {n : Int} {b : Nat} (h : hasB x n = some b) : b < x.n ∧ (x.f b).Name = n := by
  obtain ⟨j, h1, h2, h3⟩ := scan_some h
  cases hq : (x.f j).Name == n with
  | false => rw [hq] at h3; cases h3
  | true =>
    rw [hq] at h3
    cases h3
    exact ⟨by omega, by simpa using hq⟩
/-! ### Shares -/

def bAt (c : S_impl_Config) (v j : Nat) : S_impl_Backend := c.Backends.f ((hasB c.Backends ((c.Vips.f v).Names.f j)).getD 0)
/-! ### All tables -/

theorem sameN_comm (x y : Sl Int) : sameN x y = sameN y x := by
  unfold sameN
  by_cases h : x.n = y.n
  · rw [h]
    congr 1
    exact allb_congr (fun i _ => by rw [Bool.eq_iff_iff, beq_iff_eq, beq_iff_eq]; exact eq_comm)
  · have h1 : (x.n == y.n) = false := by simpa using h
    have h2 : (y.n == x.n) = false := by simpa using (Ne.symm h)
    rw [h1, h2]; rfl
def sameT (x y : Sl (Sl Int)) : Bool := (x.n == y.n) && allb x.n (fun i => sameN (x.f i) (y.f i))
/-! ### Flows -/

def flowOk (f : S_impl_Flow) : Bool := rng f.From 0 4294967295 && (rng f.To 0 4294967295 && (protoOk f.Proto && (rng f.FromP 0 65535 && rng f.ToP 0 65535)))
def flowEq (a b : S_impl_Flow) : Bool := (a.From == b.From) && ((a.To == b.To) && ((a.Proto == b.Proto) && ((a.FromP == b.FromP) && ((a.ToP == b.ToP) && true))))
/-! ### Who serves -/

def vipFor (c : S_impl_Config) (f : S_impl_Flow) : Option Nat := scan (fun j => bif ((c.Vips.f j).Address == f.To) && (((c.Vips.f j).Port == f.ToP) && ((c.Vips.f j).Proto == f.Proto)) then some j else none) c.Vips.n 0
theorem s_For {fu : Nat} (hf : 2000000 ≤ fu) {c : S_impl_Config} (hl : ConfLen c) (f : S_impl_Flow) : F_spec_l5For fu c f = some ((vipFor c f).elim (-1) (fun j => (j : Int))) := by
  unfold F_spec_l5For
  have hv := hl.vips
  refine scanL c.Vips.n (fun j => bif ((c.Vips.f j).Address == f.To) && (((c.Vips.f j).Port == f.ToP) && ((c.Vips.f j).Proto == f.Proto)) then some j else none) (fun j => some ((j : Nat) : Int)) (some (-1)) (by omega) (fun j go hj => ?_) (fun go => ?_) ?_
  · unfold F_spec_l5For_B0
    simp only [Int.toNat_natCast, Int.natCast_nonneg, Int.ofNat_lt, hj, decide_true, Bool.and_self, cond_true, Option.bind_some, wsucc (show j < 4611686018427387904 by omega)]
    cases ((c.Vips.f j).Address == f.To) <;> cases ((c.Vips.f j).Port == f.ToP) <;> cases ((c.Vips.f j).Proto == f.Proto) <;> rfl
  · unfold F_spec_l5For_B0; simp
  · unfold vipFor
    cases scan (fun j => bif ((c.Vips.f j).Address == f.To) && (((c.Vips.f j).Port == f.ToP) && ((c.Vips.f j).Proto == f.Proto)) then some j else none) c.Vips.n 0 <;> rfl
theorem i_vipOf {fu : Nat} (hf : 2000000 ≤ fu) {c : S_impl_Config} (hl : ConfLen c) (f : S_impl_Flow) : F_impl_Config_vipOf fu c f = some ((vipFor c f).elim (-1) (fun j => (j : Int))) := by
  unfold F_impl_Config_vipOf F_impl_Config_vip
  have hv := hl.vips
  have e : F_slices_IndexFunc_impl_Vip_impl_Vip_w_impl_Config_vip_c1 fu c.Vips f.To f.ToP f.Proto = some ((vipFor c f).elim (-1) (fun j => (j : Int))) := by
    unfold F_slices_IndexFunc_impl_Vip_impl_Vip_w_impl_Config_vip_c1
    refine scanL c.Vips.n (fun j => bif ((c.Vips.f j).Address == f.To) && (((c.Vips.f j).Port == f.ToP) && ((c.Vips.f j).Proto == f.Proto)) then some j else none) (fun j => some ((j : Nat) : Int)) (some (-1)) (by omega) (fun j go hj => ?_) (fun go => ?_) ?_
    · unfold F_slices_IndexFunc_impl_Vip_impl_Vip_w_impl_Config_vip_c1_B0 F_impl_Config_vip_c1
      simp only [Int.toNat_natCast, Int.natCast_nonneg, Int.ofNat_lt, hj, decide_true, Bool.and_self, cond_true, Option.bind_some, wsucc (show j < 4611686018427387904 by omega)]
      cases ((c.Vips.f j).Address == f.To) <;> cases ((c.Vips.f j).Port == f.ToP) <;> cases ((c.Vips.f j).Proto == f.Proto) <;> rfl
    · unfold F_slices_IndexFunc_impl_Vip_impl_Vip_w_impl_Config_vip_c1_B0; simp
    · unfold vipFor
      cases scan (fun j => bif ((c.Vips.f j).Address == f.To) && (((c.Vips.f j).Port == f.ToP) && ((c.Vips.f j).Proto == f.Proto)) then some j else none) c.Vips.n 0 <;> rfl
  rw [e]; rfl
theorem vipFor_lt {c : S_impl_Config} {f : S_impl_Flow} {v : Nat} (h : vipFor c f = some v) : v < c.Vips.n := by
  obtain ⟨j, h1, h2, h3⟩ := scan_some h
  cases hq : ((c.Vips.f j).Address == f.To) && (((c.Vips.f j).Port == f.ToP) && ((c.Vips.f j).Proto == f.Proto)) with
  | false => rw [hq] at h3; cases h3
  | true => rw [hq] at h3; cases h3; omega
def hasN (x : Sl Int) (n : Int) : Option Nat := scan (fun j => bif x.f j == n then some j else none) x.n 0
theorem i_ContainsN {fu : Nat} (hf : 2000000 ≤ fu) (x : Sl Int) (n : Int) (hx : x.n ≤ 1048576) : F_slices_Contains_int64_int64 fu x n = some (hasN x n).isSome := by
  unfold F_slices_Contains_int64_int64
  have e : F_slices_Index_int64_int64 fu x n = some ((hasN x n).elim (-1) (fun j => (j : Int))) := by
    unfold F_slices_Index_int64_int64
    refine scanL x.n (fun j => bif x.f j == n then some j else none) (fun j => some ((j : Nat) : Int)) (some (-1)) (by omega) (fun j go hj => ?_) (fun go => ?_) ?_
    · unfold F_slices_Index_int64_int64_B0
      have hcm : (n == x.f j) = (x.f j == n) := by rw [Bool.eq_iff_iff, beq_iff_eq, beq_iff_eq]; exact eq_comm
      simp only [Int.toNat_natCast, Int.natCast_nonneg, Int.ofNat_lt, hj, decide_true, Bool.and_self, cond_true, Option.bind_some, wsucc (show j < 4611686018427387904 by omega), hcm]
      cases (x.f j == n) <;> rfl
    · unfold F_slices_Index_int64_int64_B0; simp
    · unfold hasN
      cases scan (fun j => bif x.f j == n then some j else none) x.n 0 <;> rfl
  rw [e]
  cases hasN x n with
  | none => rfl
  | some j =>
    have : (j : Int) ≥ 0 := by omega
    simp only [Option.bind_some, Option.elim_some, this, decide_true, Option.isSome_some]
theorem hasN_is {x : Sl Int} {n : Int} {j : Nat} (h : hasN x n = some j) : j < x.n ∧ x.f j = n := by
  obtain ⟨k, h1, h2, h3⟩ := scan_some h
  cases hq : (x.f k == n) with
  | false => rw [hq] at h3; cases h3
  | true => rw [hq] at h3; cases h3; exact ⟨by omega, by simpa using hq⟩

def servs (c : S_impl_Config) (f : S_impl_Flow) (n : Int) : Bool := (vipFor c f).elim false (fun v => (hasN (c.Vips.f v).Names n).isSome && ((c.Backends.f ((hasB c.Backends n).getD 0)).Stage != 3))
theorem i_serves {fu : Nat} (hf : 2000000 ≤ fu) {c : S_impl_Config} (hl : ConfLen c) (hc : ConfOk c) (f : S_impl_Flow) (n : Int) : F_impl_Config_serves fu c f n = some (servs c f n) := by
  unfold F_impl_Config_serves servs
  simp only [i_vipOf hf hl f, i_backend hf c hl.backends n, Option.bind_some]
  cases hv : vipFor c f with
  | none => rfl
  | some v =>
    have hvl := vipFor_lt hv
    simp only [Option.elim_some, show ((v : Int) ≥ 0) by omega, decide_true, cond_true]
    cases hb : hasB c.Backends n with
    | none =>
      have hat : atB c.Backends n = -1 := by unfold atB; rw [hb]; rfl
      have hno : hasN (c.Vips.f v).Names n = none := by
        cases hj : hasN (c.Vips.f v).Names n with
        | none => rfl
        | some j =>
          obtain ⟨j1, j2⟩ := hasN_is hj
          obtain ⟨b, hb'⟩ := hc.names v hvl j j1
          rw [j2, hb] at hb'; cases hb'
      simp only [hat, hno, show ¬ ((-1 : Int) ≥ 0) by omega, decide_false, cond_false, Option.bind_some, Option.isSome_none, Bool.false_and]
    | some b =>
      obtain ⟨b1, b2⟩ := hasB_is hb
      have hat : atB c.Backends n = (b : Int) := by unfold atB; rw [hb]; rfl
      simp only [hat, show ((b : Int) ≥ 0) by omega, decide_true, cond_true, Int.natCast_nonneg, Int.toNat_natCast, hvl, Bool.and_self, Option.bind_some, i_ContainsN hf (c.Vips.f v).Names n (hl.names v hvl), b1, Option.getD_some]
      cases (hasN (c.Vips.f v).Names n).isSome <;> rfl

/-! ### A mux -/

/-! ### The laws -/

def d_row : Sl Int := ⟨some true, 0, fun _ => dflt .i64⟩
end Go.Proofs.Ytcmfekgdlaffkaa.Pm
