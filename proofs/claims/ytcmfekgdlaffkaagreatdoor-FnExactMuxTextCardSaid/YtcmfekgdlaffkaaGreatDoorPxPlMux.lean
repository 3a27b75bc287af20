/- Plain laws of muxes. Conditions: none. -/
import Derived.Test.YtcmfekgdlaffkaaGreatDoorPxPlFill2
namespace Go.Proofs.YtcmfekgdlaffkaaGreatDoor.Px
open Go Go.RowKit Go.Proofs Vm
set_option linter.unusedVariables false
set_option linter.unusedSimpArgs false
set_option maxRecDepth 100000

/-! ### A good config -/

structure ConfOk (c : S_impl_Config) : Prop where
  back : ∀ i, i < c.Backends.n → backOk (c.Backends.f i) = true
  names : ∀ v, v < c.Vips.n → ∀ j, j < (c.Vips.f v).Names.n → ∃ b, hasB c.Backends ((c.Vips.f v).Names.f j) = some b
theorem conf_ok {c : S_impl_Config} (h : conff c = 0) : ConfOk c := by
  unfold conff at h
  cases h1 : (!rng c.Version 0 1000000) with
  | true => rw [h1] at h; cases h
  | false =>
    rw [h1] at h
    simp only [cond_false] at h
    cases h2 : (decide (8 < c.Backends.n) || decide (4 < c.Vips.n)) with
    | true => rw [h2] at h; cases h
    | false =>
      rw [h2] at h
      simp only [cond_false] at h
      cases h3 : scan (bkAt c.Backends) c.Backends.n 0 with
      | some v =>
        rw [h3] at h
        obtain ⟨j, _, _, hj⟩ := scan_some h3
        unfold bkAt at hj
        cases ha : (!backOk (c.Backends.f j)) with
        | true => rw [ha] at hj; cases hj; cases h
        | false =>
          rw [ha] at hj
          simp only [cond_false] at hj
          cases hb : (decide (0 < j) && decide ((c.Backends.f j).Name ≤ (c.Backends.f (j - 1)).Name)) with
          | true => rw [hb] at hj; cases hj; cases h
          | false => rw [hb] at hj; cases hj
      | none =>
        rw [h3] at h
        simp only [Option.elim_none] at h
        cases h4 : scan (vipAt c) c.Vips.n 0 with
        | some v =>
          rw [h4] at h
          obtain ⟨j, _, _, hj⟩ := scan_some h4
          have := vipAt_ne hj
          simp only [Option.getD_some] at h
          rw [h] at this
          cases this
        | none =>
          refine ⟨fun i hi => ?_, fun v hv j hj => ?_⟩
          · have := scan_none.1 h3 i (Nat.zero_le _) (by omega)
            unfold bkAt at this
            cases ha : backOk (c.Backends.f i) with
            | true => rfl
            | false => rw [ha] at this; cases this
          · have hq := scan_none.1 h4 v (Nat.zero_le _) (by omega)
            have hal : allin c (c.Vips.f v).Names = true := by
              unfold vipAt at hq
              generalize (!vipOk (c.Vips.f v)) = x1 at hq
              generalize (decide (0 < v) && !behind (c.Vips.f (v - 1)) (c.Vips.f v)) = x2 at hq
              generalize (!rise (c.Vips.f v).Names) = x4 at hq
              cases hx : allin c (c.Vips.f v).Names with
              | true => rfl
              | false =>
                rw [hx] at hq
                cases x1 <;> cases x2 <;> cases x4 <;> cases hq
            unfold allin at hal
            have := allb_iff.1 hal j hj
            cases hb : hasB c.Backends ((c.Vips.f v).Names.f j) with
            | some b => exact ⟨b, rfl⟩
            | none => rw [hb] at this; cases this
theorem hasB_is {x : Sl S_impl_Backend} {n : Int} {b : Nat} (h : hasB x n = some b) : b < x.n ∧ (x.f b).Name = n := by
  obtain ⟨j, h1, h2, h3⟩ := scan_some h
  cases hq : (x.f j).Name == n with
  | false => rw [hq] at h3; cases h3
  | true =>
    rw [hq] at h3
    cases h3
    exact ⟨by omega, by simpa using hq⟩
theorem watch_conf {w : S_impl_Watch} (h : (watchf w != 0) = false) : conff w.Config = 0 := by
  unfold watchf at h
  cases hq : (conff w.Config != 0) with
  | false => simpa using hq
  | true =>
    rw [hq] at h
    simp only [cond_true] at h
    rw [hq] at h; cases h

/-! ### Shares -/

def bAt (c : S_impl_Config) (v j : Nat) : S_impl_Backend := c.Backends.f ((hasB c.Backends ((c.Vips.f v).Names.f j)).getD 0)
def shStep (c : S_impl_Config) (v j : Nat) (s : Nat × (Nat → S_impl_Share)) : Sum Unit (Nat × (Nat → S_impl_Share)) :=
  .inr (bif (bAt c v j).Up && ((bAt c v j).Stage == 1) then (s.1 + 1, fun i => if i < s.1 then s.2 i else ((fun i => [(⟨(c.Vips.f v).Names.f j, (bAt c v j).Weight⟩ : S_impl_Share)].getD i (dflt .impl_Share)) (i - s.1))) else s)
def shI (j : Nat) (s : Nat × (Nat → S_impl_Share)) : Prop := s.1 ≤ j ∧ ∀ k, k < s.1 → (s.2 k).Name ≠ 0 ∧ 0 ≤ (s.2 k).Weight ∧ (s.2 k).Weight ≤ 9
theorem shI_step {c : S_impl_Config} (hc : ConfOk c) {v j : Nat} (hv : v < c.Vips.n) (hj : j < (c.Vips.f v).Names.n) {s s' : Nat × (Nat → S_impl_Share)} (h : shI j s) (hs : shStep c v j s = .inr s') : shI (j + 1) s' := by
  obtain ⟨b, hb⟩ := hc.names v hv j hj
  obtain ⟨b1, b2⟩ := hasB_is hb
  have hbk := hc.back b b1
  have hbAt : bAt c v j = c.Backends.f b := by unfold bAt; rw [hb]; rfl
  simp only [backOk, rng, Bool.and_eq_true, decide_eq_true_eq] at hbk
  unfold shStep at hs
  cases hq : ((bAt c v j).Up && ((bAt c v j).Stage == 1)) with
  | false =>
    rw [hq] at hs
    simp only [cond_false, Sum.inr.injEq] at hs
    subst hs
    exact ⟨Nat.le_succ_of_le h.1, h.2⟩
  | true =>
    rw [hq] at hs
    simp only [cond_true, Sum.inr.injEq] at hs
    subst hs
    refine ⟨Nat.succ_le_succ h.1, fun k hk => ?_⟩
    by_cases hks : k < s.1
    · simp only [if_pos hks]
      exact h.2 k hks
    · have : k = s.1 := by
        have : k < s.1 + 1 := hk
        omega
      subst this
      simp only [if_neg (Nat.lt_irrefl _), Nat.sub_self]
      show (c.Vips.f v).Names.f j ≠ 0 ∧ 0 ≤ (bAt c v j).Weight ∧ (bAt c v j).Weight ≤ 9
      rw [hbAt, ← b2]
      omega
def shRun (c : S_impl_Config) (v : Nat) : Sum Unit (Nat × (Nat → S_impl_Share)) := run (shStep c v) (c.Vips.f v).Names.n 0 (0, fun _ => dflt .impl_Share)
def sharesV (c : S_impl_Config) (v : Nat) : Sl S_impl_Share := (shRun c v).elim (fun _ => ⟨none, 0, fun _ => dflt .impl_Share⟩) (fun s => ⟨none, s.1, s.2⟩)
theorem shares_ok {c : S_impl_Config} (hl : ConfLen c) (hc : ConfOk c) {v : Nat} (hv : v < c.Vips.n) : SharesOk (sharesV c v) := by
  have hn := hl.names v hv
  obtain ⟨s, e, h⟩ := runI_inr (f := shStep c v) (I := shI) (c.Vips.f v).Names.n 0 (0, fun _ => dflt .impl_Share) ⟨Nat.le_refl _, fun k hk => absurd hk (Nat.not_lt_zero _)⟩ (fun j s _ hj h => ⟨_, rfl, shI_step hc hv (by omega) h rfl⟩)
  unfold sharesV shRun
  rw [e]
  obtain ⟨h1, h2⟩ := h
  exact ⟨fun i hi => (h2 i hi).1, fun i hi => (h2 i hi).2, by show s.1 ≤ _; omega⟩

theorem s_Shares {fu : Nat} (hf : 2000000 ≤ fu) {c : S_impl_Config} (hl : ConfLen c) (hc : ConfOk c) {v : Nat} (hv : v < c.Vips.n) : F_spec_l5Shares fu c (v : Int) = some (sharesV c v) := by
  unfold F_spec_l5Shares sharesV
  have hn := hl.names v hv
  refine runL (c.Vips.f v).Names.n (fun j (s : Nat × (Nat → S_impl_Share)) => (s.1, (j : Int), s.1, s.2)) (0, fun _ => dflt .impl_Share) (shStep c v) (fun _ => some ⟨none, 0, fun _ => dflt .impl_Share⟩) (fun s => some ⟨none, s.1, s.2⟩) shI (by omega) rfl ⟨Nat.le_refl _, fun k hk => absurd hk (Nat.not_lt_zero _)⟩ (fun j s go hj hI => ?_) (fun j s s' hj hI hs => shI_step hc hv hj hI hs) (fun s go hI => ?_) ?_
  · obtain ⟨b, hb⟩ := hc.names v hv j hj
    obtain ⟨b1, b2⟩ := hasB_is hb
    have hbAt : bAt c v j = c.Backends.f b := by unfold bAt; rw [hb]; rfl
    have hat : atB c.Backends ((c.Vips.f v).Names.f j) = (b : Int) := by unfold atB; rw [hb]; rfl
    have hs1 : s.1 ≤ j := hI.1
    have h1 : s.1 + 1 ≤ 9223372036854775807 := by omega
    have h2 : (s.1 + 1) * 16 ≤ 140737488355328 := by omega
    rw [F_spec_l5Shares_B0]
    unfold shStep
    rw [hbAt]
    have hA := s_At hf (⟨c.Version, c.Backends, c.Vips⟩ : S_impl_Config) hl.backends ((c.Vips.f v).Names.f j)
    simp only [Int.toNat_natCast, Int.natCast_nonneg, Int.ofNat_lt, hv, hj, decide_true, Bool.and_self, cond_true, Option.bind_some, hA, hat, b1, wsucc (show j < 4611686018427387904 by omega), h1, h2]
    cases hu : (c.Backends.f b).Up <;> cases hst : ((c.Backends.f b).Stage == 1) <;> simp only [cond_true, cond_false, Option.bind_some, Bool.and_true, Bool.and_false, Sum.elim_inr, b2]
  · rw [F_spec_l5Shares_B0]
    simp [hv]
  · unfold shRun
    cases run (shStep c v) (c.Vips.f v).Names.n 0 (0, fun _ => dflt .impl_Share) <;> rfl

theorem i_Shares {fu : Nat} (hf : 2000000 ≤ fu) {c : S_impl_Config} (hl : ConfLen c) (hc : ConfOk c) {v : Nat} (hv : v < c.Vips.n) : F_impl_Config_shares fu c (v : Int) = some (sharesV c v) := by
  unfold F_impl_Config_shares sharesV
  have hn := hl.names v hv
  simp only [Int.toNat_natCast, Int.natCast_nonneg, hv, decide_true, Bool.and_self, cond_true, Option.bind_some]
  refine runL (c.Vips.f v).Names.n (fun j (s : Nat × (Nat → S_impl_Share)) => (s.1, (j : Int), s.1, s.2)) (0, fun _ => dflt .impl_Share) (shStep c v) (fun _ => some ⟨none, 0, fun _ => dflt .impl_Share⟩) (fun s => some ⟨none, s.1, s.2⟩) shI (by omega) rfl ⟨Nat.le_refl _, fun k hk => absurd hk (Nat.not_lt_zero _)⟩ (fun j s go hj hI => ?_) (fun j s s' hj hI hs => shI_step hc hv hj hI hs) (fun s go hI => ?_) ?_
  · obtain ⟨b, hb⟩ := hc.names v hv j hj
    obtain ⟨b1, b2⟩ := hasB_is hb
    have hbAt : bAt c v j = c.Backends.f b := by unfold bAt; rw [hb]; rfl
    have hat : atB c.Backends ((c.Vips.f v).Names.f j) = (b : Int) := by unfold atB; rw [hb]; rfl
    have hs1 : s.1 ≤ j := hI.1
    have h1 : s.1 + 1 ≤ 9223372036854775807 := by omega
    have h2 : (s.1 + 1) * 16 ≤ 140737488355328 := by omega
    rw [F_impl_Config_shares_B0]
    unfold shStep
    rw [hbAt]
    have hA := i_backend hf (⟨c.Version, c.Backends, c.Vips⟩ : S_impl_Config) hl.backends ((c.Vips.f v).Names.f j)
    simp only [Int.toNat_natCast, Int.natCast_nonneg, Int.ofNat_lt, hj, decide_true, Bool.and_self, cond_true, Option.bind_some, hA, hat, b1, wsucc (show j < 4611686018427387904 by omega), h1, h2]
    cases hu : (c.Backends.f b).Up <;> cases hst : ((c.Backends.f b).Stage == 1) <;> simp only [cond_true, cond_false, Option.bind_some, Bool.and_true, Bool.and_false, Sum.elim_inr]
  · rw [F_impl_Config_shares_B0]
    simp
  · unfold shRun
    cases run (shStep c v) (c.Vips.f v).Names.n 0 (0, fun _ => dflt .impl_Share) <;> rfl

/-! ### All tables -/

def tabV (c : S_impl_Config) (v : Nat) : Sl Int := ⟨none, 31, bif sumW (sharesV c v) (sharesV c v).n == 0 then T0 else val (run (rS (sharesV c v)) 31 0 T0)⟩
def tabStep (c : S_impl_Config) (j : Nat) (O : Nat → Sl Int) : Sum Unit (Nat → Sl Int) := .inr (fun i => if i < j then O i else ((fun i => [tabV c j].getD i (dflt .sl_i64)) (i - j)))
def tabRun (c : S_impl_Config) : Sum Unit (Nat → Sl Int) := run (tabStep c) c.Vips.n 0 (fun _ => dflt .sl_i64)
def tabsV (c : S_impl_Config) : Sl (Sl Int) := (tabRun c).elim (fun _ => ⟨none, 0, fun _ => dflt .sl_i64⟩) (fun O => ⟨none, c.Vips.n, O⟩)
theorem tabs_is (c : S_impl_Config) : (tabsV c).n = c.Vips.n ∧ ∀ i, i < c.Vips.n → (tabsV c).f i = tabV c i := by
  obtain ⟨O, e, h⟩ := runI_inr (f := tabStep c) (I := fun j O => ∀ i, i < j → O i = tabV c i) c.Vips.n 0 (fun _ => dflt .sl_i64) (fun i hi => absurd hi (Nat.not_lt_zero _)) (fun j O _ _ h => ⟨_, rfl, fun i hi => by
    by_cases hij : i < j
    · rw [if_pos hij]; exact h i hij
    · have : i = j := by omega
      subst this
      rw [if_neg (by omega), Nat.sub_self]
      rfl⟩)
  unfold tabsV tabRun
  rw [e]
  rw [Nat.zero_add] at h
  exact ⟨rfl, h⟩
theorem s_Tables {fu : Nat} (hf : 2000000 ≤ fu) {c : S_impl_Config} (hl : ConfLen c) (hc : ConfOk c) : F_spec_l14Tables fu c = some (tabsV c) := by
  unfold F_spec_l14Tables tabsV
  have hv := hl.vips
  refine runL c.Vips.n (fun j (O : Nat → Sl Int) => (j, (j : Int), j, O)) (fun _ => dflt .sl_i64) (tabStep c) (fun _ => some ⟨none, 0, fun _ => dflt .sl_i64⟩) (fun O => some ⟨none, c.Vips.n, O⟩) (fun _ _ => True) (by omega) rfl trivial (fun j O go hj _ => ?_) (fun _ _ _ _ _ _ => trivial) (fun O go _ => ?_) ?_
  · rw [F_spec_l14Tables_B0]
    have h1 : j + 1 ≤ 9223372036854775807 := by omega
    have h2 : (j + 1) * 24 ≤ 140737488355328 := by omega
    have hS := s_Shares hf (c := (⟨c.Version, c.Backends, c.Vips⟩ : S_impl_Config)) hl hc hj
    simp only [Int.ofNat_lt, hj, decide_true, cond_true, hS, Option.bind_some]
    rw [s_Fill hf (shares_ok hl hc hj)]
    simp only [Option.bind_some, h1, h2, decide_true, Bool.and_self, cond_true, wsucc (show j < 4611686018427387904 by omega)]
    rfl
  · rw [F_spec_l14Tables_B0]
    simp
  · unfold tabRun
    cases run (tabStep c) c.Vips.n 0 (fun _ => dflt .sl_i64) <;> rfl
theorem i_Tables {fu : Nat} (hf : 2000000 ≤ fu) {c : S_impl_Config} (hl : ConfLen c) (hc : ConfOk c) : F_impl_Config_tables fu c = some (tabsV c) := by
  unfold F_impl_Config_tables tabsV
  have hv := hl.vips
  refine runL c.Vips.n (fun j (O : Nat → Sl Int) => (j, (j : Int), j, O)) (fun _ => dflt .sl_i64) (tabStep c) (fun _ => some ⟨none, 0, fun _ => dflt .sl_i64⟩) (fun O => some ⟨none, c.Vips.n, O⟩) (fun _ _ => True) (by omega) rfl trivial (fun j O go hj _ => ?_) (fun _ _ _ _ _ _ => trivial) (fun O go _ => ?_) ?_
  · rw [F_impl_Config_tables_B0]
    have h1 : j + 1 ≤ 9223372036854775807 := by omega
    have h2 : (j + 1) * 24 ≤ 140737488355328 := by omega
    have hS := i_Shares hf (c := (⟨c.Version, c.Backends, c.Vips⟩ : S_impl_Config)) hl hc hj
    simp only [Int.ofNat_lt, hj, decide_true, cond_true, hS, Option.bind_some]
    rw [i_Fill hf (shares_ok hl hc hj)]
    simp only [Option.bind_some, h1, h2, decide_true, Bool.and_self, cond_true, wsucc (show j < 4611686018427387904 by omega)]
    rfl
  · rw [F_impl_Config_tables_B0]
    simp
  · unfold tabRun
    cases run (tabStep c) c.Vips.n 0 (fun _ => dflt .sl_i64) <;> rfl

theorem sameN_comm (x y : Sl Int) : sameN x y = sameN y x := by
  unfold sameN
  by_cases h : x.n = y.n
  · rw [h]
    congr 1
    exact allb_congr (fun i _ => by rw [Bool.eq_iff_iff, beq_iff_eq, beq_iff_eq]; exact eq_comm)
  · have h1 : (x.n == y.n) = false := by simpa using h
    have h2 : (y.n == x.n) = false := by simpa using (Ne.symm h)
    rw [h1, h2]; rfl
def sameT (x y : Sl (Sl Int)) : Bool := (x.n == y.n) && allb x.n (fun i => sameN (x.f i) (y.f i))
theorem i_EqualT {fu : Nat} (hf : 2000000 ≤ fu) (x y : Sl (Sl Int)) (hx : x.n ≤ 1048576) (hn : ∀ i, i < x.n → (x.f i).n ≤ 1048576) : F_slices_EqualFunc_int64_int64_int64_int64_w_slices_Equal_int64_int64 fu x y = some (sameT x y) := by
  unfold F_slices_EqualFunc_int64_int64_int64_int64_w_slices_Equal_int64_int64 sameT
  rw [n_ne]
  by_cases h : x.n = y.n
  · simp only [h, beq_self_eq_true, Bool.not_true, cond_false, Bool.true_and]
    refine allL y.n (fun i => sameN (x.f i) (y.f i)) (some false) (some true) (by omega) (fun i go hi => ?_) (fun go => ?_) (by cases allb y.n (fun i => sameN (x.f i) (y.f i)) <;> rfl)
    · unfold F_slices_EqualFunc_int64_int64_int64_int64_w_slices_Equal_int64_int64_B0
      simp only [Int.toNat_natCast, Int.natCast_nonneg, Int.ofNat_lt, h, hi, decide_true, Bool.and_self, cond_true, Option.bind_some, wsucc (show i < 4611686018427387904 by omega), i_EqualN hf (x.f i) (y.f i) (hn i (by omega))]
      cases sameN (x.f i) (y.f i) <;> rfl
    · unfold F_slices_EqualFunc_int64_int64_int64_int64_w_slices_Equal_int64_int64_B0; simp
  · rw [beq_eq_false_iff_ne.2 h]; rfl

/-! ### Flows -/

def flowOk (f : S_impl_Flow) : Bool := rng f.From 0 4294967295 && (rng f.To 0 4294967295 && (protoOk f.Proto && (rng f.FromP 0 65535 && rng f.ToP 0 65535)))
theorem s_Flow (fu : Nat) (f : S_impl_Flow) : F_spec_l3Flow fu f = some (flowOk f) := by
  unfold F_spec_l3Flow flowOk protoOk
  simp only [p_l2Address, p_l2Port, Option.bind_some]
  cases rng f.From 0 4294967295 <;> cases rng f.To 0 4294967295 <;> cases (f.Proto == 6) <;> cases (f.Proto == 17) <;> cases rng f.FromP 0 65535 <;> cases rng f.ToP 0 65535 <;> rfl
theorem i_Flow (fu : Nat) (f : S_impl_Flow) : F_impl_isFlow fu f = some (flowOk f) := by
  unfold F_impl_isFlow F_impl_PacketFault flowOk
  simp only [p_isAddress, p_isPort, p_l2Address, p_l2Port, i_isProto, Option.bind_some]
  cases rng f.From 0 4294967295 <;> cases rng f.To 0 4294967295 <;> cases protoOk f.Proto <;> cases rng f.FromP 0 65535 <;> cases rng f.ToP 0 65535 <;> rfl
def flowEq (a b : S_impl_Flow) : Bool := (a.From == b.From) && ((a.To == b.To) && ((a.Proto == b.Proto) && ((a.FromP == b.FromP) && ((a.ToP == b.ToP) && true))))
def findH (list : Sl S_impl_Held) (f : S_impl_Flow) : Option Nat := scan (fun j => bif flowEq (list.f j).Flow f then some j else none) list.n 0
theorem s_Find {fu : Nat} (hf : 2000000 ≤ fu) (list : Sl S_impl_Held) (f : S_impl_Flow) (hn : list.n ≤ 1048576) : F_spec_l14Find fu list f = some ((findH list f).elim (-1) (fun j => (j : Int))) := by
  unfold F_spec_l14Find
  refine scanL list.n (fun j => bif flowEq (list.f j).Flow f then some j else none) (fun j => some ((j : Nat) : Int)) (some (-1)) (by omega) (fun j go hj => ?_) (fun go => ?_) ?_
  · unfold F_spec_l14Find_B0 flowEq
    simp only [Int.toNat_natCast, Int.natCast_nonneg, Int.ofNat_lt, hj, decide_true, Bool.and_self, cond_true, Option.bind_some, wsucc (show j < 4611686018427387904 by omega)]
    cases ((list.f j).Flow.From == f.From) && (((list.f j).Flow.To == f.To) && (((list.f j).Flow.Proto == f.Proto) && (((list.f j).Flow.FromP == f.FromP) && (((list.f j).Flow.ToP == f.ToP) && true)))) <;> rfl
  · unfold F_spec_l14Find_B0; simp
  · unfold findH
    cases scan (fun j => bif flowEq (list.f j).Flow f then some j else none) list.n 0 <;> rfl
theorem i_has {fu : Nat} (hf : 2000000 ≤ fu) (list : Sl S_impl_Held) (f : S_impl_Flow) (a b : Int) (hn : list.n ≤ 1048576) : F_slices_ContainsFunc_impl_Held_impl_Held_w_impl_MuxFault_c1 fu list f.From f.To f.Proto f.FromP f.ToP a b = some (findH list f).isSome := by
  unfold F_slices_ContainsFunc_impl_Held_impl_Held_w_impl_MuxFault_c1
  have e : F_slices_IndexFunc_impl_Held_impl_Held_w_impl_MuxFault_c1 fu list f.From f.To f.Proto f.FromP f.ToP a b = some ((findH list f).elim (-1) (fun j => (j : Int))) := by
    unfold F_slices_IndexFunc_impl_Held_impl_Held_w_impl_MuxFault_c1
    refine scanL list.n (fun j => bif flowEq (list.f j).Flow f then some j else none) (fun j => some ((j : Nat) : Int)) (some (-1)) (by omega) (fun j go hj => ?_) (fun go => ?_) ?_
    · unfold F_slices_IndexFunc_impl_Held_impl_Held_w_impl_MuxFault_c1_B0 F_impl_MuxFault_c1 flowEq
      simp only [Int.toNat_natCast, Int.natCast_nonneg, Int.ofNat_lt, hj, decide_true, Bool.and_self, cond_true, Option.bind_some, wsucc (show j < 4611686018427387904 by omega)]
      cases ((list.f j).Flow.From == f.From) && (((list.f j).Flow.To == f.To) && (((list.f j).Flow.Proto == f.Proto) && (((list.f j).Flow.FromP == f.FromP) && (((list.f j).Flow.ToP == f.ToP) && true)))) <;> rfl
    · unfold F_slices_IndexFunc_impl_Held_impl_Held_w_impl_MuxFault_c1_B0; simp
    · unfold findH
      cases scan (fun j => bif flowEq (list.f j).Flow f then some j else none) list.n 0 <;> rfl
  rw [e]
  cases findH list f with
  | none => rfl
  | some j =>
    have : (j : Int) ≥ 0 := by omega
    simp only [Option.bind_some, Option.elim_some, this, decide_true, Option.isSome_some]

/-! ### Who serves -/

def vipFor (c : S_impl_Config) (f : S_impl_Flow) : Option Nat := scan (fun j => bif ((c.Vips.f j).Address == f.To) && (((c.Vips.f j).Port == f.ToP) && ((c.Vips.f j).Proto == f.Proto)) then some j else none) c.Vips.n 0
theorem s_For {fu : Nat} (hf : 2000000 ≤ fu) {c : S_impl_Config} (hl : ConfLen c) (f : S_impl_Flow) : F_spec_l5For fu c f = some ((vipFor c f).elim (-1) (fun j => (j : Int))) := by
  unfold F_spec_l5For
  have hv := hl.vips
  refine scanL c.Vips.n (fun j => bif ((c.Vips.f j).Address == f.To) && (((c.Vips.f j).Port == f.ToP) && ((c.Vips.f j).Proto == f.Proto)) then some j else none) (fun j => some ((j : Nat) : Int)) (some (-1)) (by omega) (fun j go hj => ?_) (fun go => ?_) ?_
  · unfold F_spec_l5For_B0
    simp only [Int.toNat_natCast, Int.natCast_nonneg, Int.ofNat_lt, hj, decide_true, Bool.and_self, cond_true, Option.bind_some, wsucc (show j < 4611686018427387904 by omega)]
    cases ((c.Vips.f j).Address == f.To) <;> cases ((c.Vips.f j).Port == f.ToP) <;> cases ((c.Vips.f j).Proto == f.Proto) <;> rfl
  · unfold F_spec_l5For_B0; simp
  · unfold vipFor
    cases scan (fun j => bif ((c.Vips.f j).Address == f.To) && (((c.Vips.f j).Port == f.ToP) && ((c.Vips.f j).Proto == f.Proto)) then some j else none) c.Vips.n 0 <;> rfl
theorem i_vipOf {fu : Nat} (hf : 2000000 ≤ fu) {c : S_impl_Config} (hl : ConfLen c) (f : S_impl_Flow) : F_impl_Config_vipOf fu c f = some ((vipFor c f).elim (-1) (fun j => (j : Int))) := by
  unfold F_impl_Config_vipOf F_impl_Config_vip
  have hv := hl.vips
  have e : F_slices_IndexFunc_impl_Vip_impl_Vip_w_impl_Config_vip_c1 fu c.Vips f.To f.ToP f.Proto = some ((vipFor c f).elim (-1) (fun j => (j : Int))) := by
    unfold F_slices_IndexFunc_impl_Vip_impl_Vip_w_impl_Config_vip_c1
    refine scanL c.Vips.n (fun j => bif ((c.Vips.f j).Address == f.To) && (((c.Vips.f j).Port == f.ToP) && ((c.Vips.f j).Proto == f.Proto)) then some j else none) (fun j => some ((j : Nat) : Int)) (some (-1)) (by omega) (fun j go hj => ?_) (fun go => ?_) ?_
    · unfold F_slices_IndexFunc_impl_Vip_impl_Vip_w_impl_Config_vip_c1_B0 F_impl_Config_vip_c1
      simp only [Int.toNat_natCast, Int.natCast_nonneg, Int.ofNat_lt, hj, decide_true, Bool.and_self, cond_true, Option.bind_some, wsucc (show j < 4611686018427387904 by omega)]
      cases ((c.Vips.f j).Address == f.To) <;> cases ((c.Vips.f j).Port == f.ToP) <;> cases ((c.Vips.f j).Proto == f.Proto) <;> rfl
    · unfold F_slices_IndexFunc_impl_Vip_impl_Vip_w_impl_Config_vip_c1_B0; simp
    · unfold vipFor
      cases scan (fun j => bif ((c.Vips.f j).Address == f.To) && (((c.Vips.f j).Port == f.ToP) && ((c.Vips.f j).Proto == f.Proto)) then some j else none) c.Vips.n 0 <;> rfl
  rw [e]; rfl
theorem vipFor_lt {c : S_impl_Config} {f : S_impl_Flow} {v : Nat} (h : vipFor c f = some v) : v < c.Vips.n := by
  obtain ⟨j, h1, h2, h3⟩ := scan_some h
  cases hq : ((c.Vips.f j).Address == f.To) && (((c.Vips.f j).Port == f.ToP) && ((c.Vips.f j).Proto == f.Proto)) with
  | false => rw [hq] at h3; cases h3
  | true => rw [hq] at h3; cases h3; omega
def hasN (x : Sl Int) (n : Int) : Option Nat := scan (fun j => bif x.f j == n then some j else none) x.n 0
theorem s_Has {fu : Nat} (hf : 2000000 ≤ fu) (x : Sl Int) (n : Int) (hx : x.n ≤ 1048576) : F_spec_l1Has fu x n = some (hasN x n).isSome := by
  unfold F_spec_l1Has
  refine scanL x.n (fun j => bif x.f j == n then some j else none) (fun j => some true) (some false) (by omega) (fun j go hj => ?_) (fun go => ?_) ?_
  · unfold F_spec_l1Has_B0
    simp only [Int.toNat_natCast, Int.natCast_nonneg, Int.ofNat_lt, hj, decide_true, Bool.and_self, cond_true, Option.bind_some, wsucc (show j < 4611686018427387904 by omega)]
    cases (x.f j == n) <;> rfl
  · unfold F_spec_l1Has_B0; simp
  · unfold hasN
    cases scan (fun j => bif x.f j == n then some j else none) x.n 0 <;> rfl
theorem i_ContainsN {fu : Nat} (hf : 2000000 ≤ fu) (x : Sl Int) (n : Int) (hx : x.n ≤ 1048576) : F_slices_Contains_int64_int64 fu x n = some (hasN x n).isSome := by
  unfold F_slices_Contains_int64_int64
  have e : F_slices_Index_int64_int64 fu x n = some ((hasN x n).elim (-1) (fun j => (j : Int))) := by
    unfold F_slices_Index_int64_int64
    refine scanL x.n (fun j => bif x.f j == n then some j else none) (fun j => some ((j : Nat) : Int)) (some (-1)) (by omega) (fun j go hj => ?_) (fun go => ?_) ?_
    · unfold F_slices_Index_int64_int64_B0
      have hcm : (n == x.f j) = (x.f j == n) := by rw [Bool.eq_iff_iff, beq_iff_eq, beq_iff_eq]; exact eq_comm
      simp only [Int.toNat_natCast, Int.natCast_nonneg, Int.ofNat_lt, hj, decide_true, Bool.and_self, cond_true, Option.bind_some, wsucc (show j < 4611686018427387904 by omega), hcm]
      cases (x.f j == n) <;> rfl
    · unfold F_slices_Index_int64_int64_B0; simp
    · unfold hasN
      cases scan (fun j => bif x.f j == n then some j else none) x.n 0 <;> rfl
  rw [e]
  cases hasN x n with
  | none => rfl
  | some j =>
    have : (j : Int) ≥ 0 := by omega
    simp only [Option.bind_some, Option.elim_some, this, decide_true, Option.isSome_some]
theorem hasN_is {x : Sl Int} {n : Int} {j : Nat} (h : hasN x n = some j) : j < x.n ∧ x.f j = n := by
  obtain ⟨k, h1, h2, h3⟩ := scan_some h
  cases hq : (x.f k == n) with
  | false => rw [hq] at h3; cases h3
  | true => rw [hq] at h3; cases h3; exact ⟨by omega, by simpa using hq⟩

def servs (c : S_impl_Config) (f : S_impl_Flow) (n : Int) : Bool := (vipFor c f).elim false (fun v => (hasN (c.Vips.f v).Names n).isSome && ((c.Backends.f ((hasB c.Backends n).getD 0)).Stage != 3))
theorem s_Serves {fu : Nat} (hf : 2000000 ≤ fu) {c : S_impl_Config} (hl : ConfLen c) (hc : ConfOk c) (f : S_impl_Flow) (n : Int) : F_spec_l14Serves fu c f n = some (servs c f n) := by
  unfold F_spec_l14Serves servs
  simp only [s_For hf hl f, s_At hf c hl.backends n, Option.bind_some]
  cases hv : vipFor c f with
  | none => rfl
  | some v =>
    have hvl := vipFor_lt hv
    simp only [Option.elim_some, show ¬ ((v : Int) < 0) by omega, decide_false, cond_false, Int.natCast_nonneg, Int.toNat_natCast, hvl, decide_true, Bool.and_self, cond_true, Option.bind_some, s_Has hf (c.Vips.f v).Names n (hl.names v hvl)]
    cases hj : hasN (c.Vips.f v).Names n with
    | none => rfl
    | some j =>
      obtain ⟨j1, j2⟩ := hasN_is hj
      obtain ⟨b, hb⟩ := hc.names v hvl j j1
      rw [j2] at hb
      obtain ⟨b1, b2⟩ := hasB_is hb
      have hat : atB c.Backends n = (b : Int) := by unfold atB; rw [hb]; rfl
      simp only [Option.isSome_some, Bool.not_true, cond_false, hat, Int.natCast_nonneg, Int.toNat_natCast, b1, decide_true, Bool.and_self, cond_true, Option.bind_some, hb, Option.getD_some, Bool.true_and]
theorem i_serves {fu : Nat} (hf : 2000000 ≤ fu) {c : S_impl_Config} (hl : ConfLen c) (hc : ConfOk c) (f : S_impl_Flow) (n : Int) : F_impl_Config_serves fu c f n = some (servs c f n) := by
  unfold F_impl_Config_serves servs
  simp only [i_vipOf hf hl f, i_backend hf c hl.backends n, Option.bind_some]
  cases hv : vipFor c f with
  | none => rfl
  | some v =>
    have hvl := vipFor_lt hv
    simp only [Option.elim_some, show ((v : Int) ≥ 0) by omega, decide_true, cond_true]
    cases hb : hasB c.Backends n with
    | none =>
      have hat : atB c.Backends n = -1 := by unfold atB; rw [hb]; rfl
      have hno : hasN (c.Vips.f v).Names n = none := by
        cases hj : hasN (c.Vips.f v).Names n with
        | none => rfl
        | some j =>
          obtain ⟨j1, j2⟩ := hasN_is hj
          obtain ⟨b, hb'⟩ := hc.names v hvl j j1
          rw [j2, hb] at hb'; cases hb'
      simp only [hat, hno, show ¬ ((-1 : Int) ≥ 0) by omega, decide_false, cond_false, Option.bind_some, Option.isSome_none, Bool.false_and]
    | some b =>
      obtain ⟨b1, b2⟩ := hasB_is hb
      have hat : atB c.Backends n = (b : Int) := by unfold atB; rw [hb]; rfl
      simp only [hat, show ((b : Int) ≥ 0) by omega, decide_true, cond_true, Int.natCast_nonneg, Int.toNat_natCast, hvl, Bool.and_self, Option.bind_some, i_ContainsN hf (c.Vips.f v).Names n (hl.names v hvl), b1, Option.getD_some]
      cases (hasN (c.Vips.f v).Names n).isSome <;> rfl

/-! ### A mux -/

structure MuxLen (m : S_impl_Mux) : Prop where
  conf : ConfLen m.Watch.Config
  tables : m.Tables.n ≤ 1048576
  tabs : ∀ i, i < m.Tables.n → (m.Tables.f i).n ≤ 1048576
  cache : m.Cache.n ≤ 1048576

def heldAt (m : S_impl_Mux) (i : Nat) : Option Int :=
  bif !flowOk (m.Cache.f i).Flow || !rng (m.Cache.f i).Seen 0 m.Now then some 3 else bif !servs m.Watch.Config (m.Cache.f i).Flow (m.Cache.f i).Name then some 4 else
  bif decide (IntKind.wrap .i64 (m.Now - (m.Cache.f i).Seen) > 20) then some 9 else bif (findH ⟨m.Cache.z, i, fun k => m.Cache.f k⟩ (m.Cache.f i).Flow).isSome then some 7 else none
def heldf (m : S_impl_Mux) : Int := bif decide (8 < m.Cache.n) then 2 else (scan (heldAt m) m.Cache.n 0).getD 0
def muxf (m : S_impl_Mux) : Int :=
  bif !rng m.Address 0 4294967295 || !rng m.Now 0 1000000000 then 3 else bif watchf m.Watch != 0 then watchf m.Watch else bif !sameT m.Tables (tabsV m.Watch.Config) then 1 else heldf m

theorem s_Held {fu : Nat} (hf : 2000000 ≤ fu) {m : S_impl_Mux} (hl : MuxLen m) (hc : ConfOk m.Watch.Config) : F_spec_l14Held fu m = some (heldf m) := by
  unfold F_spec_l14Held heldf
  have hn := hl.cache
  by_cases h8 : 8 < m.Cache.n
  · have : ((m.Cache.n : Nat) : Int) > 8 := by omega
    simp only [h8, this, decide_true, cond_true]
  · have : ¬ ((m.Cache.n : Nat) : Int) > 8 := by omega
    simp only [h8, this, decide_false, cond_false]
    refine scanL m.Cache.n (heldAt m) (fun c => some c) (some 0) (by omega) (fun i go hi => ?_) (fun go => ?_) ?_
    · unfold F_spec_l14Held_B0 heldAt
      have hS := s_Serves hf (c := (⟨m.Watch.Config.Version, m.Watch.Config.Backends, m.Watch.Config.Vips⟩ : S_impl_Config)) hl.conf hc (m.Cache.f i).Flow (m.Cache.f i).Name
      have hF := s_Find hf (⟨m.Cache.z, i, fun k => m.Cache.f k⟩ : Sl S_impl_Held) (m.Cache.f i).Flow (by show i ≤ _; omega)
      have hil : i ≤ m.Cache.n := by omega
      simp only [Int.toNat_natCast, Int.natCast_nonneg, Int.ofNat_lt, hi, hil, decide_true, Bool.and_self, Bool.true_and, cond_true, Option.bind_some, wsucc (show i < 4611686018427387904 by omega), s_Flow, p_l1In, hS, Nat.sub_zero, Nat.zero_add, hF]
      have hsv : servs (⟨m.Watch.Config.Version, m.Watch.Config.Backends, m.Watch.Config.Vips⟩ : S_impl_Config) = servs m.Watch.Config := rfl
      rw [hsv]
      have hge : ∀ x : Option Nat, decide (x.elim (-1 : Int) (fun j => (j : Int)) ≥ 0) = x.isSome := fun x => by
        cases x with
        | none => rfl
        | some j => simp
      rw [hge]
      cases flowOk (m.Cache.f i).Flow <;> cases rng (m.Cache.f i).Seen 0 m.Now <;> cases servs m.Watch.Config (m.Cache.f i).Flow (m.Cache.f i).Name <;> cases decide (IntKind.wrap .i64 (m.Now - (m.Cache.f i).Seen) > 20) <;> cases (findH ⟨m.Cache.z, i, fun k => m.Cache.f k⟩ (m.Cache.f i).Flow).isSome <;> rfl
    · unfold F_spec_l14Held_B0; simp
    · cases scan (heldAt m) m.Cache.n 0 <;> rfl

theorem s_MuxFault0 {fu : Nat} (hf : 2000000 ≤ fu) {m : S_impl_Mux} (hl : MuxLen m) : F_spec_l14Fault fu m = some (muxf m) := by
  unfold F_spec_l14Fault muxf F_spec_l14Now
  simp only [p_l2Address, p_l1In, Option.bind_some, s_WatchFault hf m.Watch hl.conf]
  cases rng m.Address 0 4294967295 with
  | false => rfl
  | true =>
    cases rng m.Now 0 1000000000 with
    | false => rfl
    | true =>
      simp only [Bool.not_true, cond_false, Option.bind_some, Bool.or_self]
      cases hw : (watchf m.Watch != 0) with
      | true => rfl
      | false =>
        have hc := conf_ok (watch_conf hw)
        obtain ⟨t1, t2⟩ := tabs_is m.Watch.Config
        have hvl := hl.conf.vips
        simp only [cond_false, s_Tables hf hl.conf hc, Option.bind_some, s_Held hf hl hc]
        rw [n_ne]
        unfold sameT
        by_cases h : m.Tables.n = (tabsV m.Watch.Config).n
        · have hh : ((tabsV m.Watch.Config).n == m.Tables.n) = true := by simp [h]
          have hh' : (m.Tables.n == (tabsV m.Watch.Config).n) = true := by simp [h]
          simp only [hh, hh', Bool.not_true, cond_false, Bool.true_and]
          refine allL (tabsV m.Watch.Config).n (fun i => sameN (m.Tables.f i) ((tabsV m.Watch.Config).f i)) (some 1) (some (heldf m)) (by rw [t1]; omega) (fun i go hi => ?_) (fun go => ?_) ?_
          · unfold F_spec_l14Fault_B0
            have hi' : i < m.Tables.n := by omega
            have hn : ((tabsV m.Watch.Config).f i).n ≤ 1048576 := by rw [t2 i (by omega)]; show 31 ≤ _; omega
            simp only [Int.toNat_natCast, Int.natCast_nonneg, Int.ofNat_lt, hi, hi', decide_true, Bool.and_self, cond_true, Option.bind_some, wsucc (show i < 4611686018427387904 by omega), s_Nums hf ((tabsV m.Watch.Config).f i) (m.Tables.f i) hn, sameN_comm ((tabsV m.Watch.Config).f i) (m.Tables.f i)]
            cases sameN (m.Tables.f i) ((tabsV m.Watch.Config).f i) <;> rfl
          · unfold F_spec_l14Fault_B0; simp
          · rw [h]
            cases allb (tabsV m.Watch.Config).n (fun i => sameN (m.Tables.f i) ((tabsV m.Watch.Config).f i)) <;> rfl
        · have hh : ((tabsV m.Watch.Config).n == m.Tables.n) = false := by simpa using (Ne.symm h)
          have hh' : (m.Tables.n == (tabsV m.Watch.Config).n) = false := by simpa using h
          rw [hh, hh']; rfl
theorem i_MuxFault {fu : Nat} (hf : 2000000 ≤ fu) {m : S_impl_Mux} (hl : MuxLen m) : F_impl_MuxFault fu m = some (muxf m) := by
  unfold F_impl_MuxFault muxf heldf
  simp only [p_isAddress, p_l2Address, p_in, Option.bind_some, i_WatchFault hf m.Watch hl.conf]
  cases rng m.Address 0 4294967295 with
  | false => rfl
  | true =>
    cases rng m.Now 0 1000000000 with
    | false => rfl
    | true =>
      simp only [Bool.not_true, cond_false, Option.bind_some, Bool.or_self]
      cases hw : (watchf m.Watch != 0) with
      | true => rfl
      | false =>
        have hc := conf_ok (watch_conf hw)
        have hn := hl.cache
        simp only [cond_false, i_Tables hf hl.conf hc, Option.bind_some, i_EqualT hf m.Tables (tabsV m.Watch.Config) hl.tables hl.tabs]
        cases sameT m.Tables (tabsV m.Watch.Config) with
        | false => rfl
        | true =>
          simp only [Bool.not_true, cond_false]
          by_cases h8 : 8 < m.Cache.n
          · have : ((m.Cache.n : Nat) : Int) > 8 := by omega
            simp only [h8, this, decide_true, cond_true]
          · have : ¬ ((m.Cache.n : Nat) : Int) > 8 := by omega
            simp only [h8, this, decide_false, cond_false]
            refine scanL m.Cache.n (heldAt m) (fun c => some c) (some 0) (by omega) (fun i go hi => ?_) (fun go => ?_) ?_
            · unfold F_impl_MuxFault_B1 heldAt
              have hS := i_serves hf (c := (⟨m.Watch.Config.Version, m.Watch.Config.Backends, m.Watch.Config.Vips⟩ : S_impl_Config)) hl.conf hc (m.Cache.f i).Flow (m.Cache.f i).Name
              have hF := i_has hf (⟨m.Cache.z, i, fun k => m.Cache.f k⟩ : Sl S_impl_Held) (m.Cache.f i).Flow (m.Cache.f i).Name (m.Cache.f i).Seen (by show i ≤ _; omega)
              have hil : i ≤ m.Cache.n := by omega
              simp only [Int.toNat_natCast, Int.natCast_nonneg, Int.ofNat_lt, hi, hil, decide_true, Bool.and_self, Bool.true_and, cond_true, Option.bind_some, wsucc (show i < 4611686018427387904 by omega), i_Flow, p_in, hS, Nat.sub_zero, Nat.zero_add, hF]
              have hsv : servs (⟨m.Watch.Config.Version, m.Watch.Config.Backends, m.Watch.Config.Vips⟩ : S_impl_Config) = servs m.Watch.Config := rfl
              rw [hsv]
              cases flowOk (m.Cache.f i).Flow <;> cases rng (m.Cache.f i).Seen 0 m.Now <;> cases servs m.Watch.Config (m.Cache.f i).Flow (m.Cache.f i).Name <;> cases decide (IntKind.wrap .i64 (m.Now - (m.Cache.f i).Seen) > 20) <;> cases (findH ⟨m.Cache.z, i, fun k => m.Cache.f k⟩ (m.Cache.f i).Flow).isSome <;> rfl
            · unfold F_impl_MuxFault_B1; simp
            · cases scan (heldAt m) m.Cache.n 0 <;> rfl

theorem findH_lt {list : Sl S_impl_Held} {f : S_impl_Flow} {j : Nat} (h : findH list f = some j) : j < list.n := by
  obtain ⟨k, h1, h2, h3⟩ := scan_some h
  cases hq : flowEq (list.f k).Flow f with
  | false => rw [hq] at h3; cases h3
  | true => rw [hq] at h3; cases h3; omega
/-! ### The laws -/

def d_Held : S_impl_Held := ⟨⟨0, 0, 0, 0, 0⟩, 0, 0⟩
def toH (x : S_laws_Held) : S_impl_Held := ⟨x.Flow, x.Name, x.Seen⟩
def d_row : Sl Int := ⟨some true, 0, fun _ => dflt .i64⟩
def toM (x : S_laws_Mux) : S_impl_Mux := ⟨x.Address, x.Now, toWatch x.Watch, cp (cp id 0) d_row x.Tables, cp toH d_Held x.Cache⟩
structure MuxLen' (x : S_laws_Mux) : Prop where
  conf : ConfLen' x.Watch.Config
  tables : x.Tables.n ≤ 1048576
  tabs : ∀ i, i < x.Tables.n → (x.Tables.f i).n ≤ 1048576
  cache : x.Cache.n ≤ 1048576
theorem toM_len {x : S_laws_Mux} (h : MuxLen' x) : MuxLen (toM x) := ⟨toConf_len h.conf, h.tables, fun i hi => by
  have hi' : i < x.Tables.n := hi
  show (if i < x.Tables.n then cp id 0 (x.Tables.f i) else d_row).n ≤ 1048576
  rw [if_pos hi']
  exact h.tabs i hi', h.cache⟩
theorem t_Flow (fu : Nat) (f : S_impl_Flow) : F_laws_toFlow fu f = some f := rfl
theorem t_Held (fu : Nat) (x : S_laws_Held) : F_laws_toHeld fu x = some (toH x) := rfl
theorem t_HeldS {fu : Nat} (hf : 2000000 ≤ fu) (x : Sl S_laws_Held) (hx : x.n ≤ 1048576) : F_laws_toHeldS fu x = some (cp toH d_Held x) := by
  unfold F_laws_toHeldS
  have h1 : (56 : Int) * (x.n : Int) ≤ 281474976710656 := by omega
  have h2 : (x.n : Int) ≤ 9223372036854775807 := by omega
  simp only [h1, h2, decide_true, Bool.and_true, Int.toNat_natCast, Int.natCast_nonneg, cond_true]
  refine toL x toH (by omega) (fun i o go hi => ?_)
  unfold F_laws_toHeldS_B0
  by_cases h : i < x.n
  · simp [h, wsucc (show i < 4611686018427387904 by omega), t_Held]
  · simp [h]
theorem t_Int64SS {fu : Nat} (hf : 2000000 ≤ fu) (x : Sl (Sl Int)) (hx : x.n ≤ 1048576) (hn : ∀ i, i < x.n → (x.f i).n ≤ 1048576) : F_laws_toInt64SS fu x = some (cp (cp id 0) d_row x) := by
  unfold F_laws_toInt64SS
  have h1 : (24 : Int) * (x.n : Int) ≤ 281474976710656 := by omega
  have h2 : (x.n : Int) ≤ 9223372036854775807 := by omega
  simp only [h1, h2, decide_true, Bool.and_true, Int.toNat_natCast, Int.natCast_nonneg, cond_true]
  refine toL x (cp id 0) (by omega) (fun i o go hi => ?_)
  unfold F_laws_toInt64SS_B0
  by_cases h : i < x.n
  · simp [h, wsucc (show i < 4611686018427387904 by omega), t_Int64S hf (x.f i) (hn i h)]
  · simp [h]
theorem t_Mux {fu : Nat} (hf : 2000000 ≤ fu) (x : S_laws_Mux) (hx : MuxLen' x) : F_laws_toMux fu x = some (toM x) := by
  unfold F_laws_toMux
  simp only [t_Watch hf x.Watch hx.conf, t_Int64SS hf x.Tables hx.tables hx.tabs, t_HeldS hf x.Cache hx.cache, Option.bind_some]
  rfl
theorem e_Flow (fu : Nat) (f : S_impl_Flow) : F_laws_eqFlow fu f f = some true := by unfold F_laws_eqFlow; simp
theorem e_Held (fu : Nat) (x : S_impl_Held) : F_laws_eqHeld fu x x = some true := by unfold F_laws_eqHeld; simp [e_Flow]
theorem e_HeldS {fu : Nat} (hf : 2000000 ≤ fu) (x : Sl S_impl_Held) (hx : x.n ≤ 1048576) : F_laws_eqHeldS fu x x = some true := by
  unfold F_laws_eqHeldS
  simp only [bne_self_eq_false, cond_false]
  refine eqL x.n (by omega) (fun i go hi => ?_) (fun go => ?_)
  · unfold F_laws_eqHeldS_B0
    simp [hi, wsucc (show i < 4611686018427387904 by omega), e_Held]
  · unfold F_laws_eqHeldS_B0; simp
theorem e_Int64SS {fu : Nat} (hf : 2000000 ≤ fu) (x : Sl (Sl Int)) (hx : x.n ≤ 1048576) (hn : ∀ i, i < x.n → (x.f i).n ≤ 1048576) : F_laws_eqInt64SS fu x x = some true := by
  unfold F_laws_eqInt64SS
  simp only [bne_self_eq_false, cond_false]
  refine eqL x.n (by omega) (fun i go hi => ?_) (fun go => ?_)
  · unfold F_laws_eqInt64SS_B0
    simp [hi, wsucc (show i < 4611686018427387904 by omega), e_Int64S hf (x.f i) (hn i hi)]
  · unfold F_laws_eqInt64SS_B0; simp
theorem e_Mux {fu : Nat} (hf : 2000000 ≤ fu) (x : S_impl_Mux) (hx : MuxLen x) : F_laws_eqMux fu x x = some true := by
  unfold F_laws_eqMux
  simp [e_Watch hf x.Watch hx.conf, e_Int64SS hf x.Tables hx.tables hx.tabs, e_HeldS hf x.Cache hx.cache]

theorem sz_HeldS (fu : Nat) (x : Sl S_laws_Held) (left : Int) : F_laws_szHeldS fu x left = some (szf left x.n) := by
  unfold F_laws_szHeldS szf
  by_cases h : IntKind.wrap .i64 (left - (x.n : Int)) < 0 <;> simp [h]
theorem sz_Int64SS {fu : Nat} (hf : 2000000 ≤ fu) (x : Sl (Sl Int)) (hw : W_sl_sl_i64 x) {left : Int} (h0 : 0 ≤ left) (h1 : left ≤ 1048576) : ∃ y, F_laws_szInt64SS fu x left = some y ∧ Szd left y (x.n ≤ 1048576 ∧ ∀ i, i < x.n → (x.f i).n ≤ 1048576) := by
  unfold F_laws_szInt64SS
  have e : ∀ (k : Option Int), (bif (decide ((IntKind.wrap .i64 (left - ((x.n : Nat) : Int))) < 0)) then (some (-1)) else k) = (bif decide (szf left x.n < 0) then some (-1) else k) := by
    intro k
    unfold szf
    by_cases h : IntKind.wrap .i64 (left - (x.n : Int)) < 0 <;> simp [h]
  rw [e]
  rcases (sz_one h0 h1 hw.1).neg with a | ⟨a1, a2, a3⟩
  · exact ⟨-1, by simp [a], ⟨.inl (by omega)⟩⟩
  · have e2 : IntKind.wrap .i64 (left - ((x.n : Nat) : Int)) = szf left x.n := by
      unfold szf at a1 ⊢
      by_cases h : IntKind.wrap .i64 (left - (x.n : Int)) < 0
      · simp [h] at a1
      · simp [h]
    rw [e2]
    simp only [show ¬ szf left x.n < 0 by omega, decide_false, cond_false]
    rcases sz_loop (ρ := Int) x.n (fun w0 go0 => F_laws_szInt64SS_B0 fu x (fun z333 => (some (-1))) (fun z334 => (some z334)) w0.1 w0.2 (fun q0 q1 => go0 (q0, q1))) (fun i => (x.f i).n ≤ 1048576) (fun _ => some (-1)) (fun l => some l)
      (fun i l go hi hl hl' => by
        refine ⟨szf l (x.f i).n, sz_one hl hl' (hw.2 i hi).1, ?_⟩
        unfold F_laws_szInt64SS_B0
        simp only [Int.toNat_natCast, Int.natCast_nonneg, Int.ofNat_lt, hi, decide_true, Bool.and_self, cond_true, Option.bind_some, sz_Int64S, wsucc (show i < 4611686018427387904 by omega)])
      (fun l go => by unfold F_laws_szInt64SS_B0; simp) x.n 0 (szf left x.n) fu (by omega) (by omega) a1 (by omega) with ⟨y, hy, he⟩ | ⟨y, hy, hyl, hall, he⟩
    · exact ⟨-1, he, ⟨.inl (by omega)⟩⟩
    · exact ⟨y, he, ⟨.inr ⟨hy, by omega, a3, fun i hi => hall i (by omega) (by omega)⟩⟩⟩
theorem sz_Mux {fu : Nat} (hf : 2000000 ≤ fu) (x : S_laws_Mux) (hw : W_laws_Mux x) : ∃ y, F_laws_szMux fu x 1048576 = some y ∧ Szd 1048576 y (MuxLen' x) := by
  obtain ⟨_, _, w1, w2, w3⟩ := hw
  unfold F_laws_szMux F_laws_szWatch
  obtain ⟨y, hy, hs⟩ := sz_Config hf x.Watch.Config w1.2 (left := 1048576) (by omega) (by omega)
  rw [hy]
  simp only [Option.bind_some]
  rcases hs.neg with b | ⟨b1, b2, b3⟩
  · exact ⟨-1, by simp [b], ⟨.inl (by omega)⟩⟩
  · simp only [show ¬ y < 0 by omega, decide_false, cond_false, Option.bind_some]
    obtain ⟨z, hz, ht⟩ := sz_Int64SS hf x.Tables w2 (left := y) b1 (by omega)
    rw [hz]
    simp only [Option.bind_some]
    rcases ht.neg with d | ⟨d1, d2, d3, d4⟩
    · exact ⟨-1, by simp [d], ⟨.inl (by omega)⟩⟩
    · simp only [show ¬ z < 0 by omega, decide_false, cond_false, sz_HeldS, Option.bind_some]
      rcases (sz_one d1 (by omega) w3.1).neg with a | ⟨a1, a2, a3⟩
      · exact ⟨-1, by simp [a], ⟨.inl (by omega)⟩⟩
      · exact ⟨szf z x.Cache.n, by simp only [show ¬ szf z x.Cache.n < 0 by omega, decide_false, cond_false], ⟨.inr ⟨a1, by omega, ⟨b3, d3, d4, a3⟩⟩⟩⟩

end Go.Proofs.YtcmfekgdlaffkaaGreatDoor.Px
