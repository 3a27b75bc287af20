/- Plain law of ServeFrom. Conditions: none. -/
import Derived.Test.YtknnfcbagbafaaaPcPlMk
import Derived.Test.YtknnfcbagbafaaaPcPlCmd
namespace Go.Proofs.Ytknnfcbagbafaaa.Pc
open Go Go.RowKit Go.Proofs Vm
set_option linter.unusedVariables false
set_option linter.unusedSimpArgs false
set_option maxRecDepth 100000

def d_Config : S_impl_Config := ⟨0, ⟨some true, 0, fun _ => dflt .impl_Backend⟩, ⟨some true, 0, fun _ => dflt .impl_Vip⟩⟩
theorem tu_ConfigS {fu : Nat} (hf : 2000000 ≤ fu) (x : Sl S_laws_Config) (hx : x.n ≤ 1048576) (he : ∀ i, i < x.n → ConfLen' (x.f i)) : F_laws_toConfigS_U fu x = some (x.n, x.n, (cp toConf d_Config x).f) := by
  unfold F_laws_toConfigS_U
  have h1 : (56 : Int) * (x.n : Int) ≤ 281474976710656 := by omega
  have h2 : (x.n : Int) ≤ 9223372036854775807 := by omega
  simp only [h1, h2, decide_true, Bool.and_true, Int.toNat_natCast, Int.natCast_nonneg, cond_true]
  refine stepL x.n (fun i => ((i : Int), i, fun j => if j < i then toConf (x.f j) else d_Config)) (by omega) rfl (fun i go hi => ?_) (fun go => ?_)
  · unfold F_laws_toConfigS_U_B0
    simp only [Int.toNat_natCast, Int.natCast_nonneg, Int.ofNat_lt, hi, Nat.le_refl, decide_true, Bool.and_self, cond_true, Option.bind_some, wsucc (show i < 4611686018427387904 by omega), tu_Config hf (x.f i) (he i hi)]
    rw [← cp_succ]
    rfl
  · unfold F_laws_toConfigS_U_B0
    simp only [Int.lt_irrefl, Nat.le_refl, decide_true, decide_false, cond_false, cond_true]
    rfl
theorem tH_CmdS {fu : Nat} (hf : 2000000 ≤ fu) (x : Sl S_impl_Cmd) (hx : x.n ≤ 1048576) : F_laws_toCmdS_H fu x = some (cp id ⟨0, 0, 0, 0, 0, 0⟩ x) := by
  unfold F_laws_toCmdS_H
  have h1 : (48 : Int) * (x.n : Int) ≤ 281474976710656 := by omega
  have h2 : (x.n : Int) ≤ 9223372036854775807 := by omega
  simp only [h1, h2, decide_true, Bool.and_true, Int.toNat_natCast, Int.natCast_nonneg, cond_true]
  exact to_loop x.n x.f id ⟨0, 0, 0, 0, 0, 0⟩ (fun w0 go0 => F_laws_toCmdS_H_B0 fu x x.n x.n (fun z => some (⟨none, x.n, z⟩ : Sl S_impl_Cmd)) w0.1 w0.2 (fun q0 q1 => go0 (q0, q1))) (fun z => some (⟨none, x.n, z⟩ : Sl S_impl_Cmd)) (fun i o go hi => by
    unfold F_laws_toCmdS_H_B0 F_laws_toCmd
    by_cases h : i < x.n
    · simp [h, wsucc (show i < 4611686018427387904 by omega)]
    · simp [h]) fu (by omega)
theorem e_ConfigS {fu : Nat} (hf : 2000000 ≤ fu) (x : Sl S_impl_Config) (hx : x.n ≤ 1048576) (hn : ∀ i, i < x.n → ConfLen (x.f i)) : F_laws_eqConfigS fu x x = some true := by
  unfold F_laws_eqConfigS
  simp only [bne_self_eq_false, cond_false]
  refine eqL x.n (by omega) (fun i go hi => ?_) (fun go => ?_)
  · unfold F_laws_eqConfigS_B0
    simp [hi, wsucc (show i < 4611686018427387904 by omega), e_Config hf (x.f i) (hn i hi)]
  · unfold F_laws_eqConfigS_B0; simp
theorem sz_ConfigS {fu : Nat} (hf : 2000000 ≤ fu) (x : Sl S_laws_Config) (hw : W_sl_laws_Config x) {left : Int} (h0 : 0 ≤ left) (h1 : left ≤ 1048576) : ∃ y, F_laws_szConfigS fu x left = some y ∧ Szd left y (x.n ≤ 1048576 ∧ ∀ i, i < x.n → ConfLen' (x.f i)) := by
  unfold F_laws_szConfigS
  have e : ∀ (k : Option Int), (bif (decide ((IntKind.wrap .i64 (left - ((x.n : Nat) : Int))) < 0)) then (some (-1)) else k) = (bif decide (szf left x.n < 0) then some (-1) else k) := by
    intro k
    unfold szf
    by_cases h : IntKind.wrap .i64 (left - (x.n : Int)) < 0 <;> simp [h]
  rw [e]
  rcases (sz_one h0 h1 hw.1).neg with a | ⟨a1, a2, a3⟩
  · exact ⟨-1, by simp [a], ⟨.inl (by omega)⟩⟩
  · have e2 : IntKind.wrap .i64 (left - ((x.n : Nat) : Int)) = szf left x.n := by
      unfold szf at a1 ⊢
      by_cases h : IntKind.wrap .i64 (left - (x.n : Int)) < 0
      · simp [h] at a1
      · simp [h]
    rw [e2]
    simp only [show ¬ szf left x.n < 0 by omega, decide_false, cond_false]
    rcases sz_loop (ρ := Int) x.n (fun w0 go0 => F_laws_szConfigS_B0 fu x (fun z333 => (some (-1))) (fun z334 => (some z334)) w0.1 w0.2 (fun q0 q1 => go0 (q0, q1))) (fun i => ConfLen' (x.f i)) (fun _ => some (-1)) (fun l => some l)
      (fun i l go hi hl hl' => by
        obtain ⟨y, hy, hs⟩ := sz_Config hf (x.f i) (hw.2 i hi) hl hl'
        refine ⟨y, hs, ?_⟩
        unfold F_laws_szConfigS_B0
        simp only [Int.toNat_natCast, Int.natCast_nonneg, Int.ofNat_lt, hi, decide_true, Bool.and_self, cond_true, Option.bind_some, hy, wsucc (show i < 4611686018427387904 by omega)])
      (fun l go => by unfold F_laws_szConfigS_B0; simp) x.n 0 (szf left x.n) fu (by omega) (by omega) a1 (by omega) with ⟨y, hy, he⟩ | ⟨y, hy, hyl, hall, he⟩
    · exact ⟨-1, he, ⟨.inl (by omega)⟩⟩
    · exact ⟨y, he, ⟨.inr ⟨hy, by omega, a3, fun i hi => hall i (by omega) (by omega)⟩⟩⟩

theorem gV_vips {n : Nat} {f : Nat → S_impl_Vip} {k : Int} (h : Vips n f) : Vips n (gV f k n) := fun m hm => by
  simp only [gV, hm, if_true, mkV]
  exact h m hm
def Confs (n : Nat) (f : Nat → S_impl_Config) : Prop := ∀ m, m < n → ConfLen (f m)
theorem mu_ConfigS {fu : Nat} (hf : 2000000 ≤ fu) (n : Nat) (f : Nat → S_impl_Config) (hn : n ≤ 1048576) (hI : Confs n f) : ∃ y, F_laws_markConfigS_U fu n 1 n n f = some y ∧ (0 ≤ y.1 ∧ y.1 ≤ 1 + 1100000000000 * n) := by
  unfold F_laws_markConfigS_U
  let J : Nat → Int × Int × (Nat → S_impl_Config) → Prop := fun i v => v.2.1 = (i : Int) ∧ (0 ≤ v.1 ∧ v.1 ≤ 1 + 1100000000000 * i) ∧ Confs n v.2.2
  exact totL (B := fun w0 go0 => F_laws_markConfigS_U_B0 fu n n n (fun z387 z388 => (some (z387, n, n, z388))) w0.1 w0.2.1 w0.2.2 (fun q0 q1 q2 => go0 (q0, q1, q2))) (fu := fu) (v := ((1, 0, f) : Int × Int × (Nat → S_impl_Config))) (Q := fun y => 0 ≤ y.1 ∧ y.1 ≤ 1 + 1100000000000 * n) n J (by omega) ⟨rfl, by show (0 : Int) ≤ 1 ∧ (1 : Int) ≤ _; omega, hI⟩ (fun i v go hi hv => by
    obtain ⟨k', j, f⟩ := v
    obtain ⟨hv, hk, hm⟩ := hv
    replace hv : j = (_ : Int) := hv
    replace hk : 0 ≤ k' ∧ k' ≤ 1 + 1100000000000 * (i : Int) := hk
    subst hv
    have hl := hm i hi
    replace hl : ConfLen (f i) := hl
    have l1 := hl.backends
    have l2 := hl.vips
    obtain ⟨b0, b1⟩ := kV_bound (k := k' + 1 + 5 * ((f i).Backends.n : Int)) (n := (f i).Vips.n) (f := (f i).Vips.f) hl.names (f i).Vips.n (Nat.le_refl _)
    unfold F_laws_markConfigS_U_B0
    simp only [Int.toNat_natCast, Int.natCast_nonneg, Int.ofNat_lt, hi, decide_true, Bool.and_self, Bool.and_true, cond_true, Option.bind_some, wsucc (show i < 4611686018427387904 by omega),
      upd_impl_Config_0_1, upd_impl_Config_1_1, upd_impl_Config_2_1, if_true]
    simp (disch := omega) only [Vm.wrap64]
    simp only [x_BackendS hf (f i).Backends.n (k' + 1) (f i).Backends.n (f i).Backends.f l1 (by omega) (by omega), Option.bind_some, x_VipS hf (f i).Vips.n (k' + 1 + 5 * ((f i).Backends.n : Int)) (f i).Vips.f l2 (by omega) (by omega) hl.names, Nat.le_refl, decide_true, cond_true]
    refine ⟨_, ?_, rfl⟩
    refine ⟨rfl, ?_, fun m hm' => ?_⟩
    · dsimp only
      omega
    · simp only [upd_impl_Config_0_1, upd_impl_Config_1_1, upd_impl_Config_2_1]
      by_cases e : m = i
      · subst e; simp only [if_true]; exact ⟨l1, l2, gV_vips hl.names⟩
      · simp only [e, if_false]; exact hm m hm') (fun v go hv => by
    obtain ⟨k', j, f⟩ := v
    obtain ⟨hv, hk, hm⟩ := hv
    replace hv : j = (_ : Int) := hv
    subst hv
    unfold F_laws_markConfigS_U_B0
    simp only [Int.lt_irrefl, decide_false, cond_false]
    exact ⟨_, rfl, hk⟩)
theorem ml_CmdS {fu : Nat} (hf : 2000000 ≤ fu) (n : Nat) (k : Int) (rn : Nat) (f : Nat → S_impl_Cmd) (hn : n ≤ 1048576) (h0 : 0 ≤ k) (h1 : k ≤ 9000000000000000000) : ∃ y, F_laws_markCmdS_L fu n k rn f = some y ∧ y.1 = k + 6 * n := by
  unfold F_laws_markCmdS_L
  exact totL (B := fun w0 go0 => F_laws_markCmdS_L_B0 fu n rn (fun z375 z376 => (some (z375, rn, z376))) w0.1 w0.2.1 w0.2.2 (fun q0 q1 q2 => go0 (q0, q1, q2))) (fu := fu) (v := ((k, 0, f) : Int × Int × (Nat → S_impl_Cmd))) (Q := fun y => y.1 = k + 6 * n) n (fun i v => v.2.1 = (i : Int) ∧ v.1 = k + 6 * i) (by omega) ⟨rfl, by show k = _; omega⟩ (fun i v go hi hv => by
    obtain ⟨k', j, f⟩ := v
    obtain ⟨hv, hk⟩ := hv
    replace hv : j = (_ : Int) := hv
    replace hk : k' = (_ : Int) := hk
    subst hv
    subst hk
    unfold F_laws_markCmdS_L_B0
    simp only [Int.toNat_natCast, Int.natCast_nonneg, Int.ofNat_lt, hi, decide_true, Bool.and_self, cond_true, Option.bind_some, wsucc (show i < 4611686018427387904 by omega)]
    refine ⟨_, ?_, rfl⟩
    refine ⟨rfl, ?_⟩
    dsimp only
    simp (disch := omega) only [Vm.wrap64]
    omega) (fun v go hv => by
    obtain ⟨k', j, f⟩ := v
    obtain ⟨hv, hk⟩ := hv
    replace hv : j = (_ : Int) := hv
    subst hv
    unfold F_laws_markCmdS_L_B0
    simp only [Int.lt_irrefl, decide_false, cond_false]
    exact ⟨_, rfl, hk⟩)

/-! ### What is served -/
def cfgAt (all : Sl S_impl_Config) (i : Nat) : Option Int := bif conff (all.f i) != 0 then some (conff (all.f i)) else bif ((all.f i).Version != IntKind.wrap .i64 ((all.f 0).Version + (i : Int))) then some 1 else none
def cmAt (x : Sl S_impl_Cmd) (i : Nat) : Option Int := bif cmdf (x.f i) != 0 then some (cmdf (x.f i)) else none
def cmsf (x : Sl S_impl_Cmd) : Int := (scan (cmAt x) x.n 0).getD 0
def sizeBad (a c : Nat) : Bool := decide ((a : Int) < 1) || (decide ((a : Int) > 60) || ((c : Int) != IntKind.wrap .i64 ((a : Int) - 1)))
def served (all : Sl S_impl_Config) (cmds : Sl S_impl_Cmd) : Int := bif sizeBad all.n cmds.n then 2 else (scan (cfgAt all) all.n 0).getD (cmsf cmds)
theorem sizeBad_no {a c : Nat} (h : sizeBad a c = false) : 1 ≤ a ∧ a ≤ 60 ∧ c = a - 1 := by
  unfold sizeBad at h
  simp only [Bool.or_eq_false_iff, decide_eq_false_iff_not, bne_eq_false_iff_eq] at h
  obtain ⟨h1, h2, h3⟩ := h
  rw [Vm.wrap64 (by omega) (by omega)] at h3
  omega
theorem s_Served {fu : Nat} (hf : 2000000 ≤ fu) (all : Sl S_impl_Config) (hl : ∀ i, i < all.n → ConfLen (all.f i)) (cmds : Sl S_impl_Cmd) : F_spec_l13Served fu all cmds = some (served all cmds) := by
  unfold F_spec_l13Served served
  cases hb : sizeBad all.n cmds.n with
  | true =>
    unfold sizeBad at hb
    cases h1 : decide ((all.n : Int) < 1) with
    | true => simp
    | false =>
      rw [h1] at hb
      cases h2 : decide ((all.n : Int) > 60) with
      | true => simp
      | false =>
        rw [h2] at hb
        simp only [Bool.false_or] at hb
        simp only [hb, cond_false, cond_true, Option.bind_some]
  | false =>
    obtain ⟨n1, n2, n3⟩ := sizeBad_no hb
    unfold sizeBad at hb
    simp only [Bool.or_eq_false_iff] at hb
    obtain ⟨h1, h2, h3⟩ := hb
    simp only [h1, h2, h3, cond_false, Option.bind_some]
    have hk : L (fun w2 go2 => F_spec_l13Served_B2 fu cmds (fun z42 => (some z42)) (some (0 : Int)) w2 go2) fu (0 : Int) = some (cmsf cmds) := by
      refine scanL cmds.n (cmAt cmds) some (some 0) (by omega) (fun i go hi => ?_) (fun go => ?_) ?_
      · unfold F_spec_l13Served_B2 cmAt
        simp only [Int.toNat_natCast, Int.natCast_nonneg, Int.ofNat_lt, hi, decide_true, Bool.and_self, cond_true, Option.bind_some, wsucc (show i < 4611686018427387904 by omega), s_CmdFault]
        cases (cmdf (cmds.f i) != 0) <;> rfl
      · unfold F_spec_l13Served_B2; simp only [Int.lt_irrefl, decide_false, cond_false]
      · unfold cmsf; cases scan (cmAt cmds) cmds.n 0 <;> rfl
    rw [hk]
    refine scanL all.n (cfgAt all) some (some (cmsf cmds)) (by omega) (fun i go hi => ?_) (fun go => ?_) ?_
    · have h0 : 0 < all.n := by omega
      unfold F_spec_l13Served_B0 cfgAt
      simp only [Int.toNat_natCast, Int.natCast_nonneg, Int.ofNat_lt, hi, h0, Int.toNat_zero, Int.le_refl, decide_true, Bool.and_self, cond_true, Option.bind_some, wsucc (show i < 4611686018427387904 by omega), s_ConfFault hf _ (hl i hi)]
      cases (conff (all.f i) != 0) with
      | true => rfl
      | false => simp only [cond_false]; cases ((all.f i).Version != IntKind.wrap .i64 ((all.f 0).Version + (i : Int))) <;> rfl
    · unfold F_spec_l13Served_B0; simp only [Int.lt_irrefl, decide_false, cond_false]
    · cases scan (cfgAt all) all.n 0 <;> rfl
theorem i_cmds {fu : Nat} (hf : 2000000 ≤ fu) (cmds : Sl S_impl_Cmd) (hc : cmds.n ≤ 1048576) : F_impl_cmdsFault fu cmds = some (cmsf cmds) := by
  unfold F_impl_cmdsFault
  refine scanL cmds.n (cmAt cmds) some (some 0) (by omega) (fun i go hi => ?_) (fun go => ?_) ?_
  · unfold F_impl_cmdsFault_B0 cmAt
    simp only [Int.toNat_natCast, Int.natCast_nonneg, Int.ofNat_lt, hi, decide_true, Bool.and_self, cond_true, Option.bind_some, wsucc (show i < 4611686018427387904 by omega), i_CmdFault]
    cases (cmdf (cmds.f i) != 0) <;> rfl
  · unfold F_impl_cmdsFault_B0; simp only [Int.lt_irrefl, decide_false, cond_false]
  · unfold cmsf; cases scan (cmAt cmds) cmds.n 0 <;> rfl
theorem cmAt_ne {x : Sl S_impl_Cmd} {i : Nat} {v : Int} (h : cmAt x i = some v) : (v != 0) = true := by
  unfold cmAt at h
  cases hq : (cmdf (x.f i) != 0) with
  | true => rw [hq] at h; simp only [cond_true, Option.some.injEq] at h; subst h; exact hq
  | false => rw [hq] at h; cases h
theorem cfgAt_ne {x : Sl S_impl_Config} {i : Nat} {v : Int} (h : cfgAt x i = some v) : (v != 0) = true := by
  unfold cfgAt at h
  cases hq : (conff (x.f i) != 0) with
  | true => rw [hq] at h; simp only [cond_true, Option.some.injEq] at h; subst h; exact hq
  | false =>
    rw [hq] at h
    simp only [cond_false] at h
    cases hr : ((x.f i).Version != IntKind.wrap .i64 ((x.f 0).Version + (i : Int))) with
    | true => rw [hr] at h; simp only [cond_true, Option.some.injEq] at h; subst h; rfl
    | false => rw [hr] at h; cases h
structure ServeOk (all : Sl S_impl_Config) (cmds : Sl S_impl_Cmd) : Prop where
  lo : 1 ≤ all.n
  hi : all.n ≤ 60
  cm : cmds.n = all.n - 1
  v0 : 0 ≤ (all.f 0).Version ∧ (all.f 0).Version ≤ 1000000
  vl : (all.f (all.n - 1)).Version = (all.f 0).Version + ((all.n - 1 : Nat) : Int)
theorem conff_ver {c : S_impl_Config} (h : (conff c != 0) = false) : 0 ≤ c.Version ∧ c.Version ≤ 1000000 := by
  unfold conff at h
  cases hr : rng c.Version 0 1000000 with
  | false => rw [hr] at h; cases h
  | true =>
    unfold rng at hr
    simpa only [Bool.and_eq_true, decide_eq_true_eq] using hr
theorem served_ok {all : Sl S_impl_Config} {cmds : Sl S_impl_Cmd} (hb : sizeBad all.n cmds.n = false) (hs : scan (cfgAt all) all.n 0 = none) : ServeOk all cmds := by
  obtain ⟨n1, n2, n3⟩ := sizeBad_no hb
  have h : ∀ i, i < all.n → (conff (all.f i) != 0) = false ∧ (all.f i).Version = IntKind.wrap .i64 ((all.f 0).Version + (i : Int)) := by
    intro i hi
    have := scan_none.1 hs i (by omega) (by omega)
    unfold cfgAt at this
    cases hq : (conff (all.f i) != 0) with
    | true => rw [hq] at this; cases this
    | false =>
      rw [hq] at this
      simp only [cond_false] at this
      cases hr : ((all.f i).Version != IntKind.wrap .i64 ((all.f 0).Version + (i : Int))) with
      | true => rw [hr] at this; cases this
      | false => exact ⟨rfl, by simpa only [bne_eq_false_iff_eq] using hr⟩
  have v0 := conff_ver (h 0 (by omega)).1
  refine ⟨n1, n2, n3, v0, ?_⟩
  have := (h (all.n - 1) (by omega)).2
  rwa [Vm.wrap64 (by omega) (by omega)] at this

def part (all : Sl S_impl_Config) (from' : Int) : Bool := decide ((all.f 0).Version ≤ from') && (decide ((all.f (all.n - 1)).Version - 4 ≤ from') && decide (from' ≤ (all.f (all.n - 1)).Version - 1))
def partT (all : Sl S_impl_Config) (cmds : Sl S_impl_Cmd) (from' : Int) : FullT := (0, from', (all.f (all.n - 1)).Version, false, 0, 0, 0, cmds.n - (from' - (all.f 0).Version).toNat, 0, (fun _ => dflt .impl_Backend), 0, (fun _ => dflt .impl_Vip), cmds.n - (from' - (all.f 0).Version).toNat, fun i => cmds.f ((from' - (all.f 0).Version).toNat + i))
def servT (all : Sl S_impl_Config) (cmds : Sl S_impl_Cmd) (from' : Int) (g : (Nat → S_impl_Vip) → Nat → Nat → S_impl_Vip) : FullT :=
  bif served all cmds != 0 then failT (served all cmds) else bif decide (from' < 0) then failT 3 else bif part all from' then partT all cmds from' else fullT (all.f (all.n - 1)) (g (all.f (all.n - 1)).Vips.f (all.f (all.n - 1)).Vips.n)
theorem last_at {n : Nat} (h : 1 ≤ n) (h2 : n ≤ 60) : IntKind.wrap .i64 ((n : Int) - 1) = ((n - 1 : Nat) : Int) := by
  rw [Vm.wrap64 (by omega) (by omega)]; omega
theorem s_ServeFrom {fu : Nat} (hf : 2000000 ≤ fu) (all : Sl S_impl_Config) (hl : ∀ i, i < all.n → ConfLen (all.f i)) (cmds : Sl S_impl_Cmd) (from' : Int) (hw : from' ≤ 9223372036854775807) : F_spec_ServeFrom_U fu all cmds from' = some (servT all cmds from' copyS) := by
  unfold F_spec_ServeFrom_U servT
  simp only [s_Served hf all hl cmds, Option.bind_some, decide_true, Bool.and_self, cond_true]
  cases hs : (served all cmds != 0) with
  | true => rfl
  | false =>
    cases h0 : decide (from' < 0) with
    | true => rfl
    | false =>
      have h0 := of_decide_eq_false h0
      have ok : ServeOk all cmds := by
        unfold served at hs
        cases hb : sizeBad all.n cmds.n with
        | true => rw [hb] at hs; cases hs
        | false =>
          rw [hb] at hs
          cases hq : scan (cfgAt all) all.n 0 with
          | none => exact served_ok hb hq
          | some v =>
            rw [hq] at hs
            obtain ⟨j, _, _, e⟩ := scan_some hq
            have := cfgAt_ne e
            simp only [cond_false, Option.getD_some] at hs
            rw [this] at hs; cases hs
      obtain ⟨n1, n2, n3, ⟨v0, v1⟩, vl⟩ := ok
      have hlast : all.n - 1 < all.n := by omega
      have hz : 0 < all.n := by omega
      simp only [cond_false, last_at n1 n2, Int.toNat_natCast, Int.natCast_nonneg, Int.toNat_zero, Int.le_refl, hlast, hz, decide_true, Bool.and_self, cond_true, Option.bind_some]
      have w1 : IntKind.wrap .i64 ((all.f (all.n - 1)).Version - 4) = (all.f (all.n - 1)).Version - 4 := Vm.wrap64 (by omega) (by omega)
      have w2 : IntKind.wrap .i64 ((all.f (all.n - 1)).Version - 1) = (all.f (all.n - 1)).Version - 1 := Vm.wrap64 (by omega) (by omega)
      have w3 : IntKind.wrap .i64 (from' - (all.f 0).Version) = from' - (all.f 0).Version := Vm.wrap64 (by omega) (by omega)
      have hm : ∃ m, F_spec_l1Max fu (all.f 0).Version ((all.f (all.n - 1)).Version - 4) = some m ∧ rng from' m ((all.f (all.n - 1)).Version - 1) = part all from' := by
        unfold F_spec_l1Max
        by_cases h : (all.f 0).Version > (all.f (all.n - 1)).Version - 4
        · refine ⟨_, by simp only [h, decide_true, cond_true]; rfl, ?_⟩
          unfold rng part
          rw [Bool.eq_iff_iff]
          simp only [Bool.and_eq_true, decide_eq_true_eq]
          omega
        · refine ⟨_, by simp only [h, decide_false, cond_false]; rfl, ?_⟩
          unfold rng part
          rw [Bool.eq_iff_iff]
          simp only [Bool.and_eq_true, decide_eq_true_eq]
          omega
      obtain ⟨m, e1, e2⟩ := hm
      simp only [w1, w2, w3, e1, Option.bind_some, p_l1In, e2]
      cases hp : part all from' with
      | true =>
        unfold part at hp
        simp only [Bool.and_eq_true, decide_eq_true_eq] at hp
        have g1 : 0 ≤ from' - (all.f 0).Version := by omega
        have g2 : from' - (all.f 0).Version ≤ (cmds.n : Int) := by omega
        have g3 : cmds.n - (from' - (all.f 0).Version).toNat ≤ 9223372036854775807 := by omega
        have g4 : (cmds.n - (from' - (all.f 0).Version).toNat) * 48 ≤ 140737488355328 := by omega
        simp only [g1, g2, g3, g4, Nat.le_refl, decide_true, Bool.and_self, cond_true, Option.bind_some]
        rfl
      | false =>
        simp only [cond_false, s_Copy hf _ (hl _ hlast), Option.bind_some, Nat.le_refl, decide_true, Bool.and_self, cond_true]
        rfl
theorem i_ServeFrom {fu : Nat} (hf : 2000000 ≤ fu) (all : Sl S_impl_Config) (hl : ∀ i, i < all.n → ConfLen (all.f i)) (cmds : Sl S_impl_Cmd) (from' : Int) (hw : from' ≤ 9223372036854775807) : F_impl_ServeFrom_U fu all cmds from' = some (servT all cmds from' copyI) := by
  unfold F_impl_ServeFrom_U servT F_impl_size_impl_Config
  simp only [p_in, Option.bind_some, decide_true, Bool.and_self, cond_true]
  cases hb : sizeBad all.n cmds.n with
  | true =>
    have : served all cmds = 2 := by unfold served; rw [hb]; rfl
    rw [this]
    unfold sizeBad at hb
    cases h1 : rng (all.n : Int) 1 60 with
    | false => simp only [Bool.not_false, cond_true, Option.bind_some]; rfl
    | true =>
      have h1' := h1
      unfold rng at h1'
      simp only [Bool.and_eq_true, decide_eq_true_eq] at h1'
      rw [show decide ((all.n : Int) < 1) = false from decide_eq_false (by omega), show decide ((all.n : Int) > 60) = false from decide_eq_false (by omega)] at hb
      simp only [Bool.false_or] at hb
      simp only [hb, Bool.not_true, cond_false, cond_true, Option.bind_some]; rfl
  | false =>
    obtain ⟨n1, n2, n3⟩ := sizeBad_no hb
    have hr : rng (all.n : Int) 1 60 = true := by
      unfold rng
      simp only [Bool.and_eq_true, decide_eq_true_eq]
      omega
    have hc : (((cmds.n : Nat) : Int) != (IntKind.wrap .i64 (((all.n : Nat) : Int) - 1))) = false := by
      unfold sizeBad at hb
      simp only [Bool.or_eq_false_iff] at hb
      exact hb.2.2
    simp only [hr, hc, Bool.not_true, cond_false, Option.bind_some, i_cmds hf cmds (by omega)]
    have hsv : served all cmds = (scan (cfgAt all) all.n 0).getD (cmsf cmds) := by unfold served; rw [hb]; rfl
    refine scanL all.n (cfgAt all) (fun e => some (failT e)) ?k1 (by omega) (fun i go hi => ?h1) (fun go => ?h2) ?hr
    case h2 => unfold F_impl_ServeFrom_U_B0; simp only [Int.lt_irrefl, decide_false, cond_false]; rfl
    case hr =>
      cases hq : scan (cfgAt all) all.n 0 with
      | some v =>
        obtain ⟨j, _, _, e⟩ := scan_some hq
        rw [hsv, hq]
        have := cfgAt_ne e
        simp only [Option.elim, Option.getD_some, this, cond_true]
      | none =>
        obtain ⟨_, _, _, ⟨v0, v1⟩, vl⟩ := served_ok hb hq
        rw [hsv, hq]
        simp only [Option.elim, Option.getD_none]
        cases hcm : (cmsf cmds != 0) with
        | true =>
          have hcm' : (cmsf cmds == 0) = false := by simpa using hcm
          simp only [hcm', cond_false, cond_true, Option.bind_some]
          rfl
        | false =>
          have hcm' : (cmsf cmds == 0) = true := by simpa using hcm
          simp only [hcm', cond_true, Option.bind_some]
          cases h0 : decide (from' < 0) with
          | true => rfl
          | false =>
            have h0 := of_decide_eq_false h0
            have hlast : all.n - 1 < all.n := by omega
            have hz : 0 < all.n := by omega
            simp only [cond_false, last_at n1 n2, Int.toNat_natCast, Int.natCast_nonneg, Int.toNat_zero, Int.le_refl, hlast, hz, decide_true, Bool.and_self, cond_true, Option.bind_some]
            have w3 : IntKind.wrap .i64 (from' - (all.f 0).Version) = from' - (all.f 0).Version := Vm.wrap64 (by omega) (by omega)
            have w4 : IntKind.wrap .i64 ((all.f (all.n - 1)).Version - from') = (all.f (all.n - 1)).Version - from' := Vm.wrap64 (by omega) (by omega)
            have w5 : IntKind.wrap .i64 ((all.n : Int) - 2) = (all.n : Int) - 2 := Vm.wrap64 (by omega) (by omega)
            have hm : (bif rng (from' - (all.f 0).Version) 0 ((all.n : Int) - 2) then some (decide ((all.f (all.n - 1)).Version - from' < 5)) else some false) = some (part all from') := by
              have : part all from' = (rng (from' - (all.f 0).Version) 0 ((all.n : Int) - 2) && decide ((all.f (all.n - 1)).Version - from' < 5)) := by
                unfold rng part
                rw [Bool.eq_iff_iff]
                simp only [Bool.and_eq_true, decide_eq_true_eq]
                omega
              rw [this]
              cases rng (from' - (all.f 0).Version) 0 ((all.n : Int) - 2) <;> rfl
            simp only [w3, w4, w5, hm, Option.bind_some]
            cases hp : part all from' with
            | true =>
              unfold part at hp
              simp only [Bool.and_eq_true, decide_eq_true_eq] at hp
              have g1 : 0 ≤ from' - (all.f 0).Version := by omega
              have g2 : from' - (all.f 0).Version ≤ (cmds.n : Int) := by omega
              have g3 : cmds.n - (from' - (all.f 0).Version).toNat ≤ 9223372036854775807 := by omega
              have g4 : (cmds.n - (from' - (all.f 0).Version).toNat) * 48 ≤ 140737488355328 := by omega
              unfold F_slices_Clone_impl_Cmd_impl_Cmd_H
              simp only [g1, g2, g3, g4, Nat.le_refl, decide_true, Bool.and_self, cond_true, Option.bind_some]
              rfl
            | false =>
              unfold F_impl_full_U
              simp only [cond_false, i_Copy hf _ (hl _ hlast), Option.bind_some, Nat.le_refl, decide_true, Bool.and_self, cond_true]
              rfl
    case h1 =>
      have h0 : 0 < all.n := by omega
      unfold F_impl_ServeFrom_U_B0 cfgAt
      simp only [Int.toNat_natCast, Int.natCast_nonneg, Int.ofNat_lt, hi, h0, Int.toNat_zero, Int.le_refl, decide_true, Bool.and_self, cond_true, Option.bind_some, wsucc (show i < 4611686018427387904 by omega), i_ConfigFault hf _ (hl i hi)]
      cases (conff (all.f i) != 0) with
      | true => rfl
      | false => simp only [cond_false]; cases ((all.f i).Version != IntKind.wrap .i64 ((all.f 0).Version + (i : Int))) <;> rfl

theorem plain_FnExactServeFrom (x : Sl S_laws_Config) (v : Sl S_impl_Cmd) (p : Int) (w : W_sl_laws_Config x) (w' : W_sl_impl_Cmd v) (w2 : W_i64 p) : F_laws_FnExactServeFrom plainFuel x v p = some true := by
  have hp : p ≤ 9223372036854775807 := by
    unfold W_i64 Lit.wf at w2
    simp only [Bool.and_eq_true, decide_eq_true_eq] at w2
    exact w2.2
  unfold F_laws_FnExactServeFrom
  obtain ⟨y, h1, s1⟩ := sz_ConfigS pf x w (left := 1048576) (by omega) (by omega)
  simp only [h1, Option.bind_some]
  rcases s1.neg with a | ⟨a1, a2, hx, hxc⟩
  · simp [a]
  · have hz : F_laws_szCmdS plainFuel v y = some (szf y v.n) := by
      unfold F_laws_szCmdS szf
      by_cases h : IntKind.wrap .i64 (y - (v.n : Int)) < 0 <;> simp [h]
    simp only [show ¬ y < 0 by omega, decide_false, cond_false, hz, Option.bind_some]
    rcases (sz_one (left := y) a1 (by omega) w'.1).neg with b | ⟨b1, b2, b3⟩
    · simp only [b, decide_true, cond_true]
    · have hl : ∀ i, i < (cp toConf d_Config x).n → ConfLen ((cp toConf d_Config x).f i) := fun i hi => by
        show ConfLen (if i < x.n then toConf (x.f i) else d_Config)
        rw [if_pos (show i < x.n from hi)]
        exact toConf_len (hxc i hi)
      have hC : (⟨none, x.n, (cp toConf d_Config x).f⟩ : Sl S_impl_Config) = cp toConf d_Config x := rfl
      have hV : (⟨none, (cp id ⟨0, 0, 0, 0, 0, 0⟩ v).n, (cp id ⟨0, 0, 0, 0, 0, 0⟩ v).f⟩ : Sl S_impl_Cmd) = cp id ⟨0, 0, 0, 0, 0, 0⟩ v := rfl
      simp only [show ¬ szf y v.n < 0 by omega, decide_false, cond_false, tu_ConfigS pf x hx hxc, tH_CmdS pf v b3, Option.bind_some, hC, hV, s_ServeFrom pf _ hl _ p hp, i_ServeFrom pf _ hl _ p hp, e_ConfigS pf (cp toConf d_Config x) hx hl, e_CmdS pf (cp id ⟨0, 0, 0, 0, 0, 0⟩ v) b3, Bool.not_true]
      obtain ⟨m, hm, hm0, hm1⟩ := mu_ConfigS pf x.n (cp toConf d_Config x).f hx hl
      obtain ⟨m2, hm2, hm3⟩ := ml_CmdS pf (cp id ⟨0, 0, 0, 0, 0, 0⟩ v).n m.1 (cp id ⟨0, 0, 0, 0, 0, 0⟩ v).n (cp id ⟨0, 0, 0, 0, 0, 0⟩ v).f b3 hm0 (by omega)
      simp only [hm, hm2, Option.bind_some, show ¬ m2.1 < 0 by omega, decide_false, cond_false]
      generalize hA : cp toConf d_Config x = all at hl
      generalize hB : cp id ⟨0, 0, 0, 0, 0, 0⟩ v = cmds
      have hcn : cmds.n ≤ 1048576 := by rw [← hB]; exact b3
      -- whatever it is, it is one and the same
      have key : ∃ (code fr to' : Int) (full : Bool) (ver : Int) (bn vn cn : Nat) (bf : Nat → S_impl_Backend) (vf vf' : Nat → S_impl_Vip) (cf : Nat → S_impl_Cmd), servT all cmds p copyI = (code, fr, to', full, ver, bn, vn, cn, bn, bf, vn, vf, cn, cf) ∧ servT all cmds p copyS = (code, fr, to', full, ver, bn, vn, cn, bn, bf, vn, vf', cn, cf) ∧ bn ≤ 1048576 ∧ vn ≤ 1048576 ∧ cn ≤ 1048576 ∧ Vips vn vf ∧ (∀ i, i < vn → vf i = vf' i) := by
        cases hs : (served all cmds != 0) with
        | true => exact ⟨served all cmds, 0, 0, false, 0, 0, 0, 0, _, _, _, _, by unfold servT; rw [hs]; rfl, by unfold servT; rw [hs]; rfl, by omega, by omega, by omega, fun m hm => absurd hm (Nat.not_lt_zero _), fun _ h => absurd h (Nat.not_lt_zero _)⟩
        | false =>
          cases h0 : decide (p < 0) with
          | true => exact ⟨3, 0, 0, false, 0, 0, 0, 0, _, _, _, _, by unfold servT; rw [hs, h0]; rfl, by unfold servT; rw [hs, h0]; rfl, by omega, by omega, by omega, fun m hm => absurd hm (Nat.not_lt_zero _), fun _ h => absurd h (Nat.not_lt_zero _)⟩
          | false =>
            have hn1 : 1 ≤ all.n := by
              unfold served at hs
              cases hb : sizeBad all.n cmds.n with
              | true => rw [hb] at hs; cases hs
              | false => exact (sizeBad_no hb).1
            have hL := hl (all.n - 1) (by omega)
            cases hq : part all p with
            | true => exact ⟨0, p, (all.f (all.n - 1)).Version, false, 0, 0, 0, cmds.n - (p - (all.f 0).Version).toNat, _, _, _, _, by unfold servT; rw [hs, h0, hq]; rfl, by unfold servT; rw [hs, h0, hq]; rfl, by omega, by omega, by omega, fun m hm => absurd hm (Nat.not_lt_zero _), fun _ h => absurd h (Nat.not_lt_zero _)⟩
            | false => exact ⟨0, 0, (all.f (all.n - 1)).Version, true, (all.f (all.n - 1)).Version, (all.f (all.n - 1)).Backends.n, (all.f (all.n - 1)).Vips.n, 0, _, _, _, _, by unfold servT; rw [hs, h0, hq]; rfl, by unfold servT; rw [hs, h0, hq]; rfl, hL.backends, hL.vips, by omega, copy_vips hL.names, fun i hi => copy_same _ _ _ hi⟩
      obtain ⟨code, fr, to', full, ver, bn, vn, cn, bf, vf, vf', cf, e1, e2, k1, k2, k3, k4, k5⟩ := key
      obtain ⟨k, bf', vf2, cf', q1, q2, q3⟩ := xy_UpdateResult pf code fr to' full ver bn vn cn bf vf cf k1 k2 k3 k4
      have q := q_UpdateResult pf code fr to' full ver bn vn cn bf vf vf' cf k1 k2 k3 k4 k5
      simp only [e1, e2, q, q1, q2, q3, Option.bind_some, Bool.not_true, cond_false, decide_false, bne_self_eq_false]

end Go.Proofs.Ytknnfcbagbafaaa.Pc
