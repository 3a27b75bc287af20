/- Plain laws of machines' faults, replies and updates. Conditions: none. -/
import Derived.Test.YthbimpgiafhfoaaPcPlCmd
namespace Go.Proofs.Ythbimpgiafhfoaa.Pc
open Go Go.RowKit Go.Proofs Vm
set_option linter.unusedVariables false
set_option linter.unusedSimpArgs false
set_option maxRecDepth 100000

def sesOk (s : S_impl_Session) : Bool := rng s.Client 1 999 && (rng s.Seq 1 1000000 && rng s.Code 0 10)
def sesAt (x : Sl S_impl_Session) (i : Nat) : Option Int := bif !sesOk (x.f i) then some 3 else bif decide (0 < i) && decide ((x.f i).Client ≤ (x.f (i - 1)).Client) then some 1 else none
def machf (m : S_impl_Machine) : Int := bif conff m.Config != 0 then conff m.Config else bif decide (40 < m.Sessions.n) then 2 else (scan (sesAt m.Sessions) m.Sessions.n 0).getD 0
theorem s_MachFault {fu : Nat} (hf : 2000000 ≤ fu) (m : S_impl_Machine) (hc : ConfLen m.Config) : F_spec_l11Fault fu m = some (machf m) := by
  unfold F_spec_l11Fault machf
  simp only [s_ConfFault hf m.Config hc, Option.bind_some]
  cases (conff m.Config != 0) with
  | true => rfl
  | false =>
    simp only [cond_false]
    rw [show decide (((m.Sessions.n : Nat) : Int) > 40) = decide (40 < m.Sessions.n) from decide_eq_decide.2 (by omega)]
    by_cases h4 : 40 < m.Sessions.n
    · simp only [h4, decide_true, cond_true]
    · simp only [h4, decide_false, cond_false]
      refine scanL m.Sessions.n (sesAt m.Sessions) (fun z => some z) (some 0) (by omega) (fun i go hi => ?_) (fun go => ?_) ?_
      · unfold F_spec_l11Fault_B0 sesAt sesOk
        simp only [Int.toNat_natCast, Int.natCast_nonneg, Int.ofNat_lt, hi, decide_true, Bool.and_self, cond_true, Option.bind_some, p_l1In, wsucc (show i < 4611686018427387904 by omega)]
        cases rng (m.Sessions.f i).Client 1 999 <;> cases rng (m.Sessions.f i).Seq 1 1000000 <;> cases rng (m.Sessions.f i).Code 0 10 <;> (try rfl)
        simp only [Bool.not_true, Bool.and_self, cond_false, Option.bind_some]
        by_cases h0 : 0 < i
        · have h1 : (i : Int) > 0 := by omega
          have h2 : i - 1 < m.Sessions.n := by omega
          simp only [h0, h1, decide_true, cond_true, wpred h0 (show i < 4611686018427387904 by omega), Int.toNat_natCast, Int.natCast_nonneg, h2, Bool.and_self, Option.bind_some, Bool.true_and]
          cases decide ((m.Sessions.f i).Client ≤ (m.Sessions.f (i - 1)).Client) <;> rfl
        · have h1 : ¬ (i : Int) > 0 := by omega
          simp only [h0, h1, decide_false, cond_false, Bool.false_and, Option.bind_some, Option.elim_none]
      · unfold F_spec_l11Fault_B0; simp
      · cases scan (sesAt m.Sessions) m.Sessions.n 0 <;> rfl
theorem i_MachineFault {fu : Nat} (hf : 2000000 ≤ fu) (m : S_impl_Machine) (hc : ConfLen m.Config) : F_impl_MachineFault fu m = some (machf m) := by
  unfold F_impl_MachineFault machf
  simp only [i_ConfigFault hf m.Config hc, Option.bind_some]
  cases (conff m.Config != 0) with
  | true => rfl
  | false =>
    simp only [cond_false]
    rw [show decide (((m.Sessions.n : Nat) : Int) > 40) = decide (40 < m.Sessions.n) from decide_eq_decide.2 (by omega)]
    by_cases h4 : 40 < m.Sessions.n
    · simp only [h4, decide_true, cond_true]
    · simp only [h4, decide_false, cond_false]
      refine scanL m.Sessions.n (sesAt m.Sessions) (fun z => some z) (some 0) (by omega) (fun i go hi => ?_) (fun go => ?_) ?_
      · unfold F_impl_MachineFault_B0 sesAt sesOk
        simp only [Int.toNat_natCast, Int.natCast_nonneg, Int.ofNat_lt, hi, decide_true, Bool.and_self, cond_true, Option.bind_some, p_in, p_isName, p_l3Name, wsucc (show i < 4611686018427387904 by omega)]
        cases rng (m.Sessions.f i).Client 1 999 <;> cases rng (m.Sessions.f i).Seq 1 1000000 <;> cases rng (m.Sessions.f i).Code 0 10 <;> (try rfl)
        simp only [Bool.not_true, Bool.and_self, cond_false, Option.bind_some]
        by_cases h0 : 0 < i
        · have h1 : (i : Int) > 0 := by omega
          have h2 : i - 1 < m.Sessions.n := by omega
          simp only [h0, h1, decide_true, cond_true, wpred h0 (show i < 4611686018427387904 by omega), Int.toNat_natCast, Int.natCast_nonneg, h2, Bool.and_self, Option.bind_some, Bool.true_and]
          cases decide ((m.Sessions.f i).Client ≤ (m.Sessions.f (i - 1)).Client) <;> rfl
        · have h1 : ¬ (i : Int) > 0 := by omega
          simp only [h0, h1, decide_false, cond_false, Bool.false_and, Option.bind_some, Option.elim_none]
      · unfold F_impl_MachineFault_B0; simp
      · cases scan (sesAt m.Sessions) m.Sessions.n 0 <;> rfl
theorem s_MachineFault {fu : Nat} (hf : 2000000 ≤ fu) (m : S_impl_Machine) (hc : ConfLen m.Config) : F_spec_MachineFault fu m = some (machf m) := by
  unfold F_spec_MachineFault
  rw [s_MachFault hf m hc]; rfl
theorem plain_FnExactMachineFault (x : S_laws_Machine) (w : W_laws_Machine x) : F_laws_FnExactMachineFault plainFuel x = some true := by
  unfold F_laws_FnExactMachineFault
  obtain ⟨z, hz, hs⟩ := sz_Machine pf x w (left := 1048576) (by omega) (by omega)
  rw [hz]
  simp only [Option.bind_some]
  rcases hs.neg with b | ⟨b1, b2, b3, b4⟩
  · simp only [b, decide_true, cond_true]
  · simp only [show ¬ z < 0 by omega, decide_false, cond_false, t_Machine pf x b3 b4, Option.bind_some, s_MachineFault pf (toMach x) (toConf_len b3), i_MachineFault pf (toMach x) (toConf_len b3), e_Machine pf (toMach x) (toConf_len b3) b4, bne_self_eq_false, Bool.not_true]

/-! ### Who has a session -/

/-- A machine that is in order: its sessions rise. -/
theorem mach_rise {m : S_impl_Machine} (h : (machf m != 0) = false) : m.Sessions.n ≤ 40 ∧ ∀ k l, k < l → l < m.Sessions.n → (m.Sessions.f k).Client < (m.Sessions.f l).Client := by
  unfold machf at h
  cases hc : (conff m.Config != 0) with
  | true => rw [hc] at h; simp only [cond_true] at h; rw [hc] at h; cases h
  | false =>
    rw [hc] at h
    simp only [cond_false] at h
    by_cases h4 : 40 < m.Sessions.n
    · simp [h4] at h
    · simp only [h4, decide_false, cond_false] at h
      have hn : ∀ i, i < m.Sessions.n → sesAt m.Sessions i = none := by
        cases hs : scan (sesAt m.Sessions) m.Sessions.n 0 with
        | none => exact fun i hi => scan_none.1 hs i (by omega) (by omega)
        | some v =>
          exfalso
          obtain ⟨j, _, _, hj⟩ := scan_some hs
          rw [hs] at h
          simp only [Option.getD_some] at h
          unfold sesAt at hj
          generalize (!sesOk (m.Sessions.f j)) = x1 at hj
          generalize (decide (0 < j) && decide ((m.Sessions.f j).Client ≤ (m.Sessions.f (j - 1)).Client)) = x2 at hj
          cases x1 <;> cases x2 <;> simp only [cond_true, cond_false, Option.some.injEq, reduceCtorEq] at hj <;> subst hj <;> cases h
      have hstep : ∀ i, 0 < i → i < m.Sessions.n → (m.Sessions.f (i - 1)).Client < (m.Sessions.f i).Client := by
        intro i h0 hi
        have := hn i hi
        unfold sesAt at this
        generalize (!sesOk (m.Sessions.f i)) = x1 at this
        cases x1 with
        | true => cases this
        | false =>
          simp only [cond_false, h0, decide_true, Bool.true_and] at this
          by_cases hl : (m.Sessions.f i).Client ≤ (m.Sessions.f (i - 1)).Client
          · simp [hl] at this
          · omega
      refine ⟨by omega, fun k l hkl hl => ?_⟩
      induction l with
      | zero => omega
      | succ l ih =>
        have h1 := hstep (l + 1) (by omega) hl
        rw [Nat.add_sub_cancel] at h1
        by_cases e : k = l
        · subst e; exact h1
        · have := ih (by omega) (by omega)
          omega

def atS (x : Sl S_impl_Session) (c : Int) : Option Nat := scan (fun i => bif (x.f i).Client == c then some i else none) x.n 0
theorem s_AtS {fu : Nat} (hf : 2000000 ≤ fu) (m : S_impl_Machine) (hs : m.Sessions.n ≤ 1048576) (c : Int) : F_spec_l11At fu m c = some ((atS m.Sessions c).elim (-1) (fun j => (j : Int))) := by
  unfold F_spec_l11At
  refine scanL m.Sessions.n (fun i => bif (m.Sessions.f i).Client == c then some i else none) (fun j => some ((j : Nat) : Int)) (some (-1)) (by omega) (fun i go hi => ?_) (fun go => ?_) ?_
  · unfold F_spec_l11At_B0
    simp only [Int.toNat_natCast, Int.natCast_nonneg, Int.ofNat_lt, hi, decide_true, Bool.and_self, cond_true, Option.bind_some, wsucc (show i < 4611686018427387904 by omega)]
    cases ((m.Sessions.f i).Client == c) <;> rfl
  · unfold F_spec_l11At_B0; simp
  · unfold atS
    cases scan (fun i => bif (m.Sessions.f i).Client == c then some i else none) m.Sessions.n 0 <;> rfl
theorem atS_lt {x : Sl S_impl_Session} {c : Int} {j : Nat} (h : atS x c = some j) : j < x.n := by
  unfold atS at h
  obtain ⟨i, _, hi, e⟩ := scan_some h
  cases hb : ((x.f i).Client == c) with
  | true => rw [hb] at e; simp only [cond_true, Option.some.injEq] at e; omega
  | false => rw [hb] at e; cases e

theorem half (a b : Nat) (ha : a ≤ 1048576) (hb : b ≤ 1048576) : IntKind.wrap .i64 (shrInt .u64 (IntKind.wrap .u64 (IntKind.wrap .i64 ((a : Int) + (b : Int)))) 1) = (((a + b) / 2 : Nat) : Int) := by
  rw [wrap64 (x := (a : Int) + (b : Int)) (by omega) (by omega)]
  have e1 : IntKind.wrap .u64 ((a : Int) + (b : Int)) = ((a + b : Nat) : Int) := by
    unfold IntKind.wrap
    simp [IntKind.bits, IntKind.signed]
    omega
  rw [e1]
  have e2 : shrInt .u64 ((a + b : Nat) : Int) 1 = (((a + b) / 2 : Nat) : Int) := by
    unfold shrInt
    show Int.fdiv ((a + b : Nat) : Int) 2 = _
    rw [Int.fdiv_eq_ediv_of_nonneg _ (by decide)]; omega
  rw [e2]
  exact wrap64 (by omega) (by omega)

/-- The search by halves. -/
theorem bs {ρ : Type} (n : Nat) (hn : n ≤ 1048576) (c : Nat → Int) (t : Int) (hc : ∀ k l, k < l → l < n → c k < c l) (B : Int × Int → (Int × Int → Option ρ) → Option ρ) (k0 : Int → Option ρ)
    (h1 : ∀ (i j : Nat) go, i < j → j ≤ n → B ((i : Int), (j : Int)) go = bif decide (c ((i + j) / 2) < t) then go ((((i + j) / 2 + 1 : Nat) : Int), (j : Int)) else go ((i : Int), (((i + j) / 2 : Nat) : Int))) (h2 : ∀ (i : Nat) go, B ((i : Int), (i : Int)) go = k0 (i : Int)) :
    ∀ (m i j fu : Nat), j - i ≤ m → m < fu → i ≤ j → j ≤ n → (∀ k, k < i → c k < t) → (∀ k, j ≤ k → k < n → ¬ c k < t) → ∃ r : Nat, r ≤ n ∧ (∀ k, k < r → c k < t) ∧ (∀ k, r ≤ k → k < n → ¬ c k < t) ∧ L B fu ((i : Int), (j : Int)) = k0 (r : Int) := by
  intro m
  induction m with
  | zero =>
    intro i j fu hm hf hij hjn hl hr
    have : i = j := by omega
    subst this
    obtain ⟨fu, rfl⟩ : ∃ k, fu = k + 1 := ⟨fu - 1, by omega⟩
    exact ⟨i, hjn, hl, hr, by simp only [L, h2]⟩
  | succ m ih =>
    intro i j fu hm hf hij hjn hl hr
    obtain ⟨fu, rfl⟩ : ∃ k, fu = k + 1 := ⟨fu - 1, by omega⟩
    by_cases e : i = j
    · subst e
      exact ⟨i, hjn, hl, hr, by simp only [L, h2]⟩
    · simp only [L]
      rw [h1 i j _ (by omega) hjn]
      by_cases hlt : c ((i + j) / 2) < t
      · simp only [hlt, decide_true, cond_true]
        refine ih ((i + j) / 2 + 1) j fu (by omega) (by omega) (by omega) hjn (fun k hk => ?_) hr
        by_cases ek : k = (i + j) / 2
        · subst ek; exact hlt
        · have := hc k ((i + j) / 2) (by omega) (by omega)
          omega
      · simp only [hlt, decide_false, cond_false]
        refine ih i ((i + j) / 2) fu (by omega) (by omega) (by omega) (by omega) hl (fun k hk hkn => ?_)
        by_cases ek : k = (i + j) / 2
        · subst ek; exact hlt
        · have := hc ((i + j) / 2) k (by omega) hkn
          omega
theorem cmpI_neg (x y : Int) : decide (cmpI x y < 0) = decide (x < y) := by
  rcases cmp3 x y with ⟨h1, _, h2⟩ | ⟨h1, _, h2⟩ | ⟨h1, _, h2⟩ <;> rw [h1, h2] <;> rfl
theorem cmpI_zero (x y : Int) : (cmpI x y == 0) = (x == y) := by
  have e : (x == y) = !(x != y) := by rw [bne, Bool.not_not]
  rw [e]
  rcases cmp3 x y with ⟨h1, h2, _⟩ | ⟨h1, h2, _⟩ | ⟨h1, h2, _⟩ <;> rw [h1, h2] <;> rfl
theorem i_session {fu : Nat} (hf : 2000000 ≤ fu) (m : S_impl_Machine) (hs : m.Sessions.n ≤ 40) (hr : ∀ k l, k < l → l < m.Sessions.n → (m.Sessions.f k).Client < (m.Sessions.f l).Client) (c : Int) :
    ∃ y, F_impl_Machine_session fu m c = some y ∧ y.2 = (atS m.Sessions c).isSome ∧ ∀ k, atS m.Sessions c = some k → y.1 = (k : Int) := by
  unfold F_impl_Machine_session F_slices_BinarySearchFunc_impl_Session_impl_Session_int64_w_impl_Machine_session_c1
  obtain ⟨r, hrn, hlt, hge, he⟩ := bs (ρ := Int × Bool) m.Sessions.n (by omega) (fun k => (m.Sessions.f k).Client) c hr
    (fun w0 go0 => F_slices_BinarySearchFunc_impl_Session_impl_Session_int64_w_impl_Machine_session_c1_B0 fu m.Sessions c ((m.Sessions.n : Nat) : Int) (fun z270 => (bif (decide (z270 < ((m.Sessions.n : Nat) : Int))) then
    ((bif (decide (0 ≤ z270) && decide ((Int.toNat z270) < m.Sessions.n)) then some () else none : Option Unit).bind fun _ => ((F_impl_Machine_session_c1 fu (m.Sessions.f (Int.toNat z270)) c).bind fun y271 =>
    (some (z270, (y271 == 0))))) else (some (z270, false)))) w0.1 w0.2 (fun q0 q1 => go0 (q0, q1)))
    (fun z270 => (bif (decide (z270 < ((m.Sessions.n : Nat) : Int))) then
    ((bif (decide (0 ≤ z270) && decide ((Int.toNat z270) < m.Sessions.n)) then some () else none : Option Unit).bind fun _ => ((F_impl_Machine_session_c1 fu (m.Sessions.f (Int.toNat z270)) c).bind fun y271 =>
    (some (z270, (y271 == 0))))) else (some (z270, false))))
    (fun i j go hij hjn => by
      unfold F_slices_BinarySearchFunc_impl_Session_impl_Session_int64_w_impl_Machine_session_c1_B0
      have h2 : (i + j) / 2 < m.Sessions.n := by omega
      simp only [half i j (by omega) (by omega), Int.ofNat_lt, hij, decide_true, cond_true, Int.toNat_natCast, Int.natCast_nonneg, h2, Bool.and_self, Option.bind_some, F_impl_Machine_session_c1, i_Compare, cmpI_neg, wsucc (show (i + j) / 2 < 4611686018427387904 by omega)])
    (fun i go => by
      unfold F_slices_BinarySearchFunc_impl_Session_impl_Session_int64_w_impl_Machine_session_c1_B0
      simp only [Int.lt_irrefl, decide_false, cond_false])
    m.Sessions.n 0 m.Sessions.n fu (by omega) (by omega) (by omega) (Nat.le_refl _) (fun k hk => by omega) (fun k hk hk' => by omega)
  rw [show ((0 : Nat) : Int) = 0 from rfl] at he
  rw [he]
  have hat : ∀ k, (r < m.Sessions.n ∧ (m.Sessions.f r).Client = c) → atS m.Sessions c = some k → k = r := by
    intro k hrc hk
    unfold atS at hk
    obtain ⟨i, _, hi, e⟩ := scan_some hk
    cases hb : ((m.Sessions.f i).Client == c) with
    | false => rw [hb] at e; cases e
    | true =>
      rw [hb] at e
      simp only [cond_true, Option.some.injEq] at e
      have hb := beq_iff_eq.1 hb
      by_cases h1 : i < r
      · have := hr i r h1 hrc.1; omega
      · by_cases h2 : r < i
        · have := hr r i h2 (by omega); omega
        · omega
  by_cases hc : r < m.Sessions.n ∧ (m.Sessions.f r).Client = c
  · have hsome : (atS m.Sessions c).isSome = true := by
      cases ha : atS m.Sessions c with
      | some k => rfl
      | none =>
        unfold atS at ha
        have := scan_none.1 ha r (by omega) (by omega)
        rw [beq_iff_eq.2 hc.2] at this
        cases this
    refine ⟨((r : Int), true), ?_, hsome.symm, fun k hk => by rw [hat k hc hk]⟩
    simp only [Int.ofNat_lt, hc.1, decide_true, cond_true, Int.toNat_natCast, Int.natCast_nonneg, Bool.and_self, Option.bind_some, F_impl_Machine_session_c1, i_Compare, cmpI_zero, beq_iff_eq.2 hc.2]
  · have hnone : atS m.Sessions c = none := by
      unfold atS
      refine scan_none.2 (fun i _ hi => ?_)
      have hne : (m.Sessions.f i).Client ≠ c := by
        intro e
        by_cases h1 : i < r
        · have := hlt i h1
          omega
        · by_cases h2 : i = r
          · subst h2; exact hc ⟨by omega, e⟩
          · have h3 := hr r i (by omega) (by omega)
            have h4 := hge r (Nat.le_refl _) (by omega)
            omega
      rw [beq_eq_false_iff_ne.2 hne]; rfl
    refine ⟨((r : Int), false), ?_, by rw [hnone]; rfl, fun k hk => by rw [hnone] at hk; cases hk⟩
    by_cases hrn' : r < m.Sessions.n
    · have hne : (m.Sessions.f r).Client ≠ c := fun e => hc ⟨hrn', e⟩
      simp only [Int.ofNat_lt, hrn', decide_true, cond_true, Int.toNat_natCast, Int.natCast_nonneg, Bool.and_self, Option.bind_some, F_impl_Machine_session_c1, i_Compare, cmpI_zero, beq_eq_false_iff_ne.2 hne]
    · simp only [Int.ofNat_lt, hrn', decide_false, cond_false, Option.bind_some]

def replyf (m : S_impl_Machine) (c s : Int) : S_impl_IntResult :=
  bif machf m != 0 then ⟨machf m, 0⟩ else (atS m.Sessions c).elim ⟨4, 0⟩ (fun k => bif decide ((m.Sessions.f k).Seq < s) then ⟨4, 0⟩ else bif decide ((m.Sessions.f k).Seq > s) then ⟨9, 0⟩ else ⟨0, (m.Sessions.f k).Code⟩)
theorem s_ReplyOf {fu : Nat} (hf : 2000000 ≤ fu) (m : S_impl_Machine) (hc : ConfLen m.Config) (c s : Int) : F_spec_ReplyOf fu m c s = some (replyf m c s) := by
  unfold F_spec_ReplyOf replyf
  simp only [s_MachFault hf m hc, Option.bind_some]
  cases hm : (machf m != 0) with
  | true => rfl
  | false =>
    obtain ⟨hs, hr⟩ := mach_rise hm
    simp only [cond_false, s_AtS hf m (by omega) c, Option.bind_some]
    cases ha : atS m.Sessions c with
    | none => rfl
    | some k =>
      have hk := atS_lt ha
      have hk0 : ¬ (k : Int) < 0 := by omega
      simp only [Option.elim_some, hk0, decide_false, cond_false, Int.natCast_nonneg, Int.toNat_natCast, hk, decide_true, Bool.and_self, cond_true, Option.bind_some]
      by_cases h5 : (m.Sessions.f k).Seq < s
      · simp only [h5, decide_true, cond_true]
      · by_cases h6 : (m.Sessions.f k).Seq > s
        · simp only [h5, h6, decide_true, decide_false, cond_true, cond_false]
        · simp only [h5, h6, decide_false, cond_false]
theorem i_ReplyOf {fu : Nat} (hf : 2000000 ≤ fu) (m : S_impl_Machine) (hc : ConfLen m.Config) (c s : Int) : F_impl_ReplyOf fu m c s = some (replyf m c s) := by
  unfold F_impl_ReplyOf replyf
  simp only [i_MachineFault hf m hc, Option.bind_some]
  cases hm : (machf m != 0) with
  | true => rfl
  | false =>
    obtain ⟨hs, hr⟩ := mach_rise hm
    obtain ⟨y, hy, h1, h2⟩ := i_session hf m hs hr c
    simp only [cond_false, hy, Option.bind_some, h1]
    cases ha : atS m.Sessions c with
    | none => rfl
    | some k =>
      have hk := atS_lt ha
      simp only [Option.isSome_some, Bool.not_true, Option.elim_some, h2 k ha, cond_false, Int.natCast_nonneg, Int.toNat_natCast, hk, decide_true, Bool.and_self, cond_true, Option.bind_some]
      by_cases h5 : (m.Sessions.f k).Seq < s
      · simp only [h5, decide_true, cond_true]
      · by_cases h6 : (m.Sessions.f k).Seq > s
        · simp only [h5, h6, decide_true, decide_false, cond_true, cond_false]
        · simp only [h5, h6, decide_false, cond_false]
theorem plain_FnExactReplyOf (x : S_laws_Machine) (c s : Int) {p q : Prop} (w : W_laws_Machine x) (wc : p) (ws : q) : F_laws_FnExactReplyOf plainFuel x c s = some true := by
  unfold F_laws_FnExactReplyOf
  obtain ⟨z, hz, hs⟩ := sz_Machine pf x w (left := 1048576) (by omega) (by omega)
  rw [hz]
  simp only [Option.bind_some]
  have er : ∀ (fu : Nat) (x : S_impl_IntResult), F_laws_eqIntResult fu x x = some true := fun fu x => by unfold F_laws_eqIntResult; simp
  rcases hs.neg with b | ⟨b1, b2, b3, b4⟩
  · simp only [b, decide_true, cond_true]
  · simp only [show ¬ z < 0 by omega, decide_false, cond_false, t_Machine pf x b3 b4, Option.bind_some, s_ReplyOf pf (toMach x) (toConf_len b3), i_ReplyOf pf (toMach x) (toConf_len b3), e_Machine pf (toMach x) (toConf_len b3) b4, er, Bool.not_true]

/-! ### Updates -/

def emptyU (c : S_impl_Config) : Bool := (c.Version == 0) && ((((c.Backends.n : Nat) : Int) == 0) && (((c.Vips.n : Nat) : Int) == 0))
def cmdAt (x : Sl S_impl_Cmd) (i : Nat) : Option Int := bif cmdf (x.f i) != 0 then some (cmdf (x.f i)) else none
def updf (u : S_impl_Update) : Int :=
  bif !(rng u.From 0 1000000 && rng u.To 0 1000000) then 3 else bif u.Full then (bif (u.From != 0) || decide (0 < u.Cmds.n) then 1 else bif conff u.Config != 0 then conff u.Config else bif u.Config.Version != u.To then 1 else 0)
    else bif !emptyU u.Config then 1 else bif decide (20 < u.Cmds.n) then 2 else bif IntKind.wrap .i64 (u.To - u.From) != (u.Cmds.n : Int) then 1 else (scan (cmdAt u.Cmds) u.Cmds.n 0).getD 0
theorem s_Empty (fu : Nat) (c : S_impl_Config) : F_spec_l13Empty fu c = some (emptyU c) := by
  unfold F_spec_l13Empty emptyU
  cases (c.Version == 0) <;> cases (((c.Backends.n : Nat) : Int) == 0) <;> rfl
theorem i_isZero (fu : Nat) (c : S_impl_Config) : F_impl_Config_isZero fu c = some (emptyU c) := by
  unfold F_impl_Config_isZero emptyU
  cases (c.Version == 0) <;> cases (((c.Backends.n : Nat) : Int) == 0) <;> rfl
theorem s_UpdateFault {fu : Nat} (hf : 2000000 ≤ fu) (u : S_impl_Update) (hc : ConfLen u.Config) : F_spec_UpdateFault fu u = some (updf u) := by
  unfold F_spec_UpdateFault updf
  simp only [p_l5Version, s_ConfFault hf u.Config hc, s_Empty, Option.bind_some]
  rw [show decide (((u.Cmds.n : Nat) : Int) > 0) = decide (0 < u.Cmds.n) from decide_eq_decide.2 (by omega), show decide (((u.Cmds.n : Nat) : Int) > 20) = decide (20 < u.Cmds.n) from decide_eq_decide.2 (by omega)]
  cases rng u.From 0 1000000 <;> cases rng u.To 0 1000000 <;> (try rfl)
  simp only [Bool.not_true, Bool.and_self, cond_false, Option.bind_some]
  cases u.Full with
  | true =>
    cases (u.From != 0) <;> cases decide (0 < u.Cmds.n) <;> (try rfl)
    simp only [cond_true, cond_false, Option.bind_some, Bool.or_self]
    cases (conff u.Config != 0) <;> cases (u.Config.Version != u.To) <;> rfl
  | false =>
    simp only [cond_false]
    cases emptyU u.Config with
    | false => rfl
    | true =>
      simp only [Bool.not_true, cond_false]
      by_cases h2 : 20 < u.Cmds.n
      · simp only [h2, decide_true, cond_true]
      · simp only [h2, decide_false, cond_false]
        cases (IntKind.wrap .i64 (u.To - u.From) != (u.Cmds.n : Int)) with
        | true => rfl
        | false =>
          simp only [cond_false]
          refine scanL u.Cmds.n (cmdAt u.Cmds) (fun z => some z) (some 0) (by omega) (fun i go hi => ?_) (fun go => ?_) ?_
          · unfold F_spec_UpdateFault_B0 cmdAt
            simp only [Int.toNat_natCast, Int.natCast_nonneg, Int.ofNat_lt, hi, decide_true, Bool.and_self, cond_true, Option.bind_some, s_CmdFault, wsucc (show i < 4611686018427387904 by omega)]
            cases (cmdf (u.Cmds.f i) != 0) <;> rfl
          · unfold F_spec_UpdateFault_B0; simp
          · cases scan (cmdAt u.Cmds) u.Cmds.n 0 <;> rfl
theorem i_UpdateFault {fu : Nat} (hf : 2000000 ≤ fu) (u : S_impl_Update) (hc : ConfLen u.Config) : F_impl_UpdateFault fu u = some (updf u) := by
  unfold F_impl_UpdateFault updf
  simp only [p_in, i_ConfigFault hf u.Config hc, i_isZero, F_impl_size_impl_Cmd, Option.bind_some]
  rw [show decide (((u.Cmds.n : Nat) : Int) > 0) = decide (0 < u.Cmds.n) from decide_eq_decide.2 (by omega), show decide (((u.Cmds.n : Nat) : Int) > 20) = decide (20 < u.Cmds.n) from decide_eq_decide.2 (by omega)]
  cases rng u.From 0 1000000 <;> cases rng u.To 0 1000000 <;> (try rfl)
  simp only [Bool.not_true, Bool.and_self, cond_false, Option.bind_some]
  cases u.Full with
  | true =>
    cases (u.From != 0) <;> cases decide (0 < u.Cmds.n) <;> (try rfl)
    simp only [cond_true, cond_false, Option.bind_some, Bool.or_self]
    cases (conff u.Config != 0) <;> cases (u.Config.Version != u.To) <;> rfl
  | false =>
    simp only [cond_false]
    cases emptyU u.Config with
    | false => rfl
    | true =>
      simp only [Bool.not_true, cond_false]
      by_cases h2 : 20 < u.Cmds.n
      · simp only [h2, decide_true, cond_true]
      · simp only [h2, decide_false, cond_false]
        cases (IntKind.wrap .i64 (u.To - u.From) != (u.Cmds.n : Int)) with
        | true => rfl
        | false =>
          simp only [cond_false]
          have e : F_impl_cmdsFault fu u.Cmds = some ((scan (cmdAt u.Cmds) u.Cmds.n 0).getD 0) := by
            unfold F_impl_cmdsFault
            refine scanL u.Cmds.n (cmdAt u.Cmds) (fun z => some z) (some 0) (by omega) (fun i go hi => ?_) (fun go => ?_) ?_
            · unfold F_impl_cmdsFault_B0 cmdAt
              simp only [Int.toNat_natCast, Int.natCast_nonneg, Int.ofNat_lt, hi, decide_true, Bool.and_self, cond_true, Option.bind_some, i_CmdFault, wsucc (show i < 4611686018427387904 by omega)]
              cases (cmdf (u.Cmds.f i) != 0) <;> rfl
            · unfold F_impl_cmdsFault_B0; simp
            · cases scan (cmdAt u.Cmds) u.Cmds.n 0 <;> rfl
          rw [e]; rfl

def d_Cmd : S_impl_Cmd := ⟨0, 0, 0, 0, 0, 0⟩
theorem t_CmdS {fu : Nat} (hf : 2000000 ≤ fu) (x : Sl S_impl_Cmd) (hx : x.n ≤ 1048576) : F_laws_toCmdS fu x = some (cp id d_Cmd x) := by
  unfold F_laws_toCmdS
  have h1 : (48 : Int) * (x.n : Int) ≤ 281474976710656 := by omega
  have h2 : (x.n : Int) ≤ 9223372036854775807 := by omega
  simp only [h1, h2, decide_true, Bool.and_true, Int.toNat_natCast, Int.natCast_nonneg, cond_true]
  refine toL x id (by omega) (fun i o go hi => ?_)
  unfold F_laws_toCmdS_B0 F_laws_toCmd
  by_cases h : i < x.n
  · simp [h, wsucc (show i < 4611686018427387904 by omega)]
  · simp [h]
theorem e_CmdS {fu : Nat} (hf : 2000000 ≤ fu) (x : Sl S_impl_Cmd) (hx : x.n ≤ 1048576) : F_laws_eqCmdS fu x x = some true := by
  unfold F_laws_eqCmdS
  simp only [bne_self_eq_false, cond_false]
  refine eqL x.n (by omega) (fun i go hi => ?_) (fun go => ?_)
  · unfold F_laws_eqCmdS_B0 F_laws_eqCmd
    simp [hi, wsucc (show i < 4611686018427387904 by omega)]
  · unfold F_laws_eqCmdS_B0; simp
def toUpd (x : S_laws_Update) : S_impl_Update := ⟨x.From, x.To, x.Full, toConf x.Config, cp id d_Cmd x.Cmds⟩
theorem t_Update {fu : Nat} (hf : 2000000 ≤ fu) (x : S_laws_Update) (hx : ConfLen' x.Config) (hs : x.Cmds.n ≤ 1048576) : F_laws_toUpdate fu x = some (toUpd x) := by
  unfold F_laws_toUpdate toUpd
  simp only [t_Config hf x.Config hx, t_CmdS hf x.Cmds hs, Option.bind_some]
theorem e_Update {fu : Nat} (hf : 2000000 ≤ fu) (x : S_impl_Update) (hx : ConfLen x.Config) (hs : x.Cmds.n ≤ 1048576) : F_laws_eqUpdate fu x x = some true := by
  unfold F_laws_eqUpdate
  simp [e_Config hf x.Config hx, e_CmdS hf x.Cmds hs]
theorem sz_CmdS (fu : Nat) (x : Sl S_impl_Cmd) (left : Int) : F_laws_szCmdS fu x left = some (szf left x.n) := by
  unfold F_laws_szCmdS szf
  by_cases h : IntKind.wrap .i64 (left - (x.n : Int)) < 0 <;> simp [h]
theorem plain_FnExactUpdateFault (x : S_laws_Update) (w : W_laws_Update x) : F_laws_FnExactUpdateFault plainFuel x = some true := by
  unfold F_laws_FnExactUpdateFault
  have hz : ∃ y, F_laws_szUpdate plainFuel x 1048576 = some y ∧ Szd 1048576 y (ConfLen' x.Config ∧ x.Cmds.n ≤ 1048576) := by
    obtain ⟨_, _, _, w1, w2⟩ := w
    unfold F_laws_szUpdate
    obtain ⟨y, hy, hs⟩ := sz_Config pf x.Config w1 (left := 1048576) (by omega) (by omega)
    rw [hy]
    simp only [Option.bind_some]
    rcases hs.neg with b | ⟨b1, b2, b3⟩
    · exact ⟨-1, by simp [b], ⟨.inl (by omega)⟩⟩
    · simp only [show ¬ y < 0 by omega, decide_false, cond_false, sz_CmdS, Option.bind_some]
      rcases (sz_one b1 (by omega) w2.1).neg with a | ⟨a1, a2, a3⟩
      · exact ⟨-1, by simp [a], ⟨.inl (by omega)⟩⟩
      · exact ⟨szf y x.Cmds.n, by simp only [show ¬ szf y x.Cmds.n < 0 by omega, decide_false, cond_false], ⟨.inr ⟨a1, by omega, b3, a3⟩⟩⟩
  obtain ⟨y, hy, hs⟩ := hz
  rw [hy]
  simp only [Option.bind_some]
  rcases hs.neg with b | ⟨b1, b2, b3, b4⟩
  · simp only [b, decide_true, cond_true]
  · simp only [show ¬ y < 0 by omega, decide_false, cond_false, t_Update pf x b3 b4, s_UpdateFault pf (toUpd x) (toConf_len b3), i_UpdateFault pf (toUpd x) (toConf_len b3), e_Update pf (toUpd x) (toConf_len b3) b4, Option.bind_some, bne_self_eq_false, Bool.not_true]
end Go.Proofs.Ythbimpgiafhfoaa.Pc
