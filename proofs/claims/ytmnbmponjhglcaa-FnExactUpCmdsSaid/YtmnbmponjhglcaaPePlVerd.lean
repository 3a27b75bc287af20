/- Plain laws of the verdicts. Conditions: none. -/
import Derived.Test.YtmnbmponjhglcaaPePlHealth
namespace Go.Proofs.Ytmnbmponjhglcaa.Pe
open Go Go.RowKit Go.Proofs Vm
set_option linter.unusedVariables false
set_option linter.unusedSimpArgs false
set_option maxRecDepth 100000

def verdOk (v : S_impl_Verdict) : Bool := rng v.Prober 0 9 && (rng v.Name 1 999 && rng v.Epoch 0 1000000)
def verdsf (x : Sl S_impl_Verdict) : Int := bif decide (60 < x.n) then 2 else bif allb x.n (fun i => verdOk (x.f i)) then 0 else 3
theorem s_VerdictsFault {fu : Nat} (hf : 2000000 ≤ fu) (x : Sl S_impl_Verdict) : F_spec_VerdictsFault fu x = some (verdsf x) := by
  unfold F_spec_VerdictsFault verdsf
  rw [show decide ((x.n : Int) > 60) = decide (60 < x.n) from decide_eq_decide.2 (by omega)]
  by_cases h : 60 < x.n
  · simp [h]
  · simp only [h, decide_false, cond_false]
    refine allL x.n (fun i => verdOk (x.f i)) (some 3) (some 0) (by omega) (fun i go hi => ?_) (fun go => ?_) (by cases allb x.n (fun i => verdOk (x.f i)) <;> rfl)
    · unfold F_spec_VerdictsFault_B0 verdOk
      simp only [Int.toNat_natCast, Int.natCast_nonneg, Int.ofNat_lt, hi, decide_true, Bool.and_self, cond_true, Option.bind_some, p_l1In, p_l3Name, wsucc (show i < 4611686018427387904 by omega)]
      cases rng (x.f i).Prober 0 9 <;> cases rng (x.f i).Name 1 999 <;> cases rng (x.f i).Epoch 0 1000000 <;> rfl
    · unfold F_spec_VerdictsFault_B0; simp
theorem i_VerdictsFault {fu : Nat} (hf : 2000000 ≤ fu) (x : Sl S_impl_Verdict) : F_impl_VerdictsFault fu x = some (verdsf x) := by
  unfold F_impl_VerdictsFault verdsf
  rw [show decide ((x.n : Int) > 60) = decide (60 < x.n) from decide_eq_decide.2 (by omega)]
  by_cases h : 60 < x.n
  · simp [h]
  · simp only [h, decide_false, cond_false]
    refine allL x.n (fun i => verdOk (x.f i)) (some 3) (some 0) (by omega) (fun i go hi => ?_) (fun go => ?_) (by cases allb x.n (fun i => verdOk (x.f i)) <;> rfl)
    · unfold F_impl_VerdictsFault_B0 verdOk
      simp only [Int.toNat_natCast, Int.natCast_nonneg, Int.ofNat_lt, hi, decide_true, Bool.and_self, cond_true, Option.bind_some, p_in, F_impl_isName, wsucc (show i < 4611686018427387904 by omega)]
      cases rng (x.f i).Prober 0 9 <;> cases rng (x.f i).Name 1 999 <;> cases rng (x.f i).Epoch 0 1000000 <;> rfl
    · unfold F_impl_VerdictsFault_B0; simp

/-! ### The best verdict of a prober -/

def saysC (x : Sl S_impl_Verdict) (p n : Int) (i : Nat) (s : Int) : Bool := ((x.f i).Prober == p) && (((x.f i).Name == n) && (decide (s < 0) || decide ((x.f i).Epoch > (x.f s.toNat).Epoch)))
def saysF (x : Sl S_impl_Verdict) (p n : Int) (i : Nat) (s : Int) : Sum Unit Int := .inr (bif saysC x p n i s then (i : Int) else s)
def saysI (i : Nat) (s : Int) : Prop := s = -1 ∨ (0 ≤ s ∧ s < (i : Int))
theorem saysI_step {x : Sl S_impl_Verdict} {p n : Int} (i : Nat) (s s' : Int) (h : saysI i s) (he : saysF x p n i s = .inr s') : saysI (i + 1) s' := by
  unfold saysF at he
  cases he
  unfold saysI at h ⊢
  cases saysC x p n i s with
  | true => simp only [cond_true]; omega
  | false => simp only [cond_false]; omega
/-- The place of the best one, or -1. -/
def best (x : Sl S_impl_Verdict) (p n : Int) : Int := (run (saysF x p n) x.n 0 (-1)).elim (fun _ => -1) id
theorem best_I (x : Sl S_impl_Verdict) (p n : Int) : saysI x.n (best x p n) := by
  unfold best
  cases h : run (saysF x p n) x.n 0 (-1) with
  | inl _ => exact .inl rfl
  | inr s =>
    have := runI (f := saysF x p n) saysI x.n 0 (-1) s (fun j s s' _ _ hs he => saysI_step j s s' hs he) (.inl rfl) h
    rw [Nat.zero_add] at this
    exact this
theorem says_run (x : Sl S_impl_Verdict) (p n : Int) : run (saysF x p n) x.n 0 (-1) = .inr (best x p n) := by
  obtain ⟨s, e⟩ := run_inr (f := saysF x p n) (fun i s => ⟨_, rfl⟩) x.n 0 (-1)
  unfold best
  rw [e]; rfl
def says (x : Sl S_impl_Verdict) (p n : Int) : Int := bif decide (best x p n < 0) then 0 else bif (x.f (best x p n).toNat).Up then 1 else 2
theorem s_Says {fu : Nat} (hf : 2000000 ≤ fu) (x : Sl S_impl_Verdict) (hx : x.n ≤ 60) (p n : Int) : F_spec_l12Says fu x p n = some (says x p n) := by
  unfold F_spec_l12Says
  refine runL x.n (fun i s => (s, (i : Int))) (-1) (saysF x p n) (fun _ => none) (fun s => bif decide (s < 0) then some 0 else bif (x.f s.toNat).Up then some 1 else some 2) saysI (by omega) rfl (.inl rfl) (fun i s go hi hs => ?_) (fun i s s' _ hs he => saysI_step i s s' hs he) (fun s go hs => ?_) ?_
  · unfold F_spec_l12Says_B0 saysF saysC
    simp only [Int.toNat_natCast, Int.natCast_nonneg, Int.ofNat_lt, hi, decide_true, Bool.and_self, cond_true, Option.bind_some, wsucc (show i < 4611686018427387904 by omega), Sum.elim_inr]
    cases ((x.f i).Prober == p) <;> cases ((x.f i).Name == n) <;> simp only [cond_true, cond_false, Option.bind_some, Bool.true_and, Bool.false_and]
    by_cases h0 : s < 0
    · simp only [h0, decide_true, cond_true, Option.bind_some, Bool.true_or]
    · have h1 : 0 ≤ s := by omega
      have h2 : s.toNat < x.n := by rcases hs with hs | hs <;> omega
      simp only [h0, decide_false, cond_false, h1, h2, decide_true, Bool.and_self, cond_true, Option.bind_some, Bool.false_or]
      cases decide ((x.f i).Epoch > (x.f s.toNat).Epoch) <;> rfl
  · unfold F_spec_l12Says_B0
    simp only [Int.ofNat_lt, Nat.lt_irrefl, decide_false, cond_false]
    by_cases h0 : s < 0
    · simp only [h0, decide_true, cond_true]
    · have h1 : 0 ≤ s := by omega
      have h2 : s.toNat < x.n := by rcases hs with hs | hs <;> omega
      simp only [h0, decide_false, cond_false, h1, h2, decide_true, Bool.and_self, cond_true, Option.bind_some]
  · rw [says_run]
    unfold says
    simp only [Sum.elim_inr]
    cases decide (best x p n < 0) <;> cases (x.f (best x p n).toNat).Up <;> rfl

/-! ### The verdict of many -/

def verdF (x : Sl S_impl_Verdict) (n : Int) (p : Nat) (s : Int × Int) : Sum Unit (Int × Int) :=
  .inr (bif says x (p : Int) n == 1 then (IntKind.wrap .i64 (s.1 + 1), s.2) else bif says x (p : Int) n == 2 then (s.1, IntKind.wrap .i64 (s.2 + 1)) else s)
def verdEnd (m : Int) (s : Int × Int) : Int := bif decide (IntKind.wrap .i64 (2 * s.1) > m) then 1 else bif decide (IntKind.wrap .i64 (2 * s.2) > m) then 2 else 0
def verdo (x : Sl S_impl_Verdict) (n : Int) (m : Nat) : Option Int := (run (verdF x n) m 0 (0, 0)).elim (fun _ => none) (fun s => some (verdEnd m s))
theorem verdo_some (x : Sl S_impl_Verdict) (n : Int) (m : Nat) : ∃ y, verdo x n m = some y := by
  obtain ⟨s, e⟩ := run_inr (f := verdF x n) (fun i s => ⟨_, rfl⟩) m 0 (0, 0)
  exact ⟨_, by unfold verdo; rw [e]; rfl⟩
theorem s_Verdict {fu : Nat} (hf : 2000000 ≤ fu) (x : Sl S_impl_Verdict) (hx : x.n ≤ 60) (n : Int) (m : Nat) (hm : m ≤ 10) : F_spec_l12Verdict fu x n (m : Int) = verdo x n m := by
  unfold F_spec_l12Verdict verdo
  refine runL m (fun i s => (s.1, s.2, (i : Int))) (0, 0) (verdF x n) (fun _ => none) (fun s => some (verdEnd m s)) (fun _ _ => True) (by omega) rfl trivial (fun i s go hi _ => ?_) (fun _ _ _ _ _ _ => trivial) (fun s go _ => ?_) rfl
  · unfold F_spec_l12Verdict_B0 verdF
    simp only [Int.ofNat_lt, hi, decide_true, cond_true, Option.bind_some, s_Says hf x hx, wsucc (show i < 4611686018427387904 by omega), Sum.elim_inr]
    cases (says x (i : Int) n == 1) <;> cases (says x (i : Int) n == 2) <;> rfl
  · unfold F_spec_l12Verdict_B0 verdEnd
    simp only [Int.ofNat_lt, Nat.lt_irrefl, decide_false, cond_false]
    cases decide (IntKind.wrap .i64 (2 * s.1) > (m : Int)) <;> cases decide (IntKind.wrap .i64 (2 * s.2) > (m : Int)) <;> rfl

/-- The verdict at a place; before the first one. -/
def vat (x : Sl S_impl_Verdict) (s : Int) : S_impl_Verdict := if s < 0 then ⟨0, 0, false, -1⟩ else x.f s.toNat
theorem i_Verdict {fu : Nat} (hf : 2000000 ≤ fu) (x : Sl S_impl_Verdict) (hx : x.n ≤ 60) (he : ∀ i, i < x.n → 0 ≤ (x.f i).Epoch) (n : Int) (m : Nat) (hm : m ≤ 10) : F_impl_verdict fu x n (m : Int) = verdo x n m := by
  unfold F_impl_verdict verdo
  refine runL m (fun i s => (s.1, s.2, (i : Int))) (0, 0) (verdF x n) (fun _ => none) (fun s => some (verdEnd m s)) (fun _ _ => True) (by omega) rfl trivial (fun p s go hi _ => ?_) (fun _ _ _ _ _ _ => trivial) (fun s go _ => ?_) rfl
  · unfold F_impl_verdict_B0 verdF
    simp only [Int.ofNat_lt, hi, decide_true, cond_true, Option.bind_some, wsucc (show p < 4611686018427387904 by omega), Sum.elim_inr]
    refine runL x.n (fun i s => ((i : Int), (vat x s).Prober, (vat x s).Name, (vat x s).Up, (vat x s).Epoch)) (-1) (saysF x (p : Int) n) (fun _ => none) (fun b => go (let w := (bif (bif decide (b < 0) then 0 else bif (x.f b.toNat).Up then (1 : Int) else 2) == 1 then (IntKind.wrap .i64 (s.1 + 1), s.2) else bif (bif decide (b < 0) then 0 else bif (x.f b.toNat).Up then (1 : Int) else 2) == 2 then (s.1, IntKind.wrap .i64 (s.2 + 1)) else s); (w.1, w.2, ((p + 1 : Nat) : Int)))) saysI (by omega) rfl (.inl rfl) (fun i t go' hi' ht => ?_) (fun i t t' _ ht he => saysI_step i t t' ht he) (fun t go' ht => ?_) ?_
    · unfold F_impl_verdict_B2 saysF saysC
      simp only [Int.toNat_natCast, Int.natCast_nonneg, Int.ofNat_lt, hi', decide_true, Bool.and_self, cond_true, Option.bind_some, wsucc (show i < 4611686018427387904 by omega), Sum.elim_inr]
      have e1 : vat x (i : Int) = x.f i := by unfold vat; rw [if_neg (by omega), Int.toNat_natCast]
      have e2 : decide ((x.f i).Epoch > (vat x t).Epoch) = (decide (t < 0) || decide ((x.f i).Epoch > (x.f t.toNat).Epoch)) := by
        unfold vat
        by_cases h0 : t < 0
        · have := he i hi'
          simp only [h0, if_true, decide_true, Bool.true_or, decide_eq_true_eq]
          omega
        · simp only [h0, if_false, decide_false, Bool.false_or]
      rw [e2]
      cases ((x.f i).Prober == (p : Int)) <;> cases ((x.f i).Name == n) <;> simp only [cond_true, cond_false, Option.bind_some, Bool.true_and, Bool.false_and]
      cases (decide (t < 0) || decide ((x.f i).Epoch > (x.f t.toNat).Epoch)) <;> simp only [cond_true, cond_false, e1]
    · unfold F_impl_verdict_B2
      simp only [Int.ofNat_lt, Nat.lt_irrefl, decide_false, cond_false]
      unfold vat
      by_cases h0 : t < 0
      · simp only [h0, if_true, decide_true, cond_true, show decide ((-1 : Int) < 0) = true from rfl]; rfl
      · have h1 : t.toNat < x.n := by rcases ht with ht | ht <;> omega
        have h2 : ¬ (x.f t.toNat).Epoch < 0 := by have := he _ h1; omega
        simp only [h0, if_false, decide_false, cond_false, h2]
        cases (x.f t.toNat).Up <;> rfl
    · rw [says_run]
      simp only [Sum.elim_inr]
      rfl
  · unfold F_impl_verdict_B0 verdEnd
    simp only [Int.ofNat_lt, Nat.lt_irrefl, decide_false, cond_false]
    cases decide (IntKind.wrap .i64 (2 * s.1) > (m : Int)) <;> cases decide (IntKind.wrap .i64 (2 * s.2) > (m : Int)) <;> rfl

theorem verdsf_good {x : Sl S_impl_Verdict} (h : (verdsf x != 0) = false) : x.n ≤ 60 ∧ ∀ i, i < x.n → 0 ≤ (x.f i).Epoch := by
  unfold verdsf at h
  by_cases h6 : 60 < x.n
  · simp [h6] at h
  · simp only [h6, decide_false, cond_false] at h
    cases ha : allb x.n (fun i => verdOk (x.f i)) with
    | false => rw [ha] at h; simp at h
    | true =>
      refine ⟨by omega, fun i hi => ?_⟩
      have := allb_iff.1 ha i hi
      unfold verdOk rng at this
      simp only [Bool.and_eq_true, decide_eq_true_eq] at this
      exact this.2.2.1
theorem e_VerdictS {fu : Nat} (hf : 2000000 ≤ fu) (x : Sl S_impl_Verdict) (hx : x.n ≤ 1048576) : F_laws_eqVerdictS fu x x = some true := by
  unfold F_laws_eqVerdictS
  simp only [bne_self_eq_false, cond_false]
  refine eqL x.n (by omega) (fun i go hi => ?_) (fun go => ?_)
  · unfold F_laws_eqVerdictS_B0 F_laws_eqVerdict
    simp [hi, wsucc (show i < 4611686018427387904 by omega)]
  · unfold F_laws_eqVerdictS_B0; simp
end Go.Proofs.Ytmnbmponjhglcaa.Pe
