/- Plain laws of the log: CommonOf, LogFault, FitsAt, UpToDate. Conditions: none. -/
import Derived.Test.YtbcggnoogkfgkaaPcPlLog
namespace Go.Proofs.Ytbcggnoogkfgkaa.Pc
open Go Go.RowKit Go.Proofs Vm
set_option linter.unusedVariables false
set_option linter.unusedSimpArgs false
set_option maxRecDepth 100000

/-- Are two entries the same? -/
def eqE (x y : S_impl_Entry) : Bool := (x.Term == y.Term) && ((x.Client == y.Client) && ((x.Seq == y.Seq) && ((x.Cmd.Kind == y.Cmd.Kind) && ((x.Cmd.Expect == y.Cmd.Expect) && ((x.Cmd.Name == y.Cmd.Name) && ((x.Cmd.Addr == y.Cmd.Addr) && ((x.Cmd.Number == y.Cmd.Number) && ((x.Cmd.Proto == y.Cmd.Proto) && true))))))))

def comAt (x y : Sl S_impl_Entry) (i : Nat) : Option Nat := bif eqE (x.f i) (y.f i) then none else some i
/-- How many entries of both are the same, from the first on. -/
def common (x y : Sl S_impl_Entry) : Nat := (scan (comAt x y) (min x.n y.n) 0).getD (min x.n y.n)

theorem s_CommonOf {fu : Nat} (hf : 2000000 ≤ fu) (x y : Sl S_impl_Entry) (hx : x.n ≤ 1048576) : F_spec_CommonOf fu x y = some ((common x y : Nat) : Int) := by
  unfold F_spec_CommonOf common
  have h := L_scan (B := fun w0 go0 => F_spec_CommonOf_B0 fu x y (fun z17 => (some z17)) w0 go0) (fun i => (i : Int)) (min x.n y.n) (comAt x y) (fun c => some (c : Int)) (some ((min x.n y.n : Nat) : Int))
    (fun i go hi => by
      have h1 : i < x.n := by omega
      have h2 : i < y.n := by omega
      unfold F_spec_CommonOf_B0 comAt
      simp only [Int.toNat_natCast, Int.natCast_nonneg, Int.ofNat_lt, h1, h2, decide_true, Bool.and_self, cond_true, Option.bind_some, wsucc (show i < 4611686018427387904 by omega)]
      show (bif eqE (x.f i) (y.f i) then _ else _) = _
      cases eqE (x.f i) (y.f i) <;> rfl)
    (fun go => by
      unfold F_spec_CommonOf_B0
      simp only [Int.ofNat_lt]
      by_cases h1 : min x.n y.n < x.n
      · have h2 : ¬ min x.n y.n < y.n := by omega
        simp only [h1, h2, decide_true, decide_false, cond_true, cond_false, Option.bind_some]
      · simp only [h1, decide_false, cond_false, Option.bind_some]) (min x.n y.n) 0 fu (by omega) (by omega)
  rw [show ((0 : Nat) : Int) = 0 from rfl] at h
  rw [h]
  cases scan (comAt x y) (min x.n y.n) 0 <;> rfl

theorem i_CommonOf {fu : Nat} (hf : 2000000 ≤ fu) (x y : Sl S_impl_Entry) (hx : x.n ≤ 1048576) : F_impl_CommonOf fu x y = some ((common x y : Nat) : Int) := by
  unfold F_impl_CommonOf common
  have hm : minInt (x.n : Int) (y.n : Int) = ((min x.n y.n : Nat) : Int) := by
    unfold minInt
    by_cases h : (y.n : Int) < (x.n : Int)
    · simp only [h, decide_true, cond_true]; omega
    · simp only [h, decide_false, cond_false]; omega
  have h := L_scan (B := fun w0 go0 => F_impl_CommonOf_B0 fu x y (fun z17 => (some z17)) w0 go0) (fun i => (i : Int)) (min x.n y.n) (comAt x y) (fun c => some (c : Int)) (some ((min x.n y.n : Nat) : Int))
    (fun i go hi => by
      have h1 : i < x.n := by omega
      have h2 : i < y.n := by omega
      unfold F_impl_CommonOf_B0 comAt
      simp only [hm, Int.toNat_natCast, Int.natCast_nonneg, Int.ofNat_lt, hi, h1, h2, decide_true, Bool.and_self, cond_true, Option.bind_some, wsucc (show i < 4611686018427387904 by omega)]
      show (bif eqE (x.f i) (y.f i) then _ else _) = _
      cases eqE (x.f i) (y.f i) <;> rfl)
    (fun go => by
      unfold F_impl_CommonOf_B0
      simp only [hm, Int.ofNat_lt, Nat.lt_irrefl, decide_false, cond_false, Option.bind_some]) (min x.n y.n) 0 fu (by omega) (by omega)
  rw [show ((0 : Nat) : Int) = 0 from rfl] at h
  rw [h]
  cases scan (comAt x y) (min x.n y.n) 0 <;> rfl

/-- Has a good log an entry of an index and a term? -/
def fitl (x : Sl S_impl_Entry) (i t : Int) : Bool := bif i == 0 then t == 0 else bif rng i 1 (x.n : Int) then (x.f (Int.toNat (i - 1))).Term == t else false
theorem s_fits (fu : Nat) (x : Sl S_impl_Entry) (i t : Int) (hx : x.n ≤ 1048576) : F_spec_l7Fits fu x i t = some (fitl x i t) := by
  unfold F_spec_l7Fits fitl
  simp only [p_l1In, Option.bind_some]
  cases (i == 0) with
  | true => rfl
  | false =>
    simp only [cond_false]
    by_cases h : rng i 1 (x.n : Int) = true
    · have h' := h
      unfold rng at h
      simp only [Bool.and_eq_true, decide_eq_true_eq] at h
      rw [h', wrap64 (by omega) (by omega)]
      have h1 : 0 ≤ i - 1 := by omega
      have h2 : (i - 1).toNat < x.n := by omega
      simp only [h1, h2, decide_true, Bool.and_self, cond_true, Option.bind_some]
    · have h' : rng i 1 (x.n : Int) = false := by simpa using h
      simp only [h', cond_false, Option.bind_some]
theorem i_fits (fu : Nat) (x : Sl S_impl_Entry) (i t : Int) (hx : x.n ≤ 1048576) : F_impl_fits fu x i t = some (fitl x i t) := by
  rw [← s_fits fu x i t hx]
  unfold F_spec_l7Fits F_impl_fits F_impl_size_impl_Entry
  simp only [p_l1In, p_in, Option.bind_some]
theorem s_FitsAt {fu : Nat} (hf : 2000000 ≤ fu) (x : Sl S_impl_Entry) (i t : Int) : F_spec_FitsAt fu x i t = some (logf x == 0 && fitl x i t) := by
  unfold F_spec_FitsAt
  simp only [s_LogFault hf, Option.bind_some]
  cases h : (logf x == 0) with
  | false => rfl
  | true => simp only [cond_true, s_fits fu x i t (by have := logf_len (x := x) (by simpa using h); omega), Option.bind_some, Bool.true_and]
theorem i_FitsAt {fu : Nat} (hf : 2000000 ≤ fu) (x : Sl S_impl_Entry) (i t : Int) : F_impl_FitsAt fu x i t = some (logf x == 0 && fitl x i t) := by
  unfold F_impl_FitsAt
  simp only [i_LogFault hf, Option.bind_some]
  cases h : (logf x == 0) with
  | false => rfl
  | true => simp only [cond_true, i_fits fu x i t (by have := logf_len (x := x) (by simpa using h); omega), Option.bind_some, Bool.true_and]

/-- The last entry. -/
def lastE (x : Sl S_impl_Entry) : S_impl_Entry := if x.n = 0 then d_Entry else x.f (x.n - 1)
theorem s_LastOf (fu : Nat) (x : Sl S_impl_Entry) (hx : x.n ≤ 1048576) : F_spec_LastOf fu x = some (lastE x) := by
  unfold F_spec_LastOf lastE
  by_cases h : x.n = 0
  · simp [h, d_Entry, d_Cmd]
  · have h1 : ((x.n : Int) == 0) = false := by simpa using h
    have h2 : x.n - 1 < x.n := by omega
    simp only [h1, cond_false, wpred (show 0 < x.n by omega) (show x.n < 4611686018427387904 by omega), Int.toNat_natCast, Int.natCast_nonneg, h2, decide_true, Bool.and_self, cond_true, Option.bind_some, if_neg h]
theorem i_last (fu : Nat) (x : Sl S_impl_Entry) (hx : x.n ≤ 1048576) : F_impl_last fu x = some (lastE x) := by rw [← s_LastOf fu x hx]; rfl
def upto (x : Sl S_impl_Entry) (i t : Int) : Bool := bif decide (t > (lastE x).Term) then true else bif t == (lastE x).Term then decide (i ≥ (x.n : Int)) else false
theorem s_upto (fu : Nat) (x : Sl S_impl_Entry) (i t : Int) (hx : x.n ≤ 1048576) : F_spec_l7UpToDate fu x i t = some (upto x i t) := by
  unfold F_spec_l7UpToDate upto
  simp only [s_LastOf fu x hx, Option.bind_some]
  cases decide (t > (lastE x).Term) <;> cases (t == (lastE x).Term) <;> rfl
theorem i_upto (fu : Nat) (x : Sl S_impl_Entry) (i t : Int) (hx : x.n ≤ 1048576) : F_impl_upToDate fu x i t = some (upto x i t) := by
  unfold F_impl_upToDate upto F_impl_size_impl_Entry
  simp only [i_last fu x hx, Option.bind_some]
  cases decide (t > (lastE x).Term) <;> cases (t == (lastE x).Term) <;> rfl
theorem s_UpToDate {fu : Nat} (hf : 2000000 ≤ fu) (x : Sl S_impl_Entry) (i t : Int) : F_spec_UpToDate fu x i t = some (logf x == 0 && upto x i t) := by
  unfold F_spec_UpToDate
  simp only [s_LogFault hf, Option.bind_some]
  cases h : (logf x == 0) with
  | false => rfl
  | true => simp only [cond_true, s_upto fu x i t (by have := logf_len (x := x) (by simpa using h); omega), Option.bind_some, Bool.true_and]
theorem i_UpToDate {fu : Nat} (hf : 2000000 ≤ fu) (x : Sl S_impl_Entry) (i t : Int) : F_impl_UpToDate fu x i t = some (logf x == 0 && upto x i t) := by
  unfold F_impl_UpToDate
  simp only [i_LogFault hf, Option.bind_some]
  cases h : (logf x == 0) with
  | false => rfl
  | true => simp only [cond_true, i_upto fu x i t (by have := logf_len (x := x) (by simpa using h); omega), Option.bind_some, Bool.true_and]

/-! ### The laws -/

def plainFuel : Nat := 2000000
theorem pf : 2000000 ≤ plainFuel := Nat.le_refl _

/-- What a slice's length takes of a number. -/
theorem sz_cut {left : Int} {n : Nat} (h0 : 0 ≤ left) (h1 : left ≤ 1048576) (hn : n ≤ maxLen) {y : Int} (hy : (if IntKind.wrap .i64 (left - (n : Int)) < 0 then (-1 : Int) else IntKind.wrap .i64 (left - (n : Int))) = y) (h : ¬ y < 0) : y = left - n ∧ (n : Int) ≤ left := by
  simp only [maxLen] at hn
  rw [wrap64 (by omega) (by omega)] at hy
  split at hy <;> omega

theorem plain_FnExactEntryFault (x : S_laws_Entry) {p : Prop} (w : p) : F_laws_FnExactEntryFault plainFuel x = some true := law_EntryFault _ x

theorem plain_FnExactLogFault (x : Sl S_laws_Entry) {p : Prop} (w : x.n ≤ maxLen ∧ p) : F_laws_FnExactLogFault plainFuel x = some true := by
  unfold F_laws_FnExactLogFault
  simp only [sz_EntryS, Option.bind_some]
  generalize hy : (if IntKind.wrap .i64 (1048576 - (x.n : Int)) < 0 then (-1 : Int) else IntKind.wrap .i64 (1048576 - (x.n : Int))) = y
  by_cases h : y < 0
  · simp [h]
  · obtain ⟨_, hx⟩ := sz_cut (by omega) (by omega) w.1 hy h
    have hx : x.n ≤ 1048576 := by omega
    simp only [h, decide_false, cond_false, t_EntryS pf x hx, s_LogFault pf, i_LogFault pf, Option.bind_some, e_EntryS pf (cp toE d_Entry x) hx]
    simp

theorem plain_FnExactFitsAt (x : Sl S_laws_Entry) (i t : Int) {p q r : Prop} (w : x.n ≤ maxLen ∧ p) (wi : q) (wt : r) : F_laws_FnExactFitsAt plainFuel x i t = some true := by
  unfold F_laws_FnExactFitsAt
  simp only [sz_EntryS, Option.bind_some]
  generalize hy : (if IntKind.wrap .i64 (1048576 - (x.n : Int)) < 0 then (-1 : Int) else IntKind.wrap .i64 (1048576 - (x.n : Int))) = y
  by_cases h : y < 0
  · simp [h]
  · obtain ⟨_, hx⟩ := sz_cut (by omega) (by omega) w.1 hy h
    have hx : x.n ≤ 1048576 := by omega
    simp only [h, decide_false, cond_false, t_EntryS pf x hx, s_FitsAt pf, i_FitsAt pf, Option.bind_some, e_EntryS pf (cp toE d_Entry x) hx]
    simp

theorem plain_FnExactUpToDate (x : Sl S_laws_Entry) (i t : Int) {p q r : Prop} (w : x.n ≤ maxLen ∧ p) (wi : q) (wt : r) : F_laws_FnExactUpToDate plainFuel x i t = some true := by
  unfold F_laws_FnExactUpToDate
  simp only [sz_EntryS, Option.bind_some]
  generalize hy : (if IntKind.wrap .i64 (1048576 - (x.n : Int)) < 0 then (-1 : Int) else IntKind.wrap .i64 (1048576 - (x.n : Int))) = y
  by_cases h : y < 0
  · simp [h]
  · obtain ⟨_, hx⟩ := sz_cut (by omega) (by omega) w.1 hy h
    have hx : x.n ≤ 1048576 := by omega
    simp only [h, decide_false, cond_false, t_EntryS pf x hx, s_UpToDate pf, i_UpToDate pf, Option.bind_some, e_EntryS pf (cp toE d_Entry x) hx]
    simp

theorem plain_FnExactCommonOf (x y : Sl S_laws_Entry) {p q : Prop} (w : x.n ≤ maxLen ∧ p) (w' : y.n ≤ maxLen ∧ q) : F_laws_FnExactCommonOf plainFuel x y = some true := by
  unfold F_laws_FnExactCommonOf
  simp only [sz_EntryS, Option.bind_some]
  generalize hz : (if IntKind.wrap .i64 (1048576 - (x.n : Int)) < 0 then (-1 : Int) else IntKind.wrap .i64 (1048576 - (x.n : Int))) = z
  by_cases h : z < 0
  · simp [h]
  · obtain ⟨e, hx⟩ := sz_cut (by omega) (by omega) w.1 hz h
    have hx : x.n ≤ 1048576 := by omega
    simp only [h, decide_false, cond_false]
    generalize hz' : (if IntKind.wrap .i64 (z - (y.n : Int)) < 0 then (-1 : Int) else IntKind.wrap .i64 (z - (y.n : Int))) = z'
    by_cases h' : z' < 0
    · simp [h']
    · obtain ⟨e', hy⟩ := sz_cut (by omega) (by omega) w'.1 hz' h'
      have hy : y.n ≤ 1048576 := by omega
      simp only [h', decide_false, cond_false, t_EntryS pf x hx, t_EntryS pf y hy, s_CommonOf pf (cp toE d_Entry x) _ hx, i_CommonOf pf (cp toE d_Entry x) _ hx, Option.bind_some, e_EntryS pf (cp toE d_Entry x) hx, e_EntryS pf (cp toE d_Entry y) hy]
      simp

end Go.Proofs.Ytbcggnoogkfgkaa.Pc
