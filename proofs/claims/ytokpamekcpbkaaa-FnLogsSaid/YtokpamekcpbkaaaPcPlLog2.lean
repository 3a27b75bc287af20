/- Plain laws of the log: CommonOf, LogFault, FitsAt, UpToDate. Conditions: none. -/
import Derived.Test.YtokpamekcpbkaaaPcPlLog
namespace Go.Proofs.Ytokpamekcpbkaaa.Pc
open Go Go.RowKit Go.Proofs Vm
set_option linter.unusedVariables false
set_option linter.unusedSimpArgs false
set_option maxRecDepth 100000

/-- Are two entries the same? -/
def eqE (x y : S_impl_Entry) : Bool := (x.Term == y.Term) && ((x.Client == y.Client) && ((x.Seq == y.Seq) && ((x.Cmd.Kind == y.Cmd.Kind) && ((x.Cmd.Expect == y.Cmd.Expect) && ((x.Cmd.Name == y.Cmd.Name) && ((x.Cmd.Addr == y.Cmd.Addr) && ((x.Cmd.Number == y.Cmd.Number) && ((x.Cmd.Proto == y.Cmd.Proto) && true))))))))

def comAt (x y : Sl S_impl_Entry) (i : Nat) : Option Nat := bif eqE (x.f i) (y.f i) then none else some i
/-- How many entries of both are the same, from the first on. -/
def common (x y : Sl S_impl_Entry) : Nat := (scan (comAt x y) (min x.n y.n) 0).getD (min x.n y.n)

theorem i_CommonOf {fu : Nat} (hf : 2000000 ≤ fu) (x y : Sl S_impl_Entry) (hx : x.n ≤ 1048576) : F_impl_CommonOf fu x y = some ((common x y : Nat) : Int) := by
  unfold F_impl_CommonOf common
  have hm : minInt (x.n : Int) (y.n : Int) = ((min x.n y.n : Nat) : Int) := by
    unfold minInt
    by_cases h : (y.n : Int) < (x.n : Int)
    · simp only [h, decide_true, cond_true]; omega
    · simp only [h, decide_false, cond_false]; omega
  have h := L_scan (B := fun w0 go0 => F_impl_CommonOf_B0 fu x y (fun z17 => (some z17)) w0 go0) (fun i => (i : Int)) (min x.n y.n) (comAt x y) (fun c => some (c : Int)) (some ((min x.n y.n : Nat) : Int))
    (fun i go hi => by
      have h1 : i < x.n := by omega
      have h2 : i < y.n := by omega
      unfold F_impl_CommonOf_B0 comAt
      simp only [hm, Int.toNat_natCast, Int.natCast_nonneg, Int.ofNat_lt, hi, h1, h2, decide_true, Bool.and_self, cond_true, Option.bind_some, wsucc (show i < 4611686018427387904 by omega)]
      show (bif eqE (x.f i) (y.f i) then _ else _) = _
      cases eqE (x.f i) (y.f i) <;> rfl)
    (fun go => by
      unfold F_impl_CommonOf_B0
      simp only [hm, Int.ofNat_lt, Nat.lt_irrefl, decide_false, cond_false, Option.bind_some]) (min x.n y.n) 0 fu (by omega) (by omega)
  rw [show ((0 : Nat) : Int) = 0 from rfl] at h
  rw [h]
  cases scan (comAt x y) (min x.n y.n) 0 <;> rfl

/-- Has a good log an entry of an index and a term? -/
def fitl (x : Sl S_impl_Entry) (i t : Int) : Bool := bif i == 0 then t == 0 else bif rng i 1 (x.n : Int) then (x.f (Int.toNat (i - 1))).Term == t else false
theorem s_fits (fu : Nat) (x : Sl S_impl_Entry) (i t : Int) (hx : x.n ≤ 1048576) : F_spec_l7Fits fu x i t = some (fitl x i t) := by
  unfold F_spec_l7Fits fitl
  simp only [p_l1In, Option.bind_some]
  cases (i == 0) with
  | true => rfl
  | false =>
    simp only [cond_false]
    by_cases h : rng i 1 (x.n : Int) = true
    · have h' := h
      unfold rng at h
      simp only [Bool.and_eq_true, decide_eq_true_eq] at h
      rw [h', wrap64 (by omega) (by omega)]
      have h1 : 0 ≤ i - 1 := by omega
      have h2 : (i - 1).toNat < x.n := by omega
      simp only [h1, h2, decide_true, Bool.and_self, cond_true, Option.bind_some]
    · have h' : rng i 1 (x.n : Int) = false := by simpa using h
      simp only [h', cond_false, Option.bind_some]
theorem i_fits (fu : Nat) (x : Sl S_impl_Entry) (i t : Int) (hx : x.n ≤ 1048576) : F_impl_fits fu x i t = some (fitl x i t) := by
  rw [← s_fits fu x i t hx]
  unfold F_spec_l7Fits F_impl_fits F_impl_size_impl_Entry
  simp only [p_l1In, p_in, Option.bind_some]
theorem i_FitsAt {fu : Nat} (hf : 2000000 ≤ fu) (x : Sl S_impl_Entry) (i t : Int) : F_impl_FitsAt fu x i t = some (logf x == 0 && fitl x i t) := by
  unfold F_impl_FitsAt
  simp only [i_LogFault hf, Option.bind_some]
  cases h : (logf x == 0) with
  | false => rfl
  | true => simp only [cond_true, i_fits fu x i t (by have := logf_len (x := x) (by simpa using h); omega), Option.bind_some, Bool.true_and]

/-- The last entry. -/
def lastE (x : Sl S_impl_Entry) : S_impl_Entry := if x.n = 0 then d_Entry else x.f (x.n - 1)
def upto (x : Sl S_impl_Entry) (i t : Int) : Bool := bif decide (t > (lastE x).Term) then true else bif t == (lastE x).Term then decide (i ≥ (x.n : Int)) else false
/-! ### The laws -/

def plainFuel : Nat := 2000000
theorem pf : 2000000 ≤ plainFuel := Nat.le_refl _

/-- What a slice's length takes of a number. -/
theorem sz_cut {left : Int} {n : Nat} (h0 : 0 ≤ left) (h1 : left ≤ 1048576) (hn : n ≤ maxLen) {y : Int} (hy : (if IntKind.wrap .i64 (left - (n : Int)) < 0 then (-1 : Int) else IntKind.wrap .i64 (left - (n : Int))) = y) (h : ¬ y < 0) : y = left - n ∧ (n : Int) ≤ left := by
  simp only [maxLen] at hn
  rw [wrap64 (by omega) (by omega)] at hy
  split at hy <;> omega

end Go.Proofs.Ytokpamekcpbkaaa.Pc
