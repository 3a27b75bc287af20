/- Plain laws of the log: CommonOf, LogFault, FitsAt, UpToDate. Conditions: none. -/
import Derived.Test.YtjdgfkmiaikegaaPdPlLog
namespace Go.Proofs.Ytjdgfkmiaikegaa.Pd
open Go Go.RowKit Go.Proofs Vm
set_option linter.unusedVariables false
set_option linter.unusedSimpArgs false
set_option maxRecDepth 100000

/-- Are two entries the same? -/
def eqE (x y : S_impl_Entry) : Bool := (x.Term == y.Term) && ((x.Client == y.Client) && ((x.Seq == y.Seq) && ((x.Cmd.Kind == y.Cmd.Kind) && ((x.Cmd.Expect == y.Cmd.Expect) && ((x.Cmd.Name == y.Cmd.Name) && ((x.Cmd.Addr == y.Cmd.Addr) && ((x.Cmd.Number == y.Cmd.Number) && ((x.Cmd.Proto == y.Cmd.Proto) && true))))))))

def comAt (x y : Sl S_impl_Entry) (i : Nat) : Option Nat := bif eqE (x.f i) (y.f i) then none else some i
/-- How many entries of both are the same, from the first on. -/
def common (x y : Sl S_impl_Entry) : Nat := (scan (comAt x y) (min x.n y.n) 0).getD (min x.n y.n)

/-- Has a good log an entry of an index and a term? -/
def fitl (x : Sl S_impl_Entry) (i t : Int) : Bool := bif i == 0 then t == 0 else bif rng i 1 (x.n : Int) then (x.f (Int.toNat (i - 1))).Term == t else false
/-- The last entry. -/
def lastE (x : Sl S_impl_Entry) : S_impl_Entry := if x.n = 0 then d_Entry else x.f (x.n - 1)
theorem s_LastOf (fu : Nat) (x : Sl S_impl_Entry) (hx : x.n ≤ 1048576) : F_spec_LastOf fu x = some (lastE x) := by
  unfold F_spec_LastOf lastE
  by_cases h : x.n = 0
  · simp [h, d_Entry, d_Cmd]
  · have h1 : ((x.n : Int) == 0) = false := by simpa using h
    have h2 : x.n - 1 < x.n := by omega
    simp only [h1, cond_false, wpred (show 0 < x.n by omega) (show x.n < 4611686018427387904 by omega), Int.toNat_natCast, Int.natCast_nonneg, h2, decide_true, Bool.and_self, cond_true, Option.bind_some, if_neg h]
theorem i_last (fu : Nat) (x : Sl S_impl_Entry) (hx : x.n ≤ 1048576) : F_impl_last fu x = some (lastE x) := by rw [← s_LastOf fu x hx]; rfl
def upto (x : Sl S_impl_Entry) (i t : Int) : Bool := bif decide (t > (lastE x).Term) then true else bif t == (lastE x).Term then decide (i ≥ (x.n : Int)) else false
/-! ### The laws -/

def plainFuel : Nat := 2000000
theorem pf : 2000000 ≤ plainFuel := Nat.le_refl _

/-- What a slice's length takes of a number. -/
theorem sz_cut {left : Int} {n : Nat} (h0 : 0 ≤ left) (h1 : left ≤ 1048576) (hn : n ≤ maxLen) {y : Int} (hy : (if IntKind.wrap .i64 (left - (n : Int)) < 0 then (-1 : Int) else IntKind.wrap .i64 (left - (n : Int))) = y) (h : ¬ y < 0) : y = left - n ∧ (n : Int) ≤ left := by
  simp only [maxLen] at hn
  rw [wrap64 (by omega) (by omega)] at hy
  split at hy <;> omega

end Go.Proofs.Ytjdgfkmiaikegaa.Pd
