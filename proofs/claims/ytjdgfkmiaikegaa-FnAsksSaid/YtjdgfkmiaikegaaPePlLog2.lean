/- Plain laws of the log: CommonOf, LogFault, FitsAt, UpToDate. Conditions: none. -/
import Derived.Test.YtjdgfkmiaikegaaPePlLog
namespace Go.Proofs.Ytjdgfkmiaikegaa.Pe
open Go Go.RowKit Go.Proofs Vm
set_option linter.unusedVariables false
set_option linter.unusedSimpArgs false
set_option maxRecDepth 100000
def lastE (x : Sl S_impl_Entry) : S_impl_Entry := if x.n = 0 then d_Entry else x.f (x.n - 1)
theorem s_LastOf (fu : Nat) (x : Sl S_impl_Entry) (hx : x.n ≤ 1048576) : F_spec_LastOf fu x = some (lastE x) := by
 unfold F_spec_LastOf lastE
 by_cases h : x.n = 0
 ·simp [h, d_Entry, d_Cmd]
 ·have h1 : ((x.n : Int) == 0) = false := by simpa using h
  have h2 : x.n - 1 < x.n := by omega
  simp only [h1, cond_false, wpred (show 0 < x.n by omega) (show x.n < 4611686018427387904 by omega), Int.toNat_natCast, Int.natCast_nonneg, h2, decide_true, Bool.and_self, cond_true, Option.bind_some, if_neg h]
theorem i_last (fu : Nat) (x : Sl S_impl_Entry) (hx : x.n ≤ 1048576) : F_impl_last fu x = some (lastE x) := by rw [← s_LastOf fu x hx]; rfl
def plainFuel : Nat := 2000000
theorem pf : 2000000 ≤ plainFuel := Nat.le_refl _
end Go.Proofs.Ytjdgfkmiaikegaa.Pe

