/- The pure law of FnExactHealthFault: the printed functions of the program and of the reference answer alike, for all arguments. -/
import Derived.Test.YtfmfjggghbgfaaaPFnExactHealthFaultx
import Derived.Test.YtfmfjggghbgfaaaTyFnExactHealthFault
namespace Go.Proofs.Ytfmfjggghbgfaaa.Pure
set_option linter.unusedSimpArgs false
open Go.RowKit Go.Proofs.Ytfmfjggghbgfaaa.PFnExactHealthFault Go.Proofs.YtfmfjggghbgfaaaW.PrintWords

theorem FnExactHealthFault (y : S23) : ∃ k, laws_FnExactHealthFault.f k y.f0 y.f1 y.f2 = some true := by
  obtain ⟨n, u, r⟩ := y
  refine ⟨5, ?_⟩
  show laws_FnExactHealthFault.f 5 n u r = some true
  have w3 : wrap64 2 = 2 := by simp [wrap64]
  have w2 : wrap64 1 = 1 := by simp [wrap64]
  simp only [laws_FnExactHealthFault.f, laws_toHealth.f, spec_HealthFault.f, impl_HealthFault.f, impl_HealthFault.j0, spec_l3Name.f, spec_l1In.f, spec_l12Bound.f, impl_isName.f, impl_in.f, Option.bind_some]
  cases u <;> by_cases h1 : n ≥ 1 <;> by_cases h2 : n ≤ 999 <;> by_cases h3 : r ≥ 0 <;> by_cases h4 : r ≤ 2 <;> by_cases h5 : r ≤ 1 <;> simp [h1, h2, h3, h4, h5, w3, w2]

end Go.Proofs.Ytfmfjggghbgfaaa.Pure
