/-
  No cell of these rows narrows 'for every input' (looked for: loops, veiled, ifaces, maps, wideKeys, modest, calm, conditions, laid).
  DERIVED. THE GIVEN ROWS OF THIS SEAT. 4 by the template 'for every input the law returns true; each argument reads behind the call as it read before'; 0 by the template 'total and deterministic' (their statements: YtmnbmponjhglcaaTotals.lean).
  GIVEN WITH THE SEED: the statements are not yours to turn. If you find one false, say at which input.
  Laid BY PROGRAM, IN A SANDBOX (cutbox-rows.mjs): the forced cells as the released guide's own fill.sh prints them over the translation b8fab88b69524f0c… (all of the seat's roots in one cut). By AI agents, Wed Nov 11 2026. No macro, syntax, notation, axiom, sorry.
-/
import Derived.Test.YtmnbmponjhglcaaChecked
import GoSem.Claim
import GoSem.ClaimJoined
import GoSem.ClaimMapViews
import Derived.JoinedTies
import Derived.KernelRfl
namespace Go.Proofs.Ytmnbmponjhglcaa
/- THE CELL 'sum', in the pinned program and in every row, IS THE sha256 OF THE DUMP (.gsa) THAT YtmnbmponjhglcaaProg.lean LOADS. Nothing in Lean hashes anything: it is a label: what it is worth is what the hold of that sum in a sandbox is worth. -/
noncomputable def Try.pinned : Pinned := { name := "ytmnbmponjhglcaa", sum := "b8fab88b69524f0cf2a1e81cdcef06be1d497142cfde741a6b1be988668d260f", checked := Try.checked }
namespace Rows
def none {H : Type} : Left H := { results := [], args := [] }

/-- 'laws.FnExactAgreedOf': WHATEVER THE INPUT: true; the input reads as it did. -/
def fnExactAgreedOfSpec : ChangeSpec := { name := "fnExactAgreedOf", fn := fun _ => fun
  | [d] => { results := [.lit (.bool true)], args := [d] }
  | _ => none }
def fnExactAgreedOfRow : OpenClaim := { program := "ytmnbmponjhglcaa", sum := "b8fab88b69524f0cf2a1e81cdcef06be1d497142cfde741a6b1be988668d260f", func := "loop.example/g00222/laws.FnExactAgreedOf", spec := "fnExactAgreedOf", unfollowed := true, recurses := true, apart := false }
def FnExactAgreedOfSaid : Prop := fnExactAgreedOfRow.holds Try.pinned (OpenSpec.ofChange fnExactAgreedOfSpec)

/-- ITS FALSE NEIGHBOUR: 'it returns false'. Refute it at one input. -/
def fnExactAgreedOfWrong : ChangeSpec := { name := "fnExactAgreedOf", fn := fun _ => fun
  | [d] => { results := [.lit (.bool false)], args := [d] }
  | _ => none }
def FnExactAgreedOfWrongFalsely : Prop := fnExactAgreedOfRow.holds Try.pinned (OpenSpec.ofChange fnExactAgreedOfWrong)

/-- 'laws.FnExactUpCmds': WHATEVER THE INPUT: true; the input reads as it did. -/
def fnExactUpCmdsSpec : ChangeSpec := { name := "fnExactUpCmds", fn := fun _ => fun
  | [d1, d2, d3] => { results := [.lit (.bool true)], args := [d1, d2, d3] }
  | _ => none }
def fnExactUpCmdsRow : OpenClaim := { program := "ytmnbmponjhglcaa", sum := "b8fab88b69524f0cf2a1e81cdcef06be1d497142cfde741a6b1be988668d260f", func := "loop.example/g00222/laws.FnExactUpCmds", spec := "fnExactUpCmds", unfollowed := true, recurses := true, apart := false }
def FnExactUpCmdsSaid : Prop := fnExactUpCmdsRow.holds Try.pinned (OpenSpec.ofChange fnExactUpCmdsSpec)

/-- ITS FALSE NEIGHBOUR: 'it returns false'. Refute it at one input. -/
def fnExactUpCmdsWrong : ChangeSpec := { name := "fnExactUpCmds", fn := fun _ => fun
  | [d1, d2, d3] => { results := [.lit (.bool false)], args := [d1, d2, d3] }
  | _ => none }
def FnExactUpCmdsWrongFalsely : Prop := fnExactUpCmdsRow.holds Try.pinned (OpenSpec.ofChange fnExactUpCmdsWrong)

/-- 'laws.FnExactFullUpdate': WHATEVER THE INPUT: true; the input reads as it did. -/
def fnExactFullUpdateSpec : ChangeSpec := { name := "fnExactFullUpdate", fn := fun _ => fun
  | [d] => { results := [.lit (.bool true)], args := [d] }
  | _ => none }
def fnExactFullUpdateRow : OpenClaim := { program := "ytmnbmponjhglcaa", sum := "b8fab88b69524f0cf2a1e81cdcef06be1d497142cfde741a6b1be988668d260f", func := "loop.example/g00222/laws.FnExactFullUpdate", spec := "fnExactFullUpdate", unfollowed := true, recurses := true, apart := false }
def FnExactFullUpdateSaid : Prop := fnExactFullUpdateRow.holds Try.pinned (OpenSpec.ofChange fnExactFullUpdateSpec)

/-- ITS FALSE NEIGHBOUR: 'it returns false'. Refute it at one input. -/
def fnExactFullUpdateWrong : ChangeSpec := { name := "fnExactFullUpdate", fn := fun _ => fun
  | [d] => { results := [.lit (.bool false)], args := [d] }
  | _ => none }
def FnExactFullUpdateWrongFalsely : Prop := fnExactFullUpdateRow.holds Try.pinned (OpenSpec.ofChange fnExactFullUpdateWrong)

/-- 'laws.FnExactMayGo': WHATEVER THE INPUT: true; the input reads as it did. -/
def fnExactMayGoSpec : ChangeSpec := { name := "fnExactMayGo", fn := fun _ => fun
  | [d1, d2, d3, d4] => { results := [.lit (.bool true)], args := [d1, d2, d3, d4] }
  | _ => none }
def fnExactMayGoRow : OpenClaim := { program := "ytmnbmponjhglcaa", sum := "b8fab88b69524f0cf2a1e81cdcef06be1d497142cfde741a6b1be988668d260f", func := "loop.example/g00222/laws.FnExactMayGo", spec := "fnExactMayGo", unfollowed := true, recurses := true, apart := false }
def FnExactMayGoSaid : Prop := fnExactMayGoRow.holds Try.pinned (OpenSpec.ofChange fnExactMayGoSpec)

/-- ITS FALSE NEIGHBOUR: 'it returns false'. Refute it at one input. -/
def fnExactMayGoWrong : ChangeSpec := { name := "fnExactMayGo", fn := fun _ => fun
  | [d1, d2, d3, d4] => { results := [.lit (.bool false)], args := [d1, d2, d3, d4] }
  | _ => none }
def FnExactMayGoWrongFalsely : Prop := fnExactMayGoRow.holds Try.pinned (OpenSpec.ofChange fnExactMayGoWrong)

/- THE SECOND FORM. 'bulk': how many values and letters a reading holds, each counted each time it is reached (what is shared counts as often as it is met; a slice's spare places count too). A statement '..UptoSaid' is the law's where the arguments, and the package variables that the reading takes, are together of bulk at most 1048576: NARROWER than '..Said'. Prove '..Said' where nothing that the law and all that it calls make is longer than what came in: it says more and counts as full. Else prove '..UptoSaid'. A law counts once. -/
mutual
def uptoBulk {H : Type} : DataW H → Nat
  | .lit (.string bytes) => bytes.length + 1
  | .lit _ => 1
  | .nil => 1
  | .ptr d => uptoBulk d + 1
  | .slice elems spare => uptoBulkAll elems + uptoBulkAll spare + 1
  | .agg parts => uptoBulkAll parts + 1
  | .iface _ d => uptoBulk d + 1
  | .map entries => uptoBulkEntries entries + 1
  | .held _ => 1
def uptoBulkAll {H : Type} : List (DataW H) → Nat
  | [] => 0
  | d :: r => uptoBulk d + uptoBulkAll r
def uptoBulkEntries {H : Type} : List (Lit × DataW H) → Nat
  | [] => 0
  | x :: r => uptoBulkEntry x + uptoBulkEntries r
def uptoBulkEntry {H : Type} : Lit × DataW H → Nat
  | (.string bytes, d) => bytes.length + uptoBulk d + 1
  | (_, d) => uptoBulk d + 1
 end
def uptoSmall : (H : Type) → List (DataW H) → Bool := fun _ ds => decide (uptoBulkAll ds ≤ 1048576)
def OpenSpec.upto (s : _root_.Go.ChangeSpec) : _root_.Go.OpenSpec := { _root_.Go.OpenSpec.ofChange s with cond := some uptoSmall }

/-- 'laws.FnExactAgreedOf', WHERE WHAT IT READS IS OF BULK AT MOST 1048576: true; the input reads as it did. -/
def fnExactAgreedOfUptoRow : OpenClaim := { program := "ytmnbmponjhglcaa", sum := "b8fab88b69524f0cf2a1e81cdcef06be1d497142cfde741a6b1be988668d260f", func := "loop.example/g00222/laws.FnExactAgreedOf", spec := "fnExactAgreedOf", unfollowed := true, recurses := true, apart := false, narrowed := true }
def FnExactAgreedOfUptoSaid : Prop := fnExactAgreedOfUptoRow.holds Try.pinned (OpenSpec.upto fnExactAgreedOfSpec)

/-- 'laws.FnExactUpCmds', WHERE WHAT IT READS IS OF BULK AT MOST 1048576: true; the input reads as it did. -/
def fnExactUpCmdsUptoRow : OpenClaim := { program := "ytmnbmponjhglcaa", sum := "b8fab88b69524f0cf2a1e81cdcef06be1d497142cfde741a6b1be988668d260f", func := "loop.example/g00222/laws.FnExactUpCmds", spec := "fnExactUpCmds", unfollowed := true, recurses := true, apart := false, narrowed := true }
def FnExactUpCmdsUptoSaid : Prop := fnExactUpCmdsUptoRow.holds Try.pinned (OpenSpec.upto fnExactUpCmdsSpec)

/-- 'laws.FnExactFullUpdate', WHERE WHAT IT READS IS OF BULK AT MOST 1048576: true; the input reads as it did. -/
def fnExactFullUpdateUptoRow : OpenClaim := { program := "ytmnbmponjhglcaa", sum := "b8fab88b69524f0cf2a1e81cdcef06be1d497142cfde741a6b1be988668d260f", func := "loop.example/g00222/laws.FnExactFullUpdate", spec := "fnExactFullUpdate", unfollowed := true, recurses := true, apart := false, narrowed := true }
def FnExactFullUpdateUptoSaid : Prop := fnExactFullUpdateUptoRow.holds Try.pinned (OpenSpec.upto fnExactFullUpdateSpec)

/-- 'laws.FnExactMayGo', WHERE WHAT IT READS IS OF BULK AT MOST 1048576: true; the input reads as it did. -/
def fnExactMayGoUptoRow : OpenClaim := { program := "ytmnbmponjhglcaa", sum := "b8fab88b69524f0cf2a1e81cdcef06be1d497142cfde741a6b1be988668d260f", func := "loop.example/g00222/laws.FnExactMayGo", spec := "fnExactMayGo", unfollowed := true, recurses := true, apart := false, narrowed := true }
def FnExactMayGoUptoSaid : Prop := fnExactMayGoUptoRow.holds Try.pinned (OpenSpec.upto fnExactMayGoSpec)

end Rows
end Go.Proofs.Ytmnbmponjhglcaa
