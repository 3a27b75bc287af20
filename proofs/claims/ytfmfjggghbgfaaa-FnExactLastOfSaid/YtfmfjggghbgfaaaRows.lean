/-
  No cell of these rows narrows 'for every input' (looked for: loops, veiled, ifaces, maps, wideKeys, modest, calm, conditions, laid).
  DERIVED. THE GIVEN ROWS OF THIS SEAT. 12 by the template 'for every input the law returns true; each argument reads behind the call as it read before'; 0 by the template 'total and deterministic' (their statements: YtfmfjggghbgfaaaTotals.lean).
  GIVEN WITH THE SEED: the statements are not yours to turn. If you find one false, say at which input.
  Laid BY PROGRAM, IN A SANDBOX (cutbox-rows.mjs): the forced cells as the released guide's own fill.sh prints them over the translation 4e438af5d25c0f43… (all of the seat's roots in one cut). By AI agents, Wed Nov 11 2026. No macro, syntax, notation, axiom, sorry.
-/
import Derived.Test.YtfmfjggghbgfaaaChecked
import GoSem.Claim
import GoSem.ClaimJoined
import GoSem.ClaimMapViews
import Derived.JoinedTies
import Derived.KernelRfl
namespace Go.Proofs.Ytfmfjggghbgfaaa
/- THE CELL 'sum', in the pinned program and in every row, IS THE sha256 OF THE DUMP (.gsa) THAT YtfmfjggghbgfaaaProg.lean LOADS. Nothing in Lean hashes anything: it is a label: what it is worth is what the hold of that sum in a sandbox is worth. -/
noncomputable def Try.pinned : Pinned := { name := "ytfmfjggghbgfaaa", sum := "4e438af5d25c0f43a4ce80f75dcfd8aafe4ea62b1440f209b75de4ac92dd4f0c", checked := Try.checked }
namespace Rows
def none {H : Type} : Left H := { results := [], args := [] }

/-- 'laws.FnExactHealthFault': WHATEVER THE INPUT: true; the input reads as it did. -/
def fnExactHealthFaultSpec : ChangeSpec := { name := "fnExactHealthFault", fn := fun _ => fun
  | [d] => { results := [.lit (.bool true)], args := [d] }
  | _ => none }
def fnExactHealthFaultRow : OpenClaim := { program := "ytfmfjggghbgfaaa", sum := "4e438af5d25c0f43a4ce80f75dcfd8aafe4ea62b1440f209b75de4ac92dd4f0c", func := "loop.example/g00222/laws.FnExactHealthFault", spec := "fnExactHealthFault", apart := false }
def FnExactHealthFaultSaid : Prop := fnExactHealthFaultRow.holds Try.pinned (OpenSpec.ofChange fnExactHealthFaultSpec)

/-- ITS FALSE NEIGHBOUR: 'it returns false'. Refute it at one input. -/
def fnExactHealthFaultWrong : ChangeSpec := { name := "fnExactHealthFault", fn := fun _ => fun
  | [d] => { results := [.lit (.bool false)], args := [d] }
  | _ => none }
def FnExactHealthFaultWrongFalsely : Prop := fnExactHealthFaultRow.holds Try.pinned (OpenSpec.ofChange fnExactHealthFaultWrong)

/-- 'laws.FnExactVerdictsFault': WHATEVER THE INPUT: true; the input reads as it did. -/
def fnExactVerdictsFaultSpec : ChangeSpec := { name := "fnExactVerdictsFault", fn := fun _ => fun
  | [d] => { results := [.lit (.bool true)], args := [d] }
  | _ => none }
def fnExactVerdictsFaultRow : OpenClaim := { program := "ytfmfjggghbgfaaa", sum := "4e438af5d25c0f43a4ce80f75dcfd8aafe4ea62b1440f209b75de4ac92dd4f0c", func := "loop.example/g00222/laws.FnExactVerdictsFault", spec := "fnExactVerdictsFault", apart := false }
def FnExactVerdictsFaultSaid : Prop := fnExactVerdictsFaultRow.holds Try.pinned (OpenSpec.ofChange fnExactVerdictsFaultSpec)

/-- ITS FALSE NEIGHBOUR: 'it returns false'. Refute it at one input. -/
def fnExactVerdictsFaultWrong : ChangeSpec := { name := "fnExactVerdictsFault", fn := fun _ => fun
  | [d] => { results := [.lit (.bool false)], args := [d] }
  | _ => none }
def FnExactVerdictsFaultWrongFalsely : Prop := fnExactVerdictsFaultRow.holds Try.pinned (OpenSpec.ofChange fnExactVerdictsFaultWrong)

/-- 'laws.FnExactCommonOf': WHATEVER THE INPUT: true; the input reads as it did. -/
def fnExactCommonOfSpec : ChangeSpec := { name := "fnExactCommonOf", fn := fun _ => fun
  | [d1, d2] => { results := [.lit (.bool true)], args := [d1, d2] }
  | _ => none }
def fnExactCommonOfRow : OpenClaim := { program := "ytfmfjggghbgfaaa", sum := "4e438af5d25c0f43a4ce80f75dcfd8aafe4ea62b1440f209b75de4ac92dd4f0c", func := "loop.example/g00222/laws.FnExactCommonOf", spec := "fnExactCommonOf", apart := false }
def FnExactCommonOfSaid : Prop := fnExactCommonOfRow.holds Try.pinned (OpenSpec.ofChange fnExactCommonOfSpec)

/-- ITS FALSE NEIGHBOUR: 'it returns false'. Refute it at one input. -/
def fnExactCommonOfWrong : ChangeSpec := { name := "fnExactCommonOf", fn := fun _ => fun
  | [d1, d2] => { results := [.lit (.bool false)], args := [d1, d2] }
  | _ => none }
def FnExactCommonOfWrongFalsely : Prop := fnExactCommonOfRow.holds Try.pinned (OpenSpec.ofChange fnExactCommonOfWrong)

/-- 'laws.FnExactLastOf': WHATEVER THE INPUT: true; the input reads as it did. -/
def fnExactLastOfSpec : ChangeSpec := { name := "fnExactLastOf", fn := fun _ => fun
  | [d] => { results := [.lit (.bool true)], args := [d] }
  | _ => none }
def fnExactLastOfRow : OpenClaim := { program := "ytfmfjggghbgfaaa", sum := "4e438af5d25c0f43a4ce80f75dcfd8aafe4ea62b1440f209b75de4ac92dd4f0c", func := "loop.example/g00222/laws.FnExactLastOf", spec := "fnExactLastOf", apart := false }
def FnExactLastOfSaid : Prop := fnExactLastOfRow.holds Try.pinned (OpenSpec.ofChange fnExactLastOfSpec)

/-- ITS FALSE NEIGHBOUR: 'it returns false'. Refute it at one input. -/
def fnExactLastOfWrong : ChangeSpec := { name := "fnExactLastOf", fn := fun _ => fun
  | [d] => { results := [.lit (.bool false)], args := [d] }
  | _ => none }
def FnExactLastOfWrongFalsely : Prop := fnExactLastOfRow.holds Try.pinned (OpenSpec.ofChange fnExactLastOfWrong)

/-- 'laws.FnExactSameEntries': WHATEVER THE INPUT: true; the input reads as it did. -/
def fnExactSameEntriesSpec : ChangeSpec := { name := "fnExactSameEntries", fn := fun _ => fun
  | [d1, d2] => { results := [.lit (.bool true)], args := [d1, d2] }
  | _ => none }
def fnExactSameEntriesRow : OpenClaim := { program := "ytfmfjggghbgfaaa", sum := "4e438af5d25c0f43a4ce80f75dcfd8aafe4ea62b1440f209b75de4ac92dd4f0c", func := "loop.example/g00222/laws.FnExactSameEntries", spec := "fnExactSameEntries", apart := false }
def FnExactSameEntriesSaid : Prop := fnExactSameEntriesRow.holds Try.pinned (OpenSpec.ofChange fnExactSameEntriesSpec)

/-- ITS FALSE NEIGHBOUR: 'it returns false'. Refute it at one input. -/
def fnExactSameEntriesWrong : ChangeSpec := { name := "fnExactSameEntries", fn := fun _ => fun
  | [d1, d2] => { results := [.lit (.bool false)], args := [d1, d2] }
  | _ => none }
def FnExactSameEntriesWrongFalsely : Prop := fnExactSameEntriesRow.holds Try.pinned (OpenSpec.ofChange fnExactSameEntriesWrong)

/-- 'laws.FnExactProbeHealth': WHATEVER THE INPUT: true; the input reads as it did. -/
def fnExactProbeHealthSpec : ChangeSpec := { name := "fnExactProbeHealth", fn := fun _ => fun
  | [d1, d2] => { results := [.lit (.bool true)], args := [d1, d2] }
  | _ => none }
def fnExactProbeHealthRow : OpenClaim := { program := "ytfmfjggghbgfaaa", sum := "4e438af5d25c0f43a4ce80f75dcfd8aafe4ea62b1440f209b75de4ac92dd4f0c", func := "loop.example/g00222/laws.FnExactProbeHealth", spec := "fnExactProbeHealth", apart := false }
def FnExactProbeHealthSaid : Prop := fnExactProbeHealthRow.holds Try.pinned (OpenSpec.ofChange fnExactProbeHealthSpec)

/-- ITS FALSE NEIGHBOUR: 'it returns false'. Refute it at one input. -/
def fnExactProbeHealthWrong : ChangeSpec := { name := "fnExactProbeHealth", fn := fun _ => fun
  | [d1, d2] => { results := [.lit (.bool false)], args := [d1, d2] }
  | _ => none }
def FnExactProbeHealthWrongFalsely : Prop := fnExactProbeHealthRow.holds Try.pinned (OpenSpec.ofChange fnExactProbeHealthWrong)

/-- 'laws.FnHealths': WHATEVER THE INPUT: true; the input reads as it did. -/
def fnHealthsSpec : ChangeSpec := { name := "fnHealths", fn := fun _ => fun
  | [d] => { results := [.lit (.bool true)], args := [d] }
  | _ => none }
def fnHealthsRow : OpenClaim := { program := "ytfmfjggghbgfaaa", sum := "4e438af5d25c0f43a4ce80f75dcfd8aafe4ea62b1440f209b75de4ac92dd4f0c", func := "loop.example/g00222/laws.FnHealths", spec := "fnHealths", apart := false }
def FnHealthsSaid : Prop := fnHealthsRow.holds Try.pinned (OpenSpec.ofChange fnHealthsSpec)

/-- ITS FALSE NEIGHBOUR: 'it returns false'. Refute it at one input. -/
def fnHealthsWrong : ChangeSpec := { name := "fnHealths", fn := fun _ => fun
  | [d] => { results := [.lit (.bool false)], args := [d] }
  | _ => none }
def FnHealthsWrongFalsely : Prop := fnHealthsRow.holds Try.pinned (OpenSpec.ofChange fnHealthsWrong)

/-- 'laws.FnExactEntryFault': WHATEVER THE INPUT: true; the input reads as it did. -/
def fnExactEntryFaultSpec : ChangeSpec := { name := "fnExactEntryFault", fn := fun _ => fun
  | [d] => { results := [.lit (.bool true)], args := [d] }
  | _ => none }
def fnExactEntryFaultRow : OpenClaim := { program := "ytfmfjggghbgfaaa", sum := "4e438af5d25c0f43a4ce80f75dcfd8aafe4ea62b1440f209b75de4ac92dd4f0c", func := "loop.example/g00222/laws.FnExactEntryFault", spec := "fnExactEntryFault", apart := false }
def FnExactEntryFaultSaid : Prop := fnExactEntryFaultRow.holds Try.pinned (OpenSpec.ofChange fnExactEntryFaultSpec)

/-- ITS FALSE NEIGHBOUR: 'it returns false'. Refute it at one input. -/
def fnExactEntryFaultWrong : ChangeSpec := { name := "fnExactEntryFault", fn := fun _ => fun
  | [d] => { results := [.lit (.bool false)], args := [d] }
  | _ => none }
def FnExactEntryFaultWrongFalsely : Prop := fnExactEntryFaultRow.holds Try.pinned (OpenSpec.ofChange fnExactEntryFaultWrong)

/-- 'laws.FnExactProbeMany': WHATEVER THE INPUT: true; the input reads as it did. -/
def fnExactProbeManySpec : ChangeSpec := { name := "fnExactProbeMany", fn := fun _ => fun
  | [d1, d2] => { results := [.lit (.bool true)], args := [d1, d2] }
  | _ => none }
def fnExactProbeManyRow : OpenClaim := { program := "ytfmfjggghbgfaaa", sum := "4e438af5d25c0f43a4ce80f75dcfd8aafe4ea62b1440f209b75de4ac92dd4f0c", func := "loop.example/g00222/laws.FnExactProbeMany", spec := "fnExactProbeMany", apart := false }
def FnExactProbeManySaid : Prop := fnExactProbeManyRow.holds Try.pinned (OpenSpec.ofChange fnExactProbeManySpec)

/-- ITS FALSE NEIGHBOUR: 'it returns false'. Refute it at one input. -/
def fnExactProbeManyWrong : ChangeSpec := { name := "fnExactProbeMany", fn := fun _ => fun
  | [d1, d2] => { results := [.lit (.bool false)], args := [d1, d2] }
  | _ => none }
def FnExactProbeManyWrongFalsely : Prop := fnExactProbeManyRow.holds Try.pinned (OpenSpec.ofChange fnExactProbeManyWrong)

/-- 'laws.FnExactVerdictFor': WHATEVER THE INPUT: true; the input reads as it did. -/
def fnExactVerdictForSpec : ChangeSpec := { name := "fnExactVerdictFor", fn := fun _ => fun
  | [d1, d2, d3] => { results := [.lit (.bool true)], args := [d1, d2, d3] }
  | _ => none }
def fnExactVerdictForRow : OpenClaim := { program := "ytfmfjggghbgfaaa", sum := "4e438af5d25c0f43a4ce80f75dcfd8aafe4ea62b1440f209b75de4ac92dd4f0c", func := "loop.example/g00222/laws.FnExactVerdictFor", spec := "fnExactVerdictFor", apart := false }
def FnExactVerdictForSaid : Prop := fnExactVerdictForRow.holds Try.pinned (OpenSpec.ofChange fnExactVerdictForSpec)

/-- ITS FALSE NEIGHBOUR: 'it returns false'. Refute it at one input. -/
def fnExactVerdictForWrong : ChangeSpec := { name := "fnExactVerdictFor", fn := fun _ => fun
  | [d1, d2, d3] => { results := [.lit (.bool false)], args := [d1, d2, d3] }
  | _ => none }
def FnExactVerdictForWrongFalsely : Prop := fnExactVerdictForRow.holds Try.pinned (OpenSpec.ofChange fnExactVerdictForWrong)

/-- 'laws.FnExactLogFault': WHATEVER THE INPUT: true; the input reads as it did. -/
def fnExactLogFaultSpec : ChangeSpec := { name := "fnExactLogFault", fn := fun _ => fun
  | [d] => { results := [.lit (.bool true)], args := [d] }
  | _ => none }
def fnExactLogFaultRow : OpenClaim := { program := "ytfmfjggghbgfaaa", sum := "4e438af5d25c0f43a4ce80f75dcfd8aafe4ea62b1440f209b75de4ac92dd4f0c", func := "loop.example/g00222/laws.FnExactLogFault", spec := "fnExactLogFault", apart := false }
def FnExactLogFaultSaid : Prop := fnExactLogFaultRow.holds Try.pinned (OpenSpec.ofChange fnExactLogFaultSpec)

/-- ITS FALSE NEIGHBOUR: 'it returns false'. Refute it at one input. -/
def fnExactLogFaultWrong : ChangeSpec := { name := "fnExactLogFault", fn := fun _ => fun
  | [d] => { results := [.lit (.bool false)], args := [d] }
  | _ => none }
def FnExactLogFaultWrongFalsely : Prop := fnExactLogFaultRow.holds Try.pinned (OpenSpec.ofChange fnExactLogFaultWrong)

/-- 'laws.FnExactFitsAt': WHATEVER THE INPUT: true; the input reads as it did. -/
def fnExactFitsAtSpec : ChangeSpec := { name := "fnExactFitsAt", fn := fun _ => fun
  | [d1, d2, d3] => { results := [.lit (.bool true)], args := [d1, d2, d3] }
  | _ => none }
def fnExactFitsAtRow : OpenClaim := { program := "ytfmfjggghbgfaaa", sum := "4e438af5d25c0f43a4ce80f75dcfd8aafe4ea62b1440f209b75de4ac92dd4f0c", func := "loop.example/g00222/laws.FnExactFitsAt", spec := "fnExactFitsAt", apart := false }
def FnExactFitsAtSaid : Prop := fnExactFitsAtRow.holds Try.pinned (OpenSpec.ofChange fnExactFitsAtSpec)

/-- ITS FALSE NEIGHBOUR: 'it returns false'. Refute it at one input. -/
def fnExactFitsAtWrong : ChangeSpec := { name := "fnExactFitsAt", fn := fun _ => fun
  | [d1, d2, d3] => { results := [.lit (.bool false)], args := [d1, d2, d3] }
  | _ => none }
def FnExactFitsAtWrongFalsely : Prop := fnExactFitsAtRow.holds Try.pinned (OpenSpec.ofChange fnExactFitsAtWrong)

/- THE SECOND FORM. 'bulk': how many values and letters a reading holds, each counted each time it is reached (what is shared counts as often as it is met; a slice's spare places count too). A statement '..UptoSaid' is the law's where the arguments, and the package variables that the reading takes, are together of bulk at most 1048576: NARROWER than '..Said'. Prove '..Said' where nothing that the law and all that it calls make is longer than what came in: it says more and counts as full. Else prove '..UptoSaid'. A law counts once. -/
mutual
def uptoBulk {H : Type} : DataW H → Nat
  | .lit (.string bytes) => bytes.length + 1
  | .lit _ => 1
  | .nil => 1
  | .ptr d => uptoBulk d + 1
  | .slice elems spare => uptoBulkAll elems + uptoBulkAll spare + 1
  | .agg parts => uptoBulkAll parts + 1
  | .iface _ d => uptoBulk d + 1
  | .map entries => uptoBulkEntries entries + 1
  | .held _ => 1
def uptoBulkAll {H : Type} : List (DataW H) → Nat
  | [] => 0
  | d :: r => uptoBulk d + uptoBulkAll r
def uptoBulkEntries {H : Type} : List (Lit × DataW H) → Nat
  | [] => 0
  | x :: r => uptoBulkEntry x + uptoBulkEntries r
def uptoBulkEntry {H : Type} : Lit × DataW H → Nat
  | (.string bytes, d) => bytes.length + uptoBulk d + 1
  | (_, d) => uptoBulk d + 1
 end
def uptoSmall : (H : Type) → List (DataW H) → Bool := fun _ ds => decide (uptoBulkAll ds ≤ 1048576)
def OpenSpec.upto (s : _root_.Go.ChangeSpec) : _root_.Go.OpenSpec := { _root_.Go.OpenSpec.ofChange s with cond := some uptoSmall }

/-- 'laws.FnExactHealthFault', WHERE WHAT IT READS IS OF BULK AT MOST 1048576: true; the input reads as it did. -/
def fnExactHealthFaultUptoRow : OpenClaim := { program := "ytfmfjggghbgfaaa", sum := "4e438af5d25c0f43a4ce80f75dcfd8aafe4ea62b1440f209b75de4ac92dd4f0c", func := "loop.example/g00222/laws.FnExactHealthFault", spec := "fnExactHealthFault", apart := false, narrowed := true }
def FnExactHealthFaultUptoSaid : Prop := fnExactHealthFaultUptoRow.holds Try.pinned (OpenSpec.upto fnExactHealthFaultSpec)

/-- 'laws.FnExactVerdictsFault', WHERE WHAT IT READS IS OF BULK AT MOST 1048576: true; the input reads as it did. -/
def fnExactVerdictsFaultUptoRow : OpenClaim := { program := "ytfmfjggghbgfaaa", sum := "4e438af5d25c0f43a4ce80f75dcfd8aafe4ea62b1440f209b75de4ac92dd4f0c", func := "loop.example/g00222/laws.FnExactVerdictsFault", spec := "fnExactVerdictsFault", apart := false, narrowed := true }
def FnExactVerdictsFaultUptoSaid : Prop := fnExactVerdictsFaultUptoRow.holds Try.pinned (OpenSpec.upto fnExactVerdictsFaultSpec)

/-- 'laws.FnExactCommonOf', WHERE WHAT IT READS IS OF BULK AT MOST 1048576: true; the input reads as it did. -/
def fnExactCommonOfUptoRow : OpenClaim := { program := "ytfmfjggghbgfaaa", sum := "4e438af5d25c0f43a4ce80f75dcfd8aafe4ea62b1440f209b75de4ac92dd4f0c", func := "loop.example/g00222/laws.FnExactCommonOf", spec := "fnExactCommonOf", apart := false, narrowed := true }
def FnExactCommonOfUptoSaid : Prop := fnExactCommonOfUptoRow.holds Try.pinned (OpenSpec.upto fnExactCommonOfSpec)

/-- 'laws.FnExactLastOf', WHERE WHAT IT READS IS OF BULK AT MOST 1048576: true; the input reads as it did. -/
def fnExactLastOfUptoRow : OpenClaim := { program := "ytfmfjggghbgfaaa", sum := "4e438af5d25c0f43a4ce80f75dcfd8aafe4ea62b1440f209b75de4ac92dd4f0c", func := "loop.example/g00222/laws.FnExactLastOf", spec := "fnExactLastOf", apart := false, narrowed := true }
def FnExactLastOfUptoSaid : Prop := fnExactLastOfUptoRow.holds Try.pinned (OpenSpec.upto fnExactLastOfSpec)

/-- 'laws.FnExactSameEntries', WHERE WHAT IT READS IS OF BULK AT MOST 1048576: true; the input reads as it did. -/
def fnExactSameEntriesUptoRow : OpenClaim := { program := "ytfmfjggghbgfaaa", sum := "4e438af5d25c0f43a4ce80f75dcfd8aafe4ea62b1440f209b75de4ac92dd4f0c", func := "loop.example/g00222/laws.FnExactSameEntries", spec := "fnExactSameEntries", apart := false, narrowed := true }
def FnExactSameEntriesUptoSaid : Prop := fnExactSameEntriesUptoRow.holds Try.pinned (OpenSpec.upto fnExactSameEntriesSpec)

/-- 'laws.FnExactProbeHealth', WHERE WHAT IT READS IS OF BULK AT MOST 1048576: true; the input reads as it did. -/
def fnExactProbeHealthUptoRow : OpenClaim := { program := "ytfmfjggghbgfaaa", sum := "4e438af5d25c0f43a4ce80f75dcfd8aafe4ea62b1440f209b75de4ac92dd4f0c", func := "loop.example/g00222/laws.FnExactProbeHealth", spec := "fnExactProbeHealth", apart := false, narrowed := true }
def FnExactProbeHealthUptoSaid : Prop := fnExactProbeHealthUptoRow.holds Try.pinned (OpenSpec.upto fnExactProbeHealthSpec)

/-- 'laws.FnHealths', WHERE WHAT IT READS IS OF BULK AT MOST 1048576: true; the input reads as it did. -/
def fnHealthsUptoRow : OpenClaim := { program := "ytfmfjggghbgfaaa", sum := "4e438af5d25c0f43a4ce80f75dcfd8aafe4ea62b1440f209b75de4ac92dd4f0c", func := "loop.example/g00222/laws.FnHealths", spec := "fnHealths", apart := false, narrowed := true }
def FnHealthsUptoSaid : Prop := fnHealthsUptoRow.holds Try.pinned (OpenSpec.upto fnHealthsSpec)

/-- 'laws.FnExactEntryFault', WHERE WHAT IT READS IS OF BULK AT MOST 1048576: true; the input reads as it did. -/
def fnExactEntryFaultUptoRow : OpenClaim := { program := "ytfmfjggghbgfaaa", sum := "4e438af5d25c0f43a4ce80f75dcfd8aafe4ea62b1440f209b75de4ac92dd4f0c", func := "loop.example/g00222/laws.FnExactEntryFault", spec := "fnExactEntryFault", apart := false, narrowed := true }
def FnExactEntryFaultUptoSaid : Prop := fnExactEntryFaultUptoRow.holds Try.pinned (OpenSpec.upto fnExactEntryFaultSpec)

/-- 'laws.FnExactProbeMany', WHERE WHAT IT READS IS OF BULK AT MOST 1048576: true; the input reads as it did. -/
def fnExactProbeManyUptoRow : OpenClaim := { program := "ytfmfjggghbgfaaa", sum := "4e438af5d25c0f43a4ce80f75dcfd8aafe4ea62b1440f209b75de4ac92dd4f0c", func := "loop.example/g00222/laws.FnExactProbeMany", spec := "fnExactProbeMany", apart := false, narrowed := true }
def FnExactProbeManyUptoSaid : Prop := fnExactProbeManyUptoRow.holds Try.pinned (OpenSpec.upto fnExactProbeManySpec)

/-- 'laws.FnExactVerdictFor', WHERE WHAT IT READS IS OF BULK AT MOST 1048576: true; the input reads as it did. -/
def fnExactVerdictForUptoRow : OpenClaim := { program := "ytfmfjggghbgfaaa", sum := "4e438af5d25c0f43a4ce80f75dcfd8aafe4ea62b1440f209b75de4ac92dd4f0c", func := "loop.example/g00222/laws.FnExactVerdictFor", spec := "fnExactVerdictFor", apart := false, narrowed := true }
def FnExactVerdictForUptoSaid : Prop := fnExactVerdictForUptoRow.holds Try.pinned (OpenSpec.upto fnExactVerdictForSpec)

/-- 'laws.FnExactLogFault', WHERE WHAT IT READS IS OF BULK AT MOST 1048576: true; the input reads as it did. -/
def fnExactLogFaultUptoRow : OpenClaim := { program := "ytfmfjggghbgfaaa", sum := "4e438af5d25c0f43a4ce80f75dcfd8aafe4ea62b1440f209b75de4ac92dd4f0c", func := "loop.example/g00222/laws.FnExactLogFault", spec := "fnExactLogFault", apart := false, narrowed := true }
def FnExactLogFaultUptoSaid : Prop := fnExactLogFaultUptoRow.holds Try.pinned (OpenSpec.upto fnExactLogFaultSpec)

/-- 'laws.FnExactFitsAt', WHERE WHAT IT READS IS OF BULK AT MOST 1048576: true; the input reads as it did. -/
def fnExactFitsAtUptoRow : OpenClaim := { program := "ytfmfjggghbgfaaa", sum := "4e438af5d25c0f43a4ce80f75dcfd8aafe4ea62b1440f209b75de4ac92dd4f0c", func := "loop.example/g00222/laws.FnExactFitsAt", spec := "fnExactFitsAt", apart := false, narrowed := true }
def FnExactFitsAtUptoSaid : Prop := fnExactFitsAtUptoRow.holds Try.pinned (OpenSpec.upto fnExactFitsAtSpec)

end Rows
end Go.Proofs.Ytfmfjggghbgfaaa
