/-
  No cell of these rows narrows 'for every input' (looked for: loops, veiled, ifaces, maps, wideKeys, modest, calm, conditions, laid).
  DERIVED. THE GIVEN ROWS OF THIS SEAT. 6 by the template 'for every input the law returns true; each argument reads behind the call as it read before'; 0 by the template 'total and deterministic' (their statements: YtbcggnoogkfgkaaTotals.lean).
  GIVEN WITH THE SEED: the statements are not yours to turn. If you find one false, say at which input.
  Laid BY PROGRAM, IN A SANDBOX (cutbox-rows.mjs): the forced cells as the released guide's own fill.sh prints them over the translation ffe5d299dc3cd42a… (all of the seat's roots in one cut). By AI agents, Wed Nov 11 2026. No macro, syntax, notation, axiom, sorry.
-/
import Derived.Test.YtbcggnoogkfgkaaChecked
import GoSem.Claim
import GoSem.ClaimJoined
import GoSem.ClaimMapViews
import Derived.JoinedTies
import Derived.KernelRfl
namespace Go.Proofs.Ytbcggnoogkfgkaa
/- THE CELL 'sum', in the pinned program and in every row, IS THE sha256 OF THE DUMP (.gsa) THAT YtbcggnoogkfgkaaProg.lean LOADS. Nothing in Lean hashes anything: it is a label: what it is worth is what the hold of that sum in a sandbox is worth. -/
noncomputable def Try.pinned : Pinned := { name := "ytbcggnoogkfgkaa", sum := "ffe5d299dc3cd42a77add74b489c3648fafda0a674d9ac486af953aa52bda767", checked := Try.checked }
namespace Rows
def none {H : Type} : Left H := { results := [], args := [] }

/-- 'laws.FnExactCommonOf': WHATEVER THE INPUT: true; the input reads as it did. -/
def fnExactCommonOfSpec : ChangeSpec := { name := "fnExactCommonOf", fn := fun _ => fun
  | [d1, d2] => { results := [.lit (.bool true)], args := [d1, d2] }
  | _ => none }
def fnExactCommonOfRow : OpenClaim := { program := "ytbcggnoogkfgkaa", sum := "ffe5d299dc3cd42a77add74b489c3648fafda0a674d9ac486af953aa52bda767", func := "loop.example/g00222/laws.FnExactCommonOf", spec := "fnExactCommonOf", apart := false }
def FnExactCommonOfSaid : Prop := fnExactCommonOfRow.holds Try.pinned (OpenSpec.ofChange fnExactCommonOfSpec)

/-- ITS FALSE NEIGHBOUR: 'it returns false'. Refute it at one input. -/
def fnExactCommonOfWrong : ChangeSpec := { name := "fnExactCommonOf", fn := fun _ => fun
  | [d1, d2] => { results := [.lit (.bool false)], args := [d1, d2] }
  | _ => none }
def FnExactCommonOfWrongFalsely : Prop := fnExactCommonOfRow.holds Try.pinned (OpenSpec.ofChange fnExactCommonOfWrong)

/-- 'laws.FnExactEntryFault': WHATEVER THE INPUT: true; the input reads as it did. -/
def fnExactEntryFaultSpec : ChangeSpec := { name := "fnExactEntryFault", fn := fun _ => fun
  | [d] => { results := [.lit (.bool true)], args := [d] }
  | _ => none }
def fnExactEntryFaultRow : OpenClaim := { program := "ytbcggnoogkfgkaa", sum := "ffe5d299dc3cd42a77add74b489c3648fafda0a674d9ac486af953aa52bda767", func := "loop.example/g00222/laws.FnExactEntryFault", spec := "fnExactEntryFault", apart := false }
def FnExactEntryFaultSaid : Prop := fnExactEntryFaultRow.holds Try.pinned (OpenSpec.ofChange fnExactEntryFaultSpec)

/-- ITS FALSE NEIGHBOUR: 'it returns false'. Refute it at one input. -/
def fnExactEntryFaultWrong : ChangeSpec := { name := "fnExactEntryFault", fn := fun _ => fun
  | [d] => { results := [.lit (.bool false)], args := [d] }
  | _ => none }
def FnExactEntryFaultWrongFalsely : Prop := fnExactEntryFaultRow.holds Try.pinned (OpenSpec.ofChange fnExactEntryFaultWrong)

/-- 'laws.FnExactLogFault': WHATEVER THE INPUT: true; the input reads as it did. -/
def fnExactLogFaultSpec : ChangeSpec := { name := "fnExactLogFault", fn := fun _ => fun
  | [d] => { results := [.lit (.bool true)], args := [d] }
  | _ => none }
def fnExactLogFaultRow : OpenClaim := { program := "ytbcggnoogkfgkaa", sum := "ffe5d299dc3cd42a77add74b489c3648fafda0a674d9ac486af953aa52bda767", func := "loop.example/g00222/laws.FnExactLogFault", spec := "fnExactLogFault", apart := false }
def FnExactLogFaultSaid : Prop := fnExactLogFaultRow.holds Try.pinned (OpenSpec.ofChange fnExactLogFaultSpec)

/-- ITS FALSE NEIGHBOUR: 'it returns false'. Refute it at one input. -/
def fnExactLogFaultWrong : ChangeSpec := { name := "fnExactLogFault", fn := fun _ => fun
  | [d] => { results := [.lit (.bool false)], args := [d] }
  | _ => none }
def FnExactLogFaultWrongFalsely : Prop := fnExactLogFaultRow.holds Try.pinned (OpenSpec.ofChange fnExactLogFaultWrong)

/-- 'laws.FnExactFitsAt': WHATEVER THE INPUT: true; the input reads as it did. -/
def fnExactFitsAtSpec : ChangeSpec := { name := "fnExactFitsAt", fn := fun _ => fun
  | [d1, d2, d3] => { results := [.lit (.bool true)], args := [d1, d2, d3] }
  | _ => none }
def fnExactFitsAtRow : OpenClaim := { program := "ytbcggnoogkfgkaa", sum := "ffe5d299dc3cd42a77add74b489c3648fafda0a674d9ac486af953aa52bda767", func := "loop.example/g00222/laws.FnExactFitsAt", spec := "fnExactFitsAt", apart := false }
def FnExactFitsAtSaid : Prop := fnExactFitsAtRow.holds Try.pinned (OpenSpec.ofChange fnExactFitsAtSpec)

/-- ITS FALSE NEIGHBOUR: 'it returns false'. Refute it at one input. -/
def fnExactFitsAtWrong : ChangeSpec := { name := "fnExactFitsAt", fn := fun _ => fun
  | [d1, d2, d3] => { results := [.lit (.bool false)], args := [d1, d2, d3] }
  | _ => none }
def FnExactFitsAtWrongFalsely : Prop := fnExactFitsAtRow.holds Try.pinned (OpenSpec.ofChange fnExactFitsAtWrong)

/-- 'laws.FnExactUpToDate': WHATEVER THE INPUT: true; the input reads as it did. -/
def fnExactUpToDateSpec : ChangeSpec := { name := "fnExactUpToDate", fn := fun _ => fun
  | [d1, d2, d3] => { results := [.lit (.bool true)], args := [d1, d2, d3] }
  | _ => none }
def fnExactUpToDateRow : OpenClaim := { program := "ytbcggnoogkfgkaa", sum := "ffe5d299dc3cd42a77add74b489c3648fafda0a674d9ac486af953aa52bda767", func := "loop.example/g00222/laws.FnExactUpToDate", spec := "fnExactUpToDate", apart := false }
def FnExactUpToDateSaid : Prop := fnExactUpToDateRow.holds Try.pinned (OpenSpec.ofChange fnExactUpToDateSpec)

/-- ITS FALSE NEIGHBOUR: 'it returns false'. Refute it at one input. -/
def fnExactUpToDateWrong : ChangeSpec := { name := "fnExactUpToDate", fn := fun _ => fun
  | [d1, d2, d3] => { results := [.lit (.bool false)], args := [d1, d2, d3] }
  | _ => none }
def FnExactUpToDateWrongFalsely : Prop := fnExactUpToDateRow.holds Try.pinned (OpenSpec.ofChange fnExactUpToDateWrong)

/-- 'laws.FnExactNodeFault': WHATEVER THE INPUT: true; the input reads as it did. -/
def fnExactNodeFaultSpec : ChangeSpec := { name := "fnExactNodeFault", fn := fun _ => fun
  | [d] => { results := [.lit (.bool true)], args := [d] }
  | _ => none }
def fnExactNodeFaultRow : OpenClaim := { program := "ytbcggnoogkfgkaa", sum := "ffe5d299dc3cd42a77add74b489c3648fafda0a674d9ac486af953aa52bda767", func := "loop.example/g00222/laws.FnExactNodeFault", spec := "fnExactNodeFault", unfollowed := true, recurses := true, apart := false }
def FnExactNodeFaultSaid : Prop := fnExactNodeFaultRow.holds Try.pinned (OpenSpec.ofChange fnExactNodeFaultSpec)

/-- ITS FALSE NEIGHBOUR: 'it returns false'. Refute it at one input. -/
def fnExactNodeFaultWrong : ChangeSpec := { name := "fnExactNodeFault", fn := fun _ => fun
  | [d] => { results := [.lit (.bool false)], args := [d] }
  | _ => none }
def FnExactNodeFaultWrongFalsely : Prop := fnExactNodeFaultRow.holds Try.pinned (OpenSpec.ofChange fnExactNodeFaultWrong)

/- THE SECOND FORM. 'bulk': how many values and letters a reading holds, each counted each time it is reached (what is shared counts as often as it is met; a slice's spare places count too). A statement '..UptoSaid' is the law's where the arguments, and the package variables that the reading takes, are together of bulk at most 1048576: NARROWER than '..Said'. Prove '..Said' where nothing that the law and all that it calls make is longer than what came in: it says more and counts as full. Else prove '..UptoSaid'. A law counts once. -/
mutual
def uptoBulk {H : Type} : DataW H → Nat
  | .lit (.string bytes) => bytes.length + 1
  | .lit _ => 1
  | .nil => 1
  | .ptr d => uptoBulk d + 1
  | .slice elems spare => uptoBulkAll elems + uptoBulkAll spare + 1
  | .agg parts => uptoBulkAll parts + 1
  | .iface _ d => uptoBulk d + 1
  | .map entries => uptoBulkEntries entries + 1
  | .held _ => 1
def uptoBulkAll {H : Type} : List (DataW H) → Nat
  | [] => 0
  | d :: r => uptoBulk d + uptoBulkAll r
def uptoBulkEntries {H : Type} : List (Lit × DataW H) → Nat
  | [] => 0
  | x :: r => uptoBulkEntry x + uptoBulkEntries r
def uptoBulkEntry {H : Type} : Lit × DataW H → Nat
  | (.string bytes, d) => bytes.length + uptoBulk d + 1
  | (_, d) => uptoBulk d + 1
 end
def uptoSmall : (H : Type) → List (DataW H) → Bool := fun _ ds => decide (uptoBulkAll ds ≤ 1048576)
def OpenSpec.upto (s : _root_.Go.ChangeSpec) : _root_.Go.OpenSpec := { _root_.Go.OpenSpec.ofChange s with cond := some uptoSmall }

/-- 'laws.FnExactCommonOf', WHERE WHAT IT READS IS OF BULK AT MOST 1048576: true; the input reads as it did. -/
def fnExactCommonOfUptoRow : OpenClaim := { program := "ytbcggnoogkfgkaa", sum := "ffe5d299dc3cd42a77add74b489c3648fafda0a674d9ac486af953aa52bda767", func := "loop.example/g00222/laws.FnExactCommonOf", spec := "fnExactCommonOf", apart := false, narrowed := true }
def FnExactCommonOfUptoSaid : Prop := fnExactCommonOfUptoRow.holds Try.pinned (OpenSpec.upto fnExactCommonOfSpec)

/-- 'laws.FnExactEntryFault', WHERE WHAT IT READS IS OF BULK AT MOST 1048576: true; the input reads as it did. -/
def fnExactEntryFaultUptoRow : OpenClaim := { program := "ytbcggnoogkfgkaa", sum := "ffe5d299dc3cd42a77add74b489c3648fafda0a674d9ac486af953aa52bda767", func := "loop.example/g00222/laws.FnExactEntryFault", spec := "fnExactEntryFault", apart := false, narrowed := true }
def FnExactEntryFaultUptoSaid : Prop := fnExactEntryFaultUptoRow.holds Try.pinned (OpenSpec.upto fnExactEntryFaultSpec)

/-- 'laws.FnExactLogFault', WHERE WHAT IT READS IS OF BULK AT MOST 1048576: true; the input reads as it did. -/
def fnExactLogFaultUptoRow : OpenClaim := { program := "ytbcggnoogkfgkaa", sum := "ffe5d299dc3cd42a77add74b489c3648fafda0a674d9ac486af953aa52bda767", func := "loop.example/g00222/laws.FnExactLogFault", spec := "fnExactLogFault", apart := false, narrowed := true }
def FnExactLogFaultUptoSaid : Prop := fnExactLogFaultUptoRow.holds Try.pinned (OpenSpec.upto fnExactLogFaultSpec)

/-- 'laws.FnExactFitsAt', WHERE WHAT IT READS IS OF BULK AT MOST 1048576: true; the input reads as it did. -/
def fnExactFitsAtUptoRow : OpenClaim := { program := "ytbcggnoogkfgkaa", sum := "ffe5d299dc3cd42a77add74b489c3648fafda0a674d9ac486af953aa52bda767", func := "loop.example/g00222/laws.FnExactFitsAt", spec := "fnExactFitsAt", apart := false, narrowed := true }
def FnExactFitsAtUptoSaid : Prop := fnExactFitsAtUptoRow.holds Try.pinned (OpenSpec.upto fnExactFitsAtSpec)

/-- 'laws.FnExactUpToDate', WHERE WHAT IT READS IS OF BULK AT MOST 1048576: true; the input reads as it did. -/
def fnExactUpToDateUptoRow : OpenClaim := { program := "ytbcggnoogkfgkaa", sum := "ffe5d299dc3cd42a77add74b489c3648fafda0a674d9ac486af953aa52bda767", func := "loop.example/g00222/laws.FnExactUpToDate", spec := "fnExactUpToDate", apart := false, narrowed := true }
def FnExactUpToDateUptoSaid : Prop := fnExactUpToDateUptoRow.holds Try.pinned (OpenSpec.upto fnExactUpToDateSpec)

/-- 'laws.FnExactNodeFault', WHERE WHAT IT READS IS OF BULK AT MOST 1048576: true; the input reads as it did. -/
def fnExactNodeFaultUptoRow : OpenClaim := { program := "ytbcggnoogkfgkaa", sum := "ffe5d299dc3cd42a77add74b489c3648fafda0a674d9ac486af953aa52bda767", func := "loop.example/g00222/laws.FnExactNodeFault", spec := "fnExactNodeFault", unfollowed := true, recurses := true, apart := false, narrowed := true }
def FnExactNodeFaultUptoSaid : Prop := fnExactNodeFaultUptoRow.holds Try.pinned (OpenSpec.upto fnExactNodeFaultSpec)

end Rows
end Go.Proofs.Ytbcggnoogkfgkaa
