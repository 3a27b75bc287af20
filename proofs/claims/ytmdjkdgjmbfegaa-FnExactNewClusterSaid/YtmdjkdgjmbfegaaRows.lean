/-
  No cell of these rows narrows 'for every input' (looked for: loops, veiled, ifaces, maps, wideKeys, modest, calm, conditions, laid).
  DERIVED. THE GIVEN ROWS OF THIS SEAT. 5 by the template 'for every input the law returns true; each argument reads behind the call as it read before'; 0 by the template 'total and deterministic' (their statements: YtmdjkdgjmbfegaaTotals.lean).
  GIVEN WITH THE SEED: the statements are not yours to turn. If you find one false, say at which input.
  Laid BY PROGRAM, IN A SANDBOX (cutbox-rows.mjs): the forced cells as the released guide's own fill.sh prints them over the translation 1c74f67fa7346ccc… (all of the seat's roots in one cut). By AI agents, Wed Nov 11 2026. No macro, syntax, notation, axiom, sorry.
-/
import Derived.Test.YtmdjkdgjmbfegaaChecked
import GoSem.Claim
import GoSem.ClaimJoined
import GoSem.ClaimMapViews
import Derived.JoinedTies
import Derived.KernelRfl
namespace Go.Proofs.Ytmdjkdgjmbfegaa
/- THE CELL 'sum', in the pinned program and in every row, IS THE sha256 OF THE DUMP (.gsa) THAT YtmdjkdgjmbfegaaProg.lean LOADS. Nothing in Lean hashes anything: it is a label: what it is worth is what the hold of that sum in a sandbox is worth. -/
noncomputable def Try.pinned : Pinned := { name := "ytmdjkdgjmbfegaa", sum := "1c74f67fa7346cccbbac70f3ee31ddc9467a0af7616506d1388f739fc797b852", checked := Try.checked }
namespace Rows
def none {H : Type} : Left H := { results := [], args := [] }

/-- 'laws.FnExactTakeEntries': WHATEVER THE INPUT: true; the input reads as it did. -/
def fnExactTakeEntriesSpec : ChangeSpec := { name := "fnExactTakeEntries", fn := fun _ => fun
  | [d1, d2, d3, d4] => { results := [.lit (.bool true)], args := [d1, d2, d3, d4] }
  | _ => none }
def fnExactTakeEntriesRow : OpenClaim := { program := "ytmdjkdgjmbfegaa", sum := "1c74f67fa7346cccbbac70f3ee31ddc9467a0af7616506d1388f739fc797b852", func := "loop.example/g00222/laws.FnExactTakeEntries", spec := "fnExactTakeEntries", apart := false }
def FnExactTakeEntriesSaid : Prop := fnExactTakeEntriesRow.holds Try.pinned (OpenSpec.ofChange fnExactTakeEntriesSpec)

/-- ITS FALSE NEIGHBOUR: 'it returns false'. Refute it at one input. -/
def fnExactTakeEntriesWrong : ChangeSpec := { name := "fnExactTakeEntries", fn := fun _ => fun
  | [d1, d2, d3, d4] => { results := [.lit (.bool false)], args := [d1, d2, d3, d4] }
  | _ => none }
def FnExactTakeEntriesWrongFalsely : Prop := fnExactTakeEntriesRow.holds Try.pinned (OpenSpec.ofChange fnExactTakeEntriesWrong)

/-- 'laws.FnLogs': WHATEVER THE INPUT: true; the input reads as it did. -/
def fnLogsSpec : ChangeSpec := { name := "fnLogs", fn := fun _ => fun
  | [d] => { results := [.lit (.bool true)], args := [d] }
  | _ => none }
def fnLogsRow : OpenClaim := { program := "ytmdjkdgjmbfegaa", sum := "1c74f67fa7346cccbbac70f3ee31ddc9467a0af7616506d1388f739fc797b852", func := "loop.example/g00222/laws.FnLogs", spec := "fnLogs", apart := false }
def FnLogsSaid : Prop := fnLogsRow.holds Try.pinned (OpenSpec.ofChange fnLogsSpec)

/-- ITS FALSE NEIGHBOUR: 'it returns false'. Refute it at one input. -/
def fnLogsWrong : ChangeSpec := { name := "fnLogs", fn := fun _ => fun
  | [d] => { results := [.lit (.bool false)], args := [d] }
  | _ => none }
def FnLogsWrongFalsely : Prop := fnLogsRow.holds Try.pinned (OpenSpec.ofChange fnLogsWrong)

/-- 'laws.FnExactNewNode': WHATEVER THE INPUT: true; the input reads as it did. -/
def fnExactNewNodeSpec : ChangeSpec := { name := "fnExactNewNode", fn := fun _ => fun
  | [d1, d2] => { results := [.lit (.bool true)], args := [d1, d2] }
  | _ => none }
def fnExactNewNodeRow : OpenClaim := { program := "ytmdjkdgjmbfegaa", sum := "1c74f67fa7346cccbbac70f3ee31ddc9467a0af7616506d1388f739fc797b852", func := "loop.example/g00222/laws.FnExactNewNode", spec := "fnExactNewNode", apart := false }
def FnExactNewNodeSaid : Prop := fnExactNewNodeRow.holds Try.pinned (OpenSpec.ofChange fnExactNewNodeSpec)

/-- ITS FALSE NEIGHBOUR: 'it returns false'. Refute it at one input. -/
def fnExactNewNodeWrong : ChangeSpec := { name := "fnExactNewNode", fn := fun _ => fun
  | [d1, d2] => { results := [.lit (.bool false)], args := [d1, d2] }
  | _ => none }
def FnExactNewNodeWrongFalsely : Prop := fnExactNewNodeRow.holds Try.pinned (OpenSpec.ofChange fnExactNewNodeWrong)

/-- 'laws.FnExactCrashNode': WHATEVER THE INPUT: true; the input reads as it did. -/
def fnExactCrashNodeSpec : ChangeSpec := { name := "fnExactCrashNode", fn := fun _ => fun
  | [d] => { results := [.lit (.bool true)], args := [d] }
  | _ => none }
def fnExactCrashNodeRow : OpenClaim := { program := "ytmdjkdgjmbfegaa", sum := "1c74f67fa7346cccbbac70f3ee31ddc9467a0af7616506d1388f739fc797b852", func := "loop.example/g00222/laws.FnExactCrashNode", spec := "fnExactCrashNode", unfollowed := true, recurses := true, apart := false }
def FnExactCrashNodeSaid : Prop := fnExactCrashNodeRow.holds Try.pinned (OpenSpec.ofChange fnExactCrashNodeSpec)

/-- ITS FALSE NEIGHBOUR: 'it returns false'. Refute it at one input. -/
def fnExactCrashNodeWrong : ChangeSpec := { name := "fnExactCrashNode", fn := fun _ => fun
  | [d] => { results := [.lit (.bool false)], args := [d] }
  | _ => none }
def FnExactCrashNodeWrongFalsely : Prop := fnExactCrashNodeRow.holds Try.pinned (OpenSpec.ofChange fnExactCrashNodeWrong)

/-- 'laws.FnExactNewCluster': WHATEVER THE INPUT: true; the input reads as it did. -/
def fnExactNewClusterSpec : ChangeSpec := { name := "fnExactNewCluster", fn := fun _ => fun
  | [d] => { results := [.lit (.bool true)], args := [d] }
  | _ => none }
def fnExactNewClusterRow : OpenClaim := { program := "ytmdjkdgjmbfegaa", sum := "1c74f67fa7346cccbbac70f3ee31ddc9467a0af7616506d1388f739fc797b852", func := "loop.example/g00222/laws.FnExactNewCluster", spec := "fnExactNewCluster", apart := false }
def FnExactNewClusterSaid : Prop := fnExactNewClusterRow.holds Try.pinned (OpenSpec.ofChange fnExactNewClusterSpec)

/-- ITS FALSE NEIGHBOUR: 'it returns false'. Refute it at one input. -/
def fnExactNewClusterWrong : ChangeSpec := { name := "fnExactNewCluster", fn := fun _ => fun
  | [d] => { results := [.lit (.bool false)], args := [d] }
  | _ => none }
def FnExactNewClusterWrongFalsely : Prop := fnExactNewClusterRow.holds Try.pinned (OpenSpec.ofChange fnExactNewClusterWrong)

/- THE SECOND FORM. 'bulk': how many values and letters a reading holds, each counted each time it is reached (what is shared counts as often as it is met; a slice's spare places count too). A statement '..UptoSaid' is the law's where the arguments, and the package variables that the reading takes, are together of bulk at most 1048576: NARROWER than '..Said'. Prove '..Said' where nothing that the law and all that it calls make is longer than what came in: it says more and counts as full. Else prove '..UptoSaid'. A law counts once. -/
mutual
def uptoBulk {H : Type} : DataW H → Nat
  | .lit (.string bytes) => bytes.length + 1
  | .lit _ => 1
  | .nil => 1
  | .ptr d => uptoBulk d + 1
  | .slice elems spare => uptoBulkAll elems + uptoBulkAll spare + 1
  | .agg parts => uptoBulkAll parts + 1
  | .iface _ d => uptoBulk d + 1
  | .map entries => uptoBulkEntries entries + 1
  | .held _ => 1
def uptoBulkAll {H : Type} : List (DataW H) → Nat
  | [] => 0
  | d :: r => uptoBulk d + uptoBulkAll r
def uptoBulkEntries {H : Type} : List (Lit × DataW H) → Nat
  | [] => 0
  | x :: r => uptoBulkEntry x + uptoBulkEntries r
def uptoBulkEntry {H : Type} : Lit × DataW H → Nat
  | (.string bytes, d) => bytes.length + uptoBulk d + 1
  | (_, d) => uptoBulk d + 1
 end
def uptoSmall : (H : Type) → List (DataW H) → Bool := fun _ ds => decide (uptoBulkAll ds ≤ 1048576)
def OpenSpec.upto (s : _root_.Go.ChangeSpec) : _root_.Go.OpenSpec := { _root_.Go.OpenSpec.ofChange s with cond := some uptoSmall }

/-- 'laws.FnExactTakeEntries', WHERE WHAT IT READS IS OF BULK AT MOST 1048576: true; the input reads as it did. -/
def fnExactTakeEntriesUptoRow : OpenClaim := { program := "ytmdjkdgjmbfegaa", sum := "1c74f67fa7346cccbbac70f3ee31ddc9467a0af7616506d1388f739fc797b852", func := "loop.example/g00222/laws.FnExactTakeEntries", spec := "fnExactTakeEntries", apart := false, narrowed := true }
def FnExactTakeEntriesUptoSaid : Prop := fnExactTakeEntriesUptoRow.holds Try.pinned (OpenSpec.upto fnExactTakeEntriesSpec)

/-- 'laws.FnLogs', WHERE WHAT IT READS IS OF BULK AT MOST 1048576: true; the input reads as it did. -/
def fnLogsUptoRow : OpenClaim := { program := "ytmdjkdgjmbfegaa", sum := "1c74f67fa7346cccbbac70f3ee31ddc9467a0af7616506d1388f739fc797b852", func := "loop.example/g00222/laws.FnLogs", spec := "fnLogs", apart := false, narrowed := true }
def FnLogsUptoSaid : Prop := fnLogsUptoRow.holds Try.pinned (OpenSpec.upto fnLogsSpec)

/-- 'laws.FnExactNewNode', WHERE WHAT IT READS IS OF BULK AT MOST 1048576: true; the input reads as it did. -/
def fnExactNewNodeUptoRow : OpenClaim := { program := "ytmdjkdgjmbfegaa", sum := "1c74f67fa7346cccbbac70f3ee31ddc9467a0af7616506d1388f739fc797b852", func := "loop.example/g00222/laws.FnExactNewNode", spec := "fnExactNewNode", apart := false, narrowed := true }
def FnExactNewNodeUptoSaid : Prop := fnExactNewNodeUptoRow.holds Try.pinned (OpenSpec.upto fnExactNewNodeSpec)

/-- 'laws.FnExactCrashNode', WHERE WHAT IT READS IS OF BULK AT MOST 1048576: true; the input reads as it did. -/
def fnExactCrashNodeUptoRow : OpenClaim := { program := "ytmdjkdgjmbfegaa", sum := "1c74f67fa7346cccbbac70f3ee31ddc9467a0af7616506d1388f739fc797b852", func := "loop.example/g00222/laws.FnExactCrashNode", spec := "fnExactCrashNode", unfollowed := true, recurses := true, apart := false, narrowed := true }
def FnExactCrashNodeUptoSaid : Prop := fnExactCrashNodeUptoRow.holds Try.pinned (OpenSpec.upto fnExactCrashNodeSpec)

/-- 'laws.FnExactNewCluster', WHERE WHAT IT READS IS OF BULK AT MOST 1048576: true; the input reads as it did. -/
def fnExactNewClusterUptoRow : OpenClaim := { program := "ytmdjkdgjmbfegaa", sum := "1c74f67fa7346cccbbac70f3ee31ddc9467a0af7616506d1388f739fc797b852", func := "loop.example/g00222/laws.FnExactNewCluster", spec := "fnExactNewCluster", apart := false, narrowed := true }
def FnExactNewClusterUptoSaid : Prop := fnExactNewClusterUptoRow.holds Try.pinned (OpenSpec.upto fnExactNewClusterSpec)

end Rows
end Go.Proofs.Ytmdjkdgjmbfegaa
