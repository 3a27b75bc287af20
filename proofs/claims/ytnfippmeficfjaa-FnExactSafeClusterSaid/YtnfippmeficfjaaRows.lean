/-
  No cell of these rows narrows 'for every input' (looked for: loops, veiled, ifaces, maps, wideKeys, modest, calm, conditions, laid).
  DERIVED. THE GIVEN ROWS OF THIS SEAT. 4 by the template 'for every input the law returns true; each argument reads behind the call as it read before'; 0 by the template 'total and deterministic' (their statements: YtnfippmeficfjaaTotals.lean).
  GIVEN WITH THE SEED: the statements are not yours to turn. If you find one false, say at which input.
  Laid BY PROGRAM, IN A SANDBOX (cutbox-rows.mjs): the forced cells as the released guide's own fill.sh prints them over the translation 2790261202d5bd26… (all of the seat's roots in one cut). By AI agents, Wed Nov 11 2026. No macro, syntax, notation, axiom, sorry.
-/
import Derived.Test.YtnfippmeficfjaaChecked
import GoSem.Claim
import GoSem.ClaimJoined
import GoSem.ClaimMapViews
import Derived.JoinedTies
import Derived.KernelRfl
namespace Go.Proofs.Ytnfippmeficfjaa
/- THE CELL 'sum', in the pinned program and in every row, IS THE sha256 OF THE DUMP (.gsa) THAT YtnfippmeficfjaaProg.lean LOADS. Nothing in Lean hashes anything: it is a label: what it is worth is what the hold of that sum in a sandbox is worth. -/
noncomputable def Try.pinned : Pinned := { name := "ytnfippmeficfjaa", sum := "2790261202d5bd267da5fd279061a068726b895e3ac96237693d793bf2061287", checked := Try.checked }
namespace Rows
def none {H : Type} : Left H := { results := [], args := [] }

/-- 'laws.FnExactLogsMatch': WHATEVER THE INPUT: true; the input reads as it did. -/
def fnExactLogsMatchSpec : ChangeSpec := { name := "fnExactLogsMatch", fn := fun _ => fun
  | [d] => { results := [.lit (.bool true)], args := [d] }
  | _ => none }
def fnExactLogsMatchRow : OpenClaim := { program := "ytnfippmeficfjaa", sum := "2790261202d5bd267da5fd279061a068726b895e3ac96237693d793bf2061287", func := "loop.example/g00222/laws.FnExactLogsMatch", spec := "fnExactLogsMatch", unfollowed := true, recurses := true, apart := false }
def FnExactLogsMatchSaid : Prop := fnExactLogsMatchRow.holds Try.pinned (OpenSpec.ofChange fnExactLogsMatchSpec)

/-- ITS FALSE NEIGHBOUR: 'it returns false'. Refute it at one input. -/
def fnExactLogsMatchWrong : ChangeSpec := { name := "fnExactLogsMatch", fn := fun _ => fun
  | [d] => { results := [.lit (.bool false)], args := [d] }
  | _ => none }
def FnExactLogsMatchWrongFalsely : Prop := fnExactLogsMatchRow.holds Try.pinned (OpenSpec.ofChange fnExactLogsMatchWrong)

/-- 'laws.FnExactSealsKept': WHATEVER THE INPUT: true; the input reads as it did. -/
def fnExactSealsKeptSpec : ChangeSpec := { name := "fnExactSealsKept", fn := fun _ => fun
  | [d] => { results := [.lit (.bool true)], args := [d] }
  | _ => none }
def fnExactSealsKeptRow : OpenClaim := { program := "ytnfippmeficfjaa", sum := "2790261202d5bd267da5fd279061a068726b895e3ac96237693d793bf2061287", func := "loop.example/g00222/laws.FnExactSealsKept", spec := "fnExactSealsKept", unfollowed := true, recurses := true, apart := false }
def FnExactSealsKeptSaid : Prop := fnExactSealsKeptRow.holds Try.pinned (OpenSpec.ofChange fnExactSealsKeptSpec)

/-- ITS FALSE NEIGHBOUR: 'it returns false'. Refute it at one input. -/
def fnExactSealsKeptWrong : ChangeSpec := { name := "fnExactSealsKept", fn := fun _ => fun
  | [d] => { results := [.lit (.bool false)], args := [d] }
  | _ => none }
def FnExactSealsKeptWrongFalsely : Prop := fnExactSealsKeptRow.holds Try.pinned (OpenSpec.ofChange fnExactSealsKeptWrong)

/-- 'laws.FnExactSafeCluster': WHATEVER THE INPUT: true; the input reads as it did. -/
def fnExactSafeClusterSpec : ChangeSpec := { name := "fnExactSafeCluster", fn := fun _ => fun
  | [d] => { results := [.lit (.bool true)], args := [d] }
  | _ => none }
def fnExactSafeClusterRow : OpenClaim := { program := "ytnfippmeficfjaa", sum := "2790261202d5bd267da5fd279061a068726b895e3ac96237693d793bf2061287", func := "loop.example/g00222/laws.FnExactSafeCluster", spec := "fnExactSafeCluster", unfollowed := true, recurses := true, apart := false }
def FnExactSafeClusterSaid : Prop := fnExactSafeClusterRow.holds Try.pinned (OpenSpec.ofChange fnExactSafeClusterSpec)

/-- ITS FALSE NEIGHBOUR: 'it returns false'. Refute it at one input. -/
def fnExactSafeClusterWrong : ChangeSpec := { name := "fnExactSafeCluster", fn := fun _ => fun
  | [d] => { results := [.lit (.bool false)], args := [d] }
  | _ => none }
def FnExactSafeClusterWrongFalsely : Prop := fnExactSafeClusterRow.holds Try.pinned (OpenSpec.ofChange fnExactSafeClusterWrong)

/-- 'laws.FnExactAgreedOf': WHATEVER THE INPUT: true; the input reads as it did. -/
def fnExactAgreedOfSpec : ChangeSpec := { name := "fnExactAgreedOf", fn := fun _ => fun
  | [d] => { results := [.lit (.bool true)], args := [d] }
  | _ => none }
def fnExactAgreedOfRow : OpenClaim := { program := "ytnfippmeficfjaa", sum := "2790261202d5bd267da5fd279061a068726b895e3ac96237693d793bf2061287", func := "loop.example/g00222/laws.FnExactAgreedOf", spec := "fnExactAgreedOf", unfollowed := true, recurses := true, apart := false }
def FnExactAgreedOfSaid : Prop := fnExactAgreedOfRow.holds Try.pinned (OpenSpec.ofChange fnExactAgreedOfSpec)

/-- ITS FALSE NEIGHBOUR: 'it returns false'. Refute it at one input. -/
def fnExactAgreedOfWrong : ChangeSpec := { name := "fnExactAgreedOf", fn := fun _ => fun
  | [d] => { results := [.lit (.bool false)], args := [d] }
  | _ => none }
def FnExactAgreedOfWrongFalsely : Prop := fnExactAgreedOfRow.holds Try.pinned (OpenSpec.ofChange fnExactAgreedOfWrong)

/- THE SECOND FORM. 'bulk': how many values and letters a reading holds, each counted each time it is reached (what is shared counts as often as it is met; a slice's spare places count too). A statement '..UptoSaid' is the law's where the arguments, and the package variables that the reading takes, are together of bulk at most 1048576: NARROWER than '..Said'. Prove '..Said' where nothing that the law and all that it calls make is longer than what came in: it says more and counts as full. Else prove '..UptoSaid'. A law counts once. -/
mutual
def uptoBulk {H : Type} : DataW H → Nat
  | .lit (.string bytes) => bytes.length + 1
  | .lit _ => 1
  | .nil => 1
  | .ptr d => uptoBulk d + 1
  | .slice elems spare => uptoBulkAll elems + uptoBulkAll spare + 1
  | .agg parts => uptoBulkAll parts + 1
  | .iface _ d => uptoBulk d + 1
  | .map entries => uptoBulkEntries entries + 1
  | .held _ => 1
def uptoBulkAll {H : Type} : List (DataW H) → Nat
  | [] => 0
  | d :: r => uptoBulk d + uptoBulkAll r
def uptoBulkEntries {H : Type} : List (Lit × DataW H) → Nat
  | [] => 0
  | x :: r => uptoBulkEntry x + uptoBulkEntries r
def uptoBulkEntry {H : Type} : Lit × DataW H → Nat
  | (.string bytes, d) => bytes.length + uptoBulk d + 1
  | (_, d) => uptoBulk d + 1
 end
def uptoSmall : (H : Type) → List (DataW H) → Bool := fun _ ds => decide (uptoBulkAll ds ≤ 1048576)
def OpenSpec.upto (s : _root_.Go.ChangeSpec) : _root_.Go.OpenSpec := { _root_.Go.OpenSpec.ofChange s with cond := some uptoSmall }

/-- 'laws.FnExactLogsMatch', WHERE WHAT IT READS IS OF BULK AT MOST 1048576: true; the input reads as it did. -/
def fnExactLogsMatchUptoRow : OpenClaim := { program := "ytnfippmeficfjaa", sum := "2790261202d5bd267da5fd279061a068726b895e3ac96237693d793bf2061287", func := "loop.example/g00222/laws.FnExactLogsMatch", spec := "fnExactLogsMatch", unfollowed := true, recurses := true, apart := false, narrowed := true }
def FnExactLogsMatchUptoSaid : Prop := fnExactLogsMatchUptoRow.holds Try.pinned (OpenSpec.upto fnExactLogsMatchSpec)

/-- 'laws.FnExactSealsKept', WHERE WHAT IT READS IS OF BULK AT MOST 1048576: true; the input reads as it did. -/
def fnExactSealsKeptUptoRow : OpenClaim := { program := "ytnfippmeficfjaa", sum := "2790261202d5bd267da5fd279061a068726b895e3ac96237693d793bf2061287", func := "loop.example/g00222/laws.FnExactSealsKept", spec := "fnExactSealsKept", unfollowed := true, recurses := true, apart := false, narrowed := true }
def FnExactSealsKeptUptoSaid : Prop := fnExactSealsKeptUptoRow.holds Try.pinned (OpenSpec.upto fnExactSealsKeptSpec)

/-- 'laws.FnExactSafeCluster', WHERE WHAT IT READS IS OF BULK AT MOST 1048576: true; the input reads as it did. -/
def fnExactSafeClusterUptoRow : OpenClaim := { program := "ytnfippmeficfjaa", sum := "2790261202d5bd267da5fd279061a068726b895e3ac96237693d793bf2061287", func := "loop.example/g00222/laws.FnExactSafeCluster", spec := "fnExactSafeCluster", unfollowed := true, recurses := true, apart := false, narrowed := true }
def FnExactSafeClusterUptoSaid : Prop := fnExactSafeClusterUptoRow.holds Try.pinned (OpenSpec.upto fnExactSafeClusterSpec)

/-- 'laws.FnExactAgreedOf', WHERE WHAT IT READS IS OF BULK AT MOST 1048576: true; the input reads as it did. -/
def fnExactAgreedOfUptoRow : OpenClaim := { program := "ytnfippmeficfjaa", sum := "2790261202d5bd267da5fd279061a068726b895e3ac96237693d793bf2061287", func := "loop.example/g00222/laws.FnExactAgreedOf", spec := "fnExactAgreedOf", unfollowed := true, recurses := true, apart := false, narrowed := true }
def FnExactAgreedOfUptoSaid : Prop := fnExactAgreedOfUptoRow.holds Try.pinned (OpenSpec.upto fnExactAgreedOfSpec)

end Rows
end Go.Proofs.Ytnfippmeficfjaa
