/-
  No cell of these rows narrows 'for every input' (looked for: loops, veiled, ifaces, maps, wideKeys, modest, calm, conditions, laid).
  DERIVED. THE GIVEN ROWS OF THIS SEAT. 3 by the template 'for every input the law returns true; each argument reads behind the call as it read before'; 0 by the template 'total and deterministic' (their statements: YtcmfekgdlaffkaaTotals.lean).
  GIVEN WITH THE SEED: the statements are not yours to turn. If you find one false, say at which input.
  Laid BY PROGRAM, IN A SANDBOX (cutbox-rows.mjs): the forced cells as the released guide's own fill.sh prints them over the translation db4f626952f95ae6… (all of the seat's roots in one cut). By AI agents, Wed Nov 11 2026. No macro, syntax, notation, axiom, sorry.
-/
import Derived.Test.YtcmfekgdlaffkaaChecked
import GoSem.Claim
import GoSem.ClaimJoined
import GoSem.ClaimMapViews
import Derived.JoinedTies
import Derived.KernelRfl
namespace Go.Proofs.Ytcmfekgdlaffkaa
/- THE CELL 'sum', in the pinned program and in every row, IS THE sha256 OF THE DUMP (.gsa) THAT YtcmfekgdlaffkaaProg.lean LOADS. Nothing in Lean hashes anything: it is a label: what it is worth is what the hold of that sum in a sandbox is worth. -/
noncomputable def Try.pinned : Pinned := { name := "ytcmfekgdlaffkaa", sum := "db4f626952f95ae63d51cbac399ed78343a581cc4302e1b7c54f77c704dffc6a", checked := Try.checked }
namespace Rows
def none {H : Type} : Left H := { results := [], args := [] }

/-- 'laws.FnExactUnpackConfig': WHATEVER THE INPUT: true; the input reads as it did. -/
def fnExactUnpackConfigSpec : ChangeSpec := { name := "fnExactUnpackConfig", fn := fun _ => fun
  | [d] => { results := [.lit (.bool true)], args := [d] }
  | _ => none }
def fnExactUnpackConfigRow : OpenClaim := { program := "ytcmfekgdlaffkaa", sum := "db4f626952f95ae63d51cbac399ed78343a581cc4302e1b7c54f77c704dffc6a", func := "loop.example/g00222/laws.FnExactUnpackConfig", spec := "fnExactUnpackConfig", unfollowed := true, recurses := true, apart := false }
def FnExactUnpackConfigSaid : Prop := fnExactUnpackConfigRow.holds Try.pinned (OpenSpec.ofChange fnExactUnpackConfigSpec)

/-- ITS FALSE NEIGHBOUR: 'it returns false'. Refute it at one input. -/
def fnExactUnpackConfigWrong : ChangeSpec := { name := "fnExactUnpackConfig", fn := fun _ => fun
  | [d] => { results := [.lit (.bool false)], args := [d] }
  | _ => none }
def FnExactUnpackConfigWrongFalsely : Prop := fnExactUnpackConfigRow.holds Try.pinned (OpenSpec.ofChange fnExactUnpackConfigWrong)

/-- 'laws.FnCodecs': WHATEVER THE INPUT: true; the input reads as it did. -/
def fnCodecsSpec : ChangeSpec := { name := "fnCodecs", fn := fun _ => fun
  | [d] => { results := [.lit (.bool true)], args := [d] }
  | _ => none }
def fnCodecsRow : OpenClaim := { program := "ytcmfekgdlaffkaa", sum := "db4f626952f95ae63d51cbac399ed78343a581cc4302e1b7c54f77c704dffc6a", func := "loop.example/g00222/laws.FnCodecs", spec := "fnCodecs", unfollowed := true, recurses := true, apart := false }
def FnCodecsSaid : Prop := fnCodecsRow.holds Try.pinned (OpenSpec.ofChange fnCodecsSpec)

/-- ITS FALSE NEIGHBOUR: 'it returns false'. Refute it at one input. -/
def fnCodecsWrong : ChangeSpec := { name := "fnCodecs", fn := fun _ => fun
  | [d] => { results := [.lit (.bool false)], args := [d] }
  | _ => none }
def FnCodecsWrongFalsely : Prop := fnCodecsRow.holds Try.pinned (OpenSpec.ofChange fnCodecsWrong)

/-- 'laws.FnExactMayGo': WHATEVER THE INPUT: true; the input reads as it did. -/
def fnExactMayGoSpec : ChangeSpec := { name := "fnExactMayGo", fn := fun _ => fun
  | [d1, d2, d3, d4] => { results := [.lit (.bool true)], args := [d1, d2, d3, d4] }
  | _ => none }
def fnExactMayGoRow : OpenClaim := { program := "ytcmfekgdlaffkaa", sum := "db4f626952f95ae63d51cbac399ed78343a581cc4302e1b7c54f77c704dffc6a", func := "loop.example/g00222/laws.FnExactMayGo", spec := "fnExactMayGo", unfollowed := true, recurses := true, apart := false }
def FnExactMayGoSaid : Prop := fnExactMayGoRow.holds Try.pinned (OpenSpec.ofChange fnExactMayGoSpec)

/-- ITS FALSE NEIGHBOUR: 'it returns false'. Refute it at one input. -/
def fnExactMayGoWrong : ChangeSpec := { name := "fnExactMayGo", fn := fun _ => fun
  | [d1, d2, d3, d4] => { results := [.lit (.bool false)], args := [d1, d2, d3, d4] }
  | _ => none }
def FnExactMayGoWrongFalsely : Prop := fnExactMayGoRow.holds Try.pinned (OpenSpec.ofChange fnExactMayGoWrong)

/- THE SECOND FORM. 'bulk': how many values and letters a reading holds, each counted each time it is reached (what is shared counts as often as it is met; a slice's spare places count too). A statement '..UptoSaid' is the law's where the arguments, and the package variables that the reading takes, are together of bulk at most 1048576: NARROWER than '..Said'. Prove '..Said' where nothing that the law and all that it calls make is longer than what came in: it says more and counts as full. Else prove '..UptoSaid'. A law counts once. -/
mutual
def uptoBulk {H : Type} : DataW H → Nat
  | .lit (.string bytes) => bytes.length + 1
  | .lit _ => 1
  | .nil => 1
  | .ptr d => uptoBulk d + 1
  | .slice elems spare => uptoBulkAll elems + uptoBulkAll spare + 1
  | .agg parts => uptoBulkAll parts + 1
  | .iface _ d => uptoBulk d + 1
  | .map entries => uptoBulkEntries entries + 1
  | .held _ => 1
def uptoBulkAll {H : Type} : List (DataW H) → Nat
  | [] => 0
  | d :: r => uptoBulk d + uptoBulkAll r
def uptoBulkEntries {H : Type} : List (Lit × DataW H) → Nat
  | [] => 0
  | x :: r => uptoBulkEntry x + uptoBulkEntries r
def uptoBulkEntry {H : Type} : Lit × DataW H → Nat
  | (.string bytes, d) => bytes.length + uptoBulk d + 1
  | (_, d) => uptoBulk d + 1
 end
def uptoSmall : (H : Type) → List (DataW H) → Bool := fun _ ds => decide (uptoBulkAll ds ≤ 1048576)
def OpenSpec.upto (s : _root_.Go.ChangeSpec) : _root_.Go.OpenSpec := { _root_.Go.OpenSpec.ofChange s with cond := some uptoSmall }

/-- 'laws.FnExactUnpackConfig', WHERE WHAT IT READS IS OF BULK AT MOST 1048576: true; the input reads as it did. -/
def fnExactUnpackConfigUptoRow : OpenClaim := { program := "ytcmfekgdlaffkaa", sum := "db4f626952f95ae63d51cbac399ed78343a581cc4302e1b7c54f77c704dffc6a", func := "loop.example/g00222/laws.FnExactUnpackConfig", spec := "fnExactUnpackConfig", unfollowed := true, recurses := true, apart := false, narrowed := true }
def FnExactUnpackConfigUptoSaid : Prop := fnExactUnpackConfigUptoRow.holds Try.pinned (OpenSpec.upto fnExactUnpackConfigSpec)

/-- 'laws.FnCodecs', WHERE WHAT IT READS IS OF BULK AT MOST 1048576: true; the input reads as it did. -/
def fnCodecsUptoRow : OpenClaim := { program := "ytcmfekgdlaffkaa", sum := "db4f626952f95ae63d51cbac399ed78343a581cc4302e1b7c54f77c704dffc6a", func := "loop.example/g00222/laws.FnCodecs", spec := "fnCodecs", unfollowed := true, recurses := true, apart := false, narrowed := true }
def FnCodecsUptoSaid : Prop := fnCodecsUptoRow.holds Try.pinned (OpenSpec.upto fnCodecsSpec)

/-- 'laws.FnExactMayGo', WHERE WHAT IT READS IS OF BULK AT MOST 1048576: true; the input reads as it did. -/
def fnExactMayGoUptoRow : OpenClaim := { program := "ytcmfekgdlaffkaa", sum := "db4f626952f95ae63d51cbac399ed78343a581cc4302e1b7c54f77c704dffc6a", func := "loop.example/g00222/laws.FnExactMayGo", spec := "fnExactMayGo", unfollowed := true, recurses := true, apart := false, narrowed := true }
def FnExactMayGoUptoSaid : Prop := fnExactMayGoUptoRow.holds Try.pinned (OpenSpec.upto fnExactMayGoSpec)

end Rows
end Go.Proofs.Ytcmfekgdlaffkaa
