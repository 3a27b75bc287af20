/-
  No cell of these rows narrows 'for every input' (looked for: loops, veiled, ifaces, maps, wideKeys, modest, calm, conditions, laid).
  DERIVED. THE GIVEN ROWS OF THIS SEAT. 6 by the template 'for every input the law returns true; each argument reads behind the call as it read before'; 0 by the template 'total and deterministic' (their statements: YtnocoglmchnggaaTotals.lean).
  GIVEN WITH THE SEED: the statements are not yours to turn. If you find one false, say at which input.
  Laid BY PROGRAM, IN A SANDBOX (cutbox-rows.mjs): the forced cells as the released guide's own fill.sh prints them over the translation 8e0832c89713c9ff… (all of the seat's roots in one cut). By AI agents, Wed Nov 11 2026. No macro, syntax, notation, axiom, sorry.
-/
import Derived.Test.YtnocoglmchnggaaChecked
import GoSem.Claim
import GoSem.ClaimJoined
import GoSem.ClaimMapViews
import Derived.JoinedTies
import Derived.KernelRfl
namespace Go.Proofs.Ytnocoglmchnggaa
/- THE CELL 'sum', in the pinned program and in every row, IS THE sha256 OF THE DUMP (.gsa) THAT YtnocoglmchnggaaProg.lean LOADS. Nothing in Lean hashes anything: it is a label: what it is worth is what the hold of that sum in a sandbox is worth. -/
noncomputable def Try.pinned : Pinned := { name := "ytnocoglmchnggaa", sum := "8e0832c89713c9ff499ec34310eadeafde469afffa2c3adce760cf17ce86fe44", checked := Try.checked }
namespace Rows
def none {H : Type} : Left H := { results := [], args := [] }

/-- 'laws.FnExactProbeHealth': WHATEVER THE INPUT: true; the input reads as it did. -/
def fnExactProbeHealthSpec : ChangeSpec := { name := "fnExactProbeHealth", fn := fun _ => fun
  | [d1, d2] => { results := [.lit (.bool true)], args := [d1, d2] }
  | _ => none }
def fnExactProbeHealthRow : OpenClaim := { program := "ytnocoglmchnggaa", sum := "8e0832c89713c9ff499ec34310eadeafde469afffa2c3adce760cf17ce86fe44", func := "loop.example/g00222/laws.FnExactProbeHealth", spec := "fnExactProbeHealth", apart := false }
def FnExactProbeHealthSaid : Prop := fnExactProbeHealthRow.holds Try.pinned (OpenSpec.ofChange fnExactProbeHealthSpec)

/-- ITS FALSE NEIGHBOUR: 'it returns false'. Refute it at one input. -/
def fnExactProbeHealthWrong : ChangeSpec := { name := "fnExactProbeHealth", fn := fun _ => fun
  | [d1, d2] => { results := [.lit (.bool false)], args := [d1, d2] }
  | _ => none }
def FnExactProbeHealthWrongFalsely : Prop := fnExactProbeHealthRow.holds Try.pinned (OpenSpec.ofChange fnExactProbeHealthWrong)

/-- 'laws.FnHealths': WHATEVER THE INPUT: true; the input reads as it did. -/
def fnHealthsSpec : ChangeSpec := { name := "fnHealths", fn := fun _ => fun
  | [d] => { results := [.lit (.bool true)], args := [d] }
  | _ => none }
def fnHealthsRow : OpenClaim := { program := "ytnocoglmchnggaa", sum := "8e0832c89713c9ff499ec34310eadeafde469afffa2c3adce760cf17ce86fe44", func := "loop.example/g00222/laws.FnHealths", spec := "fnHealths", apart := false }
def FnHealthsSaid : Prop := fnHealthsRow.holds Try.pinned (OpenSpec.ofChange fnHealthsSpec)

/-- ITS FALSE NEIGHBOUR: 'it returns false'. Refute it at one input. -/
def fnHealthsWrong : ChangeSpec := { name := "fnHealths", fn := fun _ => fun
  | [d] => { results := [.lit (.bool false)], args := [d] }
  | _ => none }
def FnHealthsWrongFalsely : Prop := fnHealthsRow.holds Try.pinned (OpenSpec.ofChange fnHealthsWrong)

/-- 'laws.FnExactProbeMany': WHATEVER THE INPUT: true; the input reads as it did. -/
def fnExactProbeManySpec : ChangeSpec := { name := "fnExactProbeMany", fn := fun _ => fun
  | [d1, d2] => { results := [.lit (.bool true)], args := [d1, d2] }
  | _ => none }
def fnExactProbeManyRow : OpenClaim := { program := "ytnocoglmchnggaa", sum := "8e0832c89713c9ff499ec34310eadeafde469afffa2c3adce760cf17ce86fe44", func := "loop.example/g00222/laws.FnExactProbeMany", spec := "fnExactProbeMany", apart := false }
def FnExactProbeManySaid : Prop := fnExactProbeManyRow.holds Try.pinned (OpenSpec.ofChange fnExactProbeManySpec)

/-- ITS FALSE NEIGHBOUR: 'it returns false'. Refute it at one input. -/
def fnExactProbeManyWrong : ChangeSpec := { name := "fnExactProbeMany", fn := fun _ => fun
  | [d1, d2] => { results := [.lit (.bool false)], args := [d1, d2] }
  | _ => none }
def FnExactProbeManyWrongFalsely : Prop := fnExactProbeManyRow.holds Try.pinned (OpenSpec.ofChange fnExactProbeManyWrong)

/-- 'laws.FnExactVerdictFor': WHATEVER THE INPUT: true; the input reads as it did. -/
def fnExactVerdictForSpec : ChangeSpec := { name := "fnExactVerdictFor", fn := fun _ => fun
  | [d1, d2, d3] => { results := [.lit (.bool true)], args := [d1, d2, d3] }
  | _ => none }
def fnExactVerdictForRow : OpenClaim := { program := "ytnocoglmchnggaa", sum := "8e0832c89713c9ff499ec34310eadeafde469afffa2c3adce760cf17ce86fe44", func := "loop.example/g00222/laws.FnExactVerdictFor", spec := "fnExactVerdictFor", apart := false }
def FnExactVerdictForSaid : Prop := fnExactVerdictForRow.holds Try.pinned (OpenSpec.ofChange fnExactVerdictForSpec)

/-- ITS FALSE NEIGHBOUR: 'it returns false'. Refute it at one input. -/
def fnExactVerdictForWrong : ChangeSpec := { name := "fnExactVerdictFor", fn := fun _ => fun
  | [d1, d2, d3] => { results := [.lit (.bool false)], args := [d1, d2, d3] }
  | _ => none }
def FnExactVerdictForWrongFalsely : Prop := fnExactVerdictForRow.holds Try.pinned (OpenSpec.ofChange fnExactVerdictForWrong)

/-- 'laws.FnExactSameMachines': WHATEVER THE INPUT: true; the input reads as it did. -/
def fnExactSameMachinesSpec : ChangeSpec := { name := "fnExactSameMachines", fn := fun _ => fun
  | [d1, d2] => { results := [.lit (.bool true)], args := [d1, d2] }
  | _ => none }
def fnExactSameMachinesRow : OpenClaim := { program := "ytnocoglmchnggaa", sum := "8e0832c89713c9ff499ec34310eadeafde469afffa2c3adce760cf17ce86fe44", func := "loop.example/g00222/laws.FnExactSameMachines", spec := "fnExactSameMachines", unfollowed := true, recurses := true, apart := false }
def FnExactSameMachinesSaid : Prop := fnExactSameMachinesRow.holds Try.pinned (OpenSpec.ofChange fnExactSameMachinesSpec)

/-- ITS FALSE NEIGHBOUR: 'it returns false'. Refute it at one input. -/
def fnExactSameMachinesWrong : ChangeSpec := { name := "fnExactSameMachines", fn := fun _ => fun
  | [d1, d2] => { results := [.lit (.bool false)], args := [d1, d2] }
  | _ => none }
def FnExactSameMachinesWrongFalsely : Prop := fnExactSameMachinesRow.holds Try.pinned (OpenSpec.ofChange fnExactSameMachinesWrong)

/-- 'laws.FnExactWatchFault': WHATEVER THE INPUT: true; the input reads as it did. -/
def fnExactWatchFaultSpec : ChangeSpec := { name := "fnExactWatchFault", fn := fun _ => fun
  | [d] => { results := [.lit (.bool true)], args := [d] }
  | _ => none }
def fnExactWatchFaultRow : OpenClaim := { program := "ytnocoglmchnggaa", sum := "8e0832c89713c9ff499ec34310eadeafde469afffa2c3adce760cf17ce86fe44", func := "loop.example/g00222/laws.FnExactWatchFault", spec := "fnExactWatchFault", unfollowed := true, recurses := true, apart := false }
def FnExactWatchFaultSaid : Prop := fnExactWatchFaultRow.holds Try.pinned (OpenSpec.ofChange fnExactWatchFaultSpec)

/-- ITS FALSE NEIGHBOUR: 'it returns false'. Refute it at one input. -/
def fnExactWatchFaultWrong : ChangeSpec := { name := "fnExactWatchFault", fn := fun _ => fun
  | [d] => { results := [.lit (.bool false)], args := [d] }
  | _ => none }
def FnExactWatchFaultWrongFalsely : Prop := fnExactWatchFaultRow.holds Try.pinned (OpenSpec.ofChange fnExactWatchFaultWrong)

/- THE SECOND FORM. 'bulk': how many values and letters a reading holds, each counted each time it is reached (what is shared counts as often as it is met; a slice's spare places count too). A statement '..UptoSaid' is the law's where the arguments, and the package variables that the reading takes, are together of bulk at most 1048576: NARROWER than '..Said'. Prove '..Said' where nothing that the law and all that it calls make is longer than what came in: it says more and counts as full. Else prove '..UptoSaid'. A law counts once. -/
mutual
def uptoBulk {H : Type} : DataW H → Nat
  | .lit (.string bytes) => bytes.length + 1
  | .lit _ => 1
  | .nil => 1
  | .ptr d => uptoBulk d + 1
  | .slice elems spare => uptoBulkAll elems + uptoBulkAll spare + 1
  | .agg parts => uptoBulkAll parts + 1
  | .iface _ d => uptoBulk d + 1
  | .map entries => uptoBulkEntries entries + 1
  | .held _ => 1
def uptoBulkAll {H : Type} : List (DataW H) → Nat
  | [] => 0
  | d :: r => uptoBulk d + uptoBulkAll r
def uptoBulkEntries {H : Type} : List (Lit × DataW H) → Nat
  | [] => 0
  | x :: r => uptoBulkEntry x + uptoBulkEntries r
def uptoBulkEntry {H : Type} : Lit × DataW H → Nat
  | (.string bytes, d) => bytes.length + uptoBulk d + 1
  | (_, d) => uptoBulk d + 1
 end
def uptoSmall : (H : Type) → List (DataW H) → Bool := fun _ ds => decide (uptoBulkAll ds ≤ 1048576)
def OpenSpec.upto (s : _root_.Go.ChangeSpec) : _root_.Go.OpenSpec := { _root_.Go.OpenSpec.ofChange s with cond := some uptoSmall }

/-- 'laws.FnExactProbeHealth', WHERE WHAT IT READS IS OF BULK AT MOST 1048576: true; the input reads as it did. -/
def fnExactProbeHealthUptoRow : OpenClaim := { program := "ytnocoglmchnggaa", sum := "8e0832c89713c9ff499ec34310eadeafde469afffa2c3adce760cf17ce86fe44", func := "loop.example/g00222/laws.FnExactProbeHealth", spec := "fnExactProbeHealth", apart := false, narrowed := true }
def FnExactProbeHealthUptoSaid : Prop := fnExactProbeHealthUptoRow.holds Try.pinned (OpenSpec.upto fnExactProbeHealthSpec)

/-- 'laws.FnHealths', WHERE WHAT IT READS IS OF BULK AT MOST 1048576: true; the input reads as it did. -/
def fnHealthsUptoRow : OpenClaim := { program := "ytnocoglmchnggaa", sum := "8e0832c89713c9ff499ec34310eadeafde469afffa2c3adce760cf17ce86fe44", func := "loop.example/g00222/laws.FnHealths", spec := "fnHealths", apart := false, narrowed := true }
def FnHealthsUptoSaid : Prop := fnHealthsUptoRow.holds Try.pinned (OpenSpec.upto fnHealthsSpec)

/-- 'laws.FnExactProbeMany', WHERE WHAT IT READS IS OF BULK AT MOST 1048576: true; the input reads as it did. -/
def fnExactProbeManyUptoRow : OpenClaim := { program := "ytnocoglmchnggaa", sum := "8e0832c89713c9ff499ec34310eadeafde469afffa2c3adce760cf17ce86fe44", func := "loop.example/g00222/laws.FnExactProbeMany", spec := "fnExactProbeMany", apart := false, narrowed := true }
def FnExactProbeManyUptoSaid : Prop := fnExactProbeManyUptoRow.holds Try.pinned (OpenSpec.upto fnExactProbeManySpec)

/-- 'laws.FnExactVerdictFor', WHERE WHAT IT READS IS OF BULK AT MOST 1048576: true; the input reads as it did. -/
def fnExactVerdictForUptoRow : OpenClaim := { program := "ytnocoglmchnggaa", sum := "8e0832c89713c9ff499ec34310eadeafde469afffa2c3adce760cf17ce86fe44", func := "loop.example/g00222/laws.FnExactVerdictFor", spec := "fnExactVerdictFor", apart := false, narrowed := true }
def FnExactVerdictForUptoSaid : Prop := fnExactVerdictForUptoRow.holds Try.pinned (OpenSpec.upto fnExactVerdictForSpec)

/-- 'laws.FnExactSameMachines', WHERE WHAT IT READS IS OF BULK AT MOST 1048576: true; the input reads as it did. -/
def fnExactSameMachinesUptoRow : OpenClaim := { program := "ytnocoglmchnggaa", sum := "8e0832c89713c9ff499ec34310eadeafde469afffa2c3adce760cf17ce86fe44", func := "loop.example/g00222/laws.FnExactSameMachines", spec := "fnExactSameMachines", unfollowed := true, recurses := true, apart := false, narrowed := true }
def FnExactSameMachinesUptoSaid : Prop := fnExactSameMachinesUptoRow.holds Try.pinned (OpenSpec.upto fnExactSameMachinesSpec)

/-- 'laws.FnExactWatchFault', WHERE WHAT IT READS IS OF BULK AT MOST 1048576: true; the input reads as it did. -/
def fnExactWatchFaultUptoRow : OpenClaim := { program := "ytnocoglmchnggaa", sum := "8e0832c89713c9ff499ec34310eadeafde469afffa2c3adce760cf17ce86fe44", func := "loop.example/g00222/laws.FnExactWatchFault", spec := "fnExactWatchFault", unfollowed := true, recurses := true, apart := false, narrowed := true }
def FnExactWatchFaultUptoSaid : Prop := fnExactWatchFaultUptoRow.holds Try.pinned (OpenSpec.upto fnExactWatchFaultSpec)

end Rows
end Go.Proofs.Ytnocoglmchnggaa
