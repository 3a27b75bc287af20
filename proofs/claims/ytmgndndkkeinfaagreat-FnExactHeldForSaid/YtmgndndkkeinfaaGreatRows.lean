/-
  No cell of these rows narrows 'for every input' (looked for: loops, veiled, ifaces, maps, wideKeys, modest, calm, conditions, laid).
  DERIVED. THE GIVEN ROWS OF THIS SEAT. 2 by the template 'for every input the law returns true; each argument reads behind the call as it read before'; 0 by the template 'total and deterministic' (their statements: YtmgndndkkeinfaaGreatTotals.lean).
  GIVEN WITH THE SEED: the statements are not yours to turn. If you find one false, say at which input.
  Laid BY PROGRAM, IN A SANDBOX (cutbox-rows.mjs): the forced cells as the released guide's own fill.sh prints them over the translation 1aaef398f061589f… (all of the seat's roots in one cut). By AI agents, Wed Nov 11 2026. No macro, syntax, notation, axiom, sorry.
-/
import Derived.Test.YtmgndndkkeinfaaGreatChecked
import GoSem.Claim
import GoSem.ClaimJoined
import GoSem.ClaimMapViews
import Derived.JoinedTies
import Derived.KernelRfl
namespace Go.Proofs.YtmgndndkkeinfaaGreat
/- THE CELL 'sum', in the pinned program and in every row, IS THE sha256 OF THE DUMP (.gsa) THAT YtmgndndkkeinfaaGreatProg.lean LOADS. Nothing in Lean hashes anything: it is a label: what it is worth is what the hold of that sum in a sandbox is worth. -/
noncomputable def Tryz.pinned : Pinned := { name := "ytmgndndkkeinfaagreat", sum := "1aaef398f061589fe56c132637348549695642aea929068a277b15d50f0669b3", checked := Tryz.checked }
namespace Rows
def none {H : Type} : Left H := { results := [], args := [] }

/-- 'laws.FnExactMuxFault': WHATEVER THE INPUT: true; the input reads as it did. -/
def fnExactMuxFaultSpec : ChangeSpec := { name := "fnExactMuxFault", fn := fun _ => fun
  | [d] => { results := [.lit (.bool true)], args := [d] }
  | _ => none }
def fnExactMuxFaultRow : OpenClaim := { program := "ytmgndndkkeinfaagreat", sum := "1aaef398f061589fe56c132637348549695642aea929068a277b15d50f0669b3", func := "loop.example/g00222/laws.FnExactMuxFault", spec := "fnExactMuxFault", unfollowed := true, recurses := true, apart := false }
def FnExactMuxFaultSaid : Prop := fnExactMuxFaultRow.holds Tryz.pinned (OpenSpec.ofChange fnExactMuxFaultSpec)

/-- ITS FALSE NEIGHBOUR: 'it returns false'. Refute it at one input. -/
def fnExactMuxFaultWrong : ChangeSpec := { name := "fnExactMuxFault", fn := fun _ => fun
  | [d] => { results := [.lit (.bool false)], args := [d] }
  | _ => none }
def FnExactMuxFaultWrongFalsely : Prop := fnExactMuxFaultRow.holds Tryz.pinned (OpenSpec.ofChange fnExactMuxFaultWrong)

/-- 'laws.FnExactHeldFor': WHATEVER THE INPUT: true; the input reads as it did. -/
def fnExactHeldForSpec : ChangeSpec := { name := "fnExactHeldFor", fn := fun _ => fun
  | [d1, d2] => { results := [.lit (.bool true)], args := [d1, d2] }
  | _ => none }
def fnExactHeldForRow : OpenClaim := { program := "ytmgndndkkeinfaagreat", sum := "1aaef398f061589fe56c132637348549695642aea929068a277b15d50f0669b3", func := "loop.example/g00222/laws.FnExactHeldFor", spec := "fnExactHeldFor", unfollowed := true, recurses := true, apart := false }
def FnExactHeldForSaid : Prop := fnExactHeldForRow.holds Tryz.pinned (OpenSpec.ofChange fnExactHeldForSpec)

/-- ITS FALSE NEIGHBOUR: 'it returns false'. Refute it at one input. -/
def fnExactHeldForWrong : ChangeSpec := { name := "fnExactHeldFor", fn := fun _ => fun
  | [d1, d2] => { results := [.lit (.bool false)], args := [d1, d2] }
  | _ => none }
def FnExactHeldForWrongFalsely : Prop := fnExactHeldForRow.holds Tryz.pinned (OpenSpec.ofChange fnExactHeldForWrong)

/- THE SECOND FORM. 'bulk': how many values and letters a reading holds, each counted each time it is reached (what is shared counts as often as it is met; a slice's spare places count too). A statement '..UptoSaid' is the law's where the arguments, and the package variables that the reading takes, are together of bulk at most 1048576: NARROWER than '..Said'. Prove '..Said' where nothing that the law and all that it calls make is longer than what came in: it says more and counts as full. Else prove '..UptoSaid'. A law counts once. -/
mutual
def uptoBulk {H : Type} : DataW H → Nat
  | .lit (.string bytes) => bytes.length + 1
  | .lit _ => 1
  | .nil => 1
  | .ptr d => uptoBulk d + 1
  | .slice elems spare => uptoBulkAll elems + uptoBulkAll spare + 1
  | .agg parts => uptoBulkAll parts + 1
  | .iface _ d => uptoBulk d + 1
  | .map entries => uptoBulkEntries entries + 1
  | .held _ => 1
def uptoBulkAll {H : Type} : List (DataW H) → Nat
  | [] => 0
  | d :: r => uptoBulk d + uptoBulkAll r
def uptoBulkEntries {H : Type} : List (Lit × DataW H) → Nat
  | [] => 0
  | x :: r => uptoBulkEntry x + uptoBulkEntries r
def uptoBulkEntry {H : Type} : Lit × DataW H → Nat
  | (.string bytes, d) => bytes.length + uptoBulk d + 1
  | (_, d) => uptoBulk d + 1
 end
def uptoSmall : (H : Type) → List (DataW H) → Bool := fun _ ds => decide (uptoBulkAll ds ≤ 1048576)
def OpenSpec.upto (s : _root_.Go.ChangeSpec) : _root_.Go.OpenSpec := { _root_.Go.OpenSpec.ofChange s with cond := some uptoSmall }

/-- 'laws.FnExactMuxFault', WHERE WHAT IT READS IS OF BULK AT MOST 1048576: true; the input reads as it did. -/
def fnExactMuxFaultUptoRow : OpenClaim := { program := "ytmgndndkkeinfaagreat", sum := "1aaef398f061589fe56c132637348549695642aea929068a277b15d50f0669b3", func := "loop.example/g00222/laws.FnExactMuxFault", spec := "fnExactMuxFault", unfollowed := true, recurses := true, apart := false, narrowed := true }
def FnExactMuxFaultUptoSaid : Prop := fnExactMuxFaultUptoRow.holds Tryz.pinned (OpenSpec.upto fnExactMuxFaultSpec)

/-- 'laws.FnExactHeldFor', WHERE WHAT IT READS IS OF BULK AT MOST 1048576: true; the input reads as it did. -/
def fnExactHeldForUptoRow : OpenClaim := { program := "ytmgndndkkeinfaagreat", sum := "1aaef398f061589fe56c132637348549695642aea929068a277b15d50f0669b3", func := "loop.example/g00222/laws.FnExactHeldFor", spec := "fnExactHeldFor", unfollowed := true, recurses := true, apart := false, narrowed := true }
def FnExactHeldForUptoSaid : Prop := fnExactHeldForUptoRow.holds Tryz.pinned (OpenSpec.upto fnExactHeldForSpec)

end Rows
end Go.Proofs.YtmgndndkkeinfaaGreat
