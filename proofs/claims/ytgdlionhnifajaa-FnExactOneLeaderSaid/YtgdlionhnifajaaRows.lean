/-
  No cell of these rows narrows 'for every input' (looked for: loops, veiled, ifaces, maps, wideKeys, modest, calm, conditions, laid).
  DERIVED. THE GIVEN ROWS OF THIS SEAT. 6 by the template 'for every input the law returns true; each argument reads behind the call as it read before'; 0 by the template 'total and deterministic' (their statements: YtgdlionhnifajaaTotals.lean).
  GIVEN WITH THE SEED: the statements are not yours to turn. If you find one false, say at which input.
  Laid BY PROGRAM, IN A SANDBOX (cutbox-rows.mjs): the forced cells as the released guide's own fill.sh prints them over the translation 667b07d70483f016… (all of the seat's roots in one cut). By AI agents, Wed Nov 11 2026. No macro, syntax, notation, axiom, sorry.
-/
import Derived.Test.YtgdlionhnifajaaChecked
import GoSem.Claim
import GoSem.ClaimJoined
import GoSem.ClaimMapViews
import Derived.JoinedTies
import Derived.KernelRfl
namespace Go.Proofs.Ytgdlionhnifajaa
/- THE CELL 'sum', in the pinned program and in every row, IS THE sha256 OF THE DUMP (.gsa) THAT YtgdlionhnifajaaProg.lean LOADS. Nothing in Lean hashes anything: it is a label: what it is worth is what the hold of that sum in a sandbox is worth. -/
noncomputable def Try.pinned : Pinned := { name := "ytgdlionhnifajaa", sum := "667b07d70483f016f30a481d4c8be2e77aafa1a8eb72b6eb83604e659e38ba81", checked := Try.checked }
namespace Rows
def none {H : Type} : Left H := { results := [], args := [] }

/-- 'laws.FnExactCommitOf': WHATEVER THE INPUT: true; the input reads as it did. -/
def fnExactCommitOfSpec : ChangeSpec := { name := "fnExactCommitOf", fn := fun _ => fun
  | [d] => { results := [.lit (.bool true)], args := [d] }
  | _ => none }
def fnExactCommitOfRow : OpenClaim := { program := "ytgdlionhnifajaa", sum := "667b07d70483f016f30a481d4c8be2e77aafa1a8eb72b6eb83604e659e38ba81", func := "loop.example/g00222/laws.FnExactCommitOf", spec := "fnExactCommitOf", unfollowed := true, recurses := true, apart := false }
def FnExactCommitOfSaid : Prop := fnExactCommitOfRow.holds Try.pinned (OpenSpec.ofChange fnExactCommitOfSpec)

/-- ITS FALSE NEIGHBOUR: 'it returns false'. Refute it at one input. -/
def fnExactCommitOfWrong : ChangeSpec := { name := "fnExactCommitOf", fn := fun _ => fun
  | [d] => { results := [.lit (.bool false)], args := [d] }
  | _ => none }
def FnExactCommitOfWrongFalsely : Prop := fnExactCommitOfRow.holds Try.pinned (OpenSpec.ofChange fnExactCommitOfWrong)

/-- 'laws.FnExactMailFault': WHATEVER THE INPUT: true; the input reads as it did. -/
def fnExactMailFaultSpec : ChangeSpec := { name := "fnExactMailFault", fn := fun _ => fun
  | [d1, d2] => { results := [.lit (.bool true)], args := [d1, d2] }
  | _ => none }
def fnExactMailFaultRow : OpenClaim := { program := "ytgdlionhnifajaa", sum := "667b07d70483f016f30a481d4c8be2e77aafa1a8eb72b6eb83604e659e38ba81", func := "loop.example/g00222/laws.FnExactMailFault", spec := "fnExactMailFault", unfollowed := true, recurses := true, apart := false }
def FnExactMailFaultSaid : Prop := fnExactMailFaultRow.holds Try.pinned (OpenSpec.ofChange fnExactMailFaultSpec)

/-- ITS FALSE NEIGHBOUR: 'it returns false'. Refute it at one input. -/
def fnExactMailFaultWrong : ChangeSpec := { name := "fnExactMailFault", fn := fun _ => fun
  | [d1, d2] => { results := [.lit (.bool false)], args := [d1, d2] }
  | _ => none }
def FnExactMailFaultWrongFalsely : Prop := fnExactMailFaultRow.holds Try.pinned (OpenSpec.ofChange fnExactMailFaultWrong)

/-- 'laws.FnExactClusterFault': WHATEVER THE INPUT: true; the input reads as it did. -/
def fnExactClusterFaultSpec : ChangeSpec := { name := "fnExactClusterFault", fn := fun _ => fun
  | [d] => { results := [.lit (.bool true)], args := [d] }
  | _ => none }
def fnExactClusterFaultRow : OpenClaim := { program := "ytgdlionhnifajaa", sum := "667b07d70483f016f30a481d4c8be2e77aafa1a8eb72b6eb83604e659e38ba81", func := "loop.example/g00222/laws.FnExactClusterFault", spec := "fnExactClusterFault", unfollowed := true, recurses := true, apart := false }
def FnExactClusterFaultSaid : Prop := fnExactClusterFaultRow.holds Try.pinned (OpenSpec.ofChange fnExactClusterFaultSpec)

/-- ITS FALSE NEIGHBOUR: 'it returns false'. Refute it at one input. -/
def fnExactClusterFaultWrong : ChangeSpec := { name := "fnExactClusterFault", fn := fun _ => fun
  | [d] => { results := [.lit (.bool false)], args := [d] }
  | _ => none }
def FnExactClusterFaultWrongFalsely : Prop := fnExactClusterFaultRow.holds Try.pinned (OpenSpec.ofChange fnExactClusterFaultWrong)

/-- 'laws.FnExactOneLeader': WHATEVER THE INPUT: true; the input reads as it did. -/
def fnExactOneLeaderSpec : ChangeSpec := { name := "fnExactOneLeader", fn := fun _ => fun
  | [d] => { results := [.lit (.bool true)], args := [d] }
  | _ => none }
def fnExactOneLeaderRow : OpenClaim := { program := "ytgdlionhnifajaa", sum := "667b07d70483f016f30a481d4c8be2e77aafa1a8eb72b6eb83604e659e38ba81", func := "loop.example/g00222/laws.FnExactOneLeader", spec := "fnExactOneLeader", unfollowed := true, recurses := true, apart := false }
def FnExactOneLeaderSaid : Prop := fnExactOneLeaderRow.holds Try.pinned (OpenSpec.ofChange fnExactOneLeaderSpec)

/-- ITS FALSE NEIGHBOUR: 'it returns false'. Refute it at one input. -/
def fnExactOneLeaderWrong : ChangeSpec := { name := "fnExactOneLeader", fn := fun _ => fun
  | [d] => { results := [.lit (.bool false)], args := [d] }
  | _ => none }
def FnExactOneLeaderWrongFalsely : Prop := fnExactOneLeaderRow.holds Try.pinned (OpenSpec.ofChange fnExactOneLeaderWrong)

/-- 'laws.FnExactLeadersHave': WHATEVER THE INPUT: true; the input reads as it did. -/
def fnExactLeadersHaveSpec : ChangeSpec := { name := "fnExactLeadersHave", fn := fun _ => fun
  | [d] => { results := [.lit (.bool true)], args := [d] }
  | _ => none }
def fnExactLeadersHaveRow : OpenClaim := { program := "ytgdlionhnifajaa", sum := "667b07d70483f016f30a481d4c8be2e77aafa1a8eb72b6eb83604e659e38ba81", func := "loop.example/g00222/laws.FnExactLeadersHave", spec := "fnExactLeadersHave", unfollowed := true, recurses := true, apart := false }
def FnExactLeadersHaveSaid : Prop := fnExactLeadersHaveRow.holds Try.pinned (OpenSpec.ofChange fnExactLeadersHaveSpec)

/-- ITS FALSE NEIGHBOUR: 'it returns false'. Refute it at one input. -/
def fnExactLeadersHaveWrong : ChangeSpec := { name := "fnExactLeadersHave", fn := fun _ => fun
  | [d] => { results := [.lit (.bool false)], args := [d] }
  | _ => none }
def FnExactLeadersHaveWrongFalsely : Prop := fnExactLeadersHaveRow.holds Try.pinned (OpenSpec.ofChange fnExactLeadersHaveWrong)

/-- 'laws.FnExactLeaderOf': WHATEVER THE INPUT: true; the input reads as it did. -/
def fnExactLeaderOfSpec : ChangeSpec := { name := "fnExactLeaderOf", fn := fun _ => fun
  | [d] => { results := [.lit (.bool true)], args := [d] }
  | _ => none }
def fnExactLeaderOfRow : OpenClaim := { program := "ytgdlionhnifajaa", sum := "667b07d70483f016f30a481d4c8be2e77aafa1a8eb72b6eb83604e659e38ba81", func := "loop.example/g00222/laws.FnExactLeaderOf", spec := "fnExactLeaderOf", unfollowed := true, recurses := true, apart := false }
def FnExactLeaderOfSaid : Prop := fnExactLeaderOfRow.holds Try.pinned (OpenSpec.ofChange fnExactLeaderOfSpec)

/-- ITS FALSE NEIGHBOUR: 'it returns false'. Refute it at one input. -/
def fnExactLeaderOfWrong : ChangeSpec := { name := "fnExactLeaderOf", fn := fun _ => fun
  | [d] => { results := [.lit (.bool false)], args := [d] }
  | _ => none }
def FnExactLeaderOfWrongFalsely : Prop := fnExactLeaderOfRow.holds Try.pinned (OpenSpec.ofChange fnExactLeaderOfWrong)

/- THE SECOND FORM. 'bulk': how many values and letters a reading holds, each counted each time it is reached (what is shared counts as often as it is met; a slice's spare places count too). A statement '..UptoSaid' is the law's where the arguments, and the package variables that the reading takes, are together of bulk at most 1048576: NARROWER than '..Said'. Prove '..Said' where nothing that the law and all that it calls make is longer than what came in: it says more and counts as full. Else prove '..UptoSaid'. A law counts once. -/
mutual
def uptoBulk {H : Type} : DataW H → Nat
  | .lit (.string bytes) => bytes.length + 1
  | .lit _ => 1
  | .nil => 1
  | .ptr d => uptoBulk d + 1
  | .slice elems spare => uptoBulkAll elems + uptoBulkAll spare + 1
  | .agg parts => uptoBulkAll parts + 1
  | .iface _ d => uptoBulk d + 1
  | .map entries => uptoBulkEntries entries + 1
  | .held _ => 1
def uptoBulkAll {H : Type} : List (DataW H) → Nat
  | [] => 0
  | d :: r => uptoBulk d + uptoBulkAll r
def uptoBulkEntries {H : Type} : List (Lit × DataW H) → Nat
  | [] => 0
  | x :: r => uptoBulkEntry x + uptoBulkEntries r
def uptoBulkEntry {H : Type} : Lit × DataW H → Nat
  | (.string bytes, d) => bytes.length + uptoBulk d + 1
  | (_, d) => uptoBulk d + 1
 end
def uptoSmall : (H : Type) → List (DataW H) → Bool := fun _ ds => decide (uptoBulkAll ds ≤ 1048576)
def OpenSpec.upto (s : _root_.Go.ChangeSpec) : _root_.Go.OpenSpec := { _root_.Go.OpenSpec.ofChange s with cond := some uptoSmall }

/-- 'laws.FnExactCommitOf', WHERE WHAT IT READS IS OF BULK AT MOST 1048576: true; the input reads as it did. -/
def fnExactCommitOfUptoRow : OpenClaim := { program := "ytgdlionhnifajaa", sum := "667b07d70483f016f30a481d4c8be2e77aafa1a8eb72b6eb83604e659e38ba81", func := "loop.example/g00222/laws.FnExactCommitOf", spec := "fnExactCommitOf", unfollowed := true, recurses := true, apart := false, narrowed := true }
def FnExactCommitOfUptoSaid : Prop := fnExactCommitOfUptoRow.holds Try.pinned (OpenSpec.upto fnExactCommitOfSpec)

/-- 'laws.FnExactMailFault', WHERE WHAT IT READS IS OF BULK AT MOST 1048576: true; the input reads as it did. -/
def fnExactMailFaultUptoRow : OpenClaim := { program := "ytgdlionhnifajaa", sum := "667b07d70483f016f30a481d4c8be2e77aafa1a8eb72b6eb83604e659e38ba81", func := "loop.example/g00222/laws.FnExactMailFault", spec := "fnExactMailFault", unfollowed := true, recurses := true, apart := false, narrowed := true }
def FnExactMailFaultUptoSaid : Prop := fnExactMailFaultUptoRow.holds Try.pinned (OpenSpec.upto fnExactMailFaultSpec)

/-- 'laws.FnExactClusterFault', WHERE WHAT IT READS IS OF BULK AT MOST 1048576: true; the input reads as it did. -/
def fnExactClusterFaultUptoRow : OpenClaim := { program := "ytgdlionhnifajaa", sum := "667b07d70483f016f30a481d4c8be2e77aafa1a8eb72b6eb83604e659e38ba81", func := "loop.example/g00222/laws.FnExactClusterFault", spec := "fnExactClusterFault", unfollowed := true, recurses := true, apart := false, narrowed := true }
def FnExactClusterFaultUptoSaid : Prop := fnExactClusterFaultUptoRow.holds Try.pinned (OpenSpec.upto fnExactClusterFaultSpec)

/-- 'laws.FnExactOneLeader', WHERE WHAT IT READS IS OF BULK AT MOST 1048576: true; the input reads as it did. -/
def fnExactOneLeaderUptoRow : OpenClaim := { program := "ytgdlionhnifajaa", sum := "667b07d70483f016f30a481d4c8be2e77aafa1a8eb72b6eb83604e659e38ba81", func := "loop.example/g00222/laws.FnExactOneLeader", spec := "fnExactOneLeader", unfollowed := true, recurses := true, apart := false, narrowed := true }
def FnExactOneLeaderUptoSaid : Prop := fnExactOneLeaderUptoRow.holds Try.pinned (OpenSpec.upto fnExactOneLeaderSpec)

/-- 'laws.FnExactLeadersHave', WHERE WHAT IT READS IS OF BULK AT MOST 1048576: true; the input reads as it did. -/
def fnExactLeadersHaveUptoRow : OpenClaim := { program := "ytgdlionhnifajaa", sum := "667b07d70483f016f30a481d4c8be2e77aafa1a8eb72b6eb83604e659e38ba81", func := "loop.example/g00222/laws.FnExactLeadersHave", spec := "fnExactLeadersHave", unfollowed := true, recurses := true, apart := false, narrowed := true }
def FnExactLeadersHaveUptoSaid : Prop := fnExactLeadersHaveUptoRow.holds Try.pinned (OpenSpec.upto fnExactLeadersHaveSpec)

/-- 'laws.FnExactLeaderOf', WHERE WHAT IT READS IS OF BULK AT MOST 1048576: true; the input reads as it did. -/
def fnExactLeaderOfUptoRow : OpenClaim := { program := "ytgdlionhnifajaa", sum := "667b07d70483f016f30a481d4c8be2e77aafa1a8eb72b6eb83604e659e38ba81", func := "loop.example/g00222/laws.FnExactLeaderOf", spec := "fnExactLeaderOf", unfollowed := true, recurses := true, apart := false, narrowed := true }
def FnExactLeaderOfUptoSaid : Prop := fnExactLeaderOfUptoRow.holds Try.pinned (OpenSpec.upto fnExactLeaderOfSpec)

end Rows
end Go.Proofs.Ytgdlionhnifajaa
