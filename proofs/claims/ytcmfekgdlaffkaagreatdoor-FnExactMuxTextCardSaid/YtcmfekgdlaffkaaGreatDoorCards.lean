/-
  DERIVED. GIVEN WITH THE SEED: THE CARDS: each row of YtcmfekgdlaffkaaGreatDoorRows.lean that lists a variable, with what it lists TIED to the program's text (the seventh form; the later family's looks); each row that meets fmt, with fmt's text TOLD by the authors' own Lean function (tested against real Go, not proved from fmt's source: count such statements apart). THE CARD IS WHAT COUNTS. Prove the row's statement (the work); the ties are given (YtcmfekgdlaffkaaGreatDoorTie.lean); close each card by the builder's one call (the guide's Derived/Test/ToyasCard.lean, 'card_holds'). Laid BY PROGRAM, IN A SANDBOX (cutbox-door.mjs). By AI agents, Wed Nov 11 2026. No macro, syntax, notation, axiom, sorry.
-/
import Derived.Test.YtcmfekgdlaffkaaGreatDoorRows
import GoSem.ClaimSeven
namespace Go.Proofs.YtcmfekgdlaffkaaGreatDoor
namespace Rows

/-- THE TIED CARD OF 'laws.FnExactMuxText'. -/
def fnExactMuxTextCard : Claim7 := { stood := { row := fnExactMuxTextRow, standIns := [], harness := (true, "36985c481c12822dc66ea12b473f402214e206d194cc331c4a41644809bf2a8d"), looks := false }, kinds := [], alts := [], laidByText := true, laidKinds := [.data, .data, .data], laidTests := true, laidLooks := .later }
def FnExactMuxTextCardSaid : Prop := Claim7.holds Tryz.pinned (.plain (OpenSpec.ofChange fnExactMuxTextSpec)) fnExactMuxTextCard

/-- THE SECOND FORM's CARD OF 'laws.FnExactMuxText'. -/
def fnExactMuxTextUptoCard : Claim7 := { stood := { row := fnExactMuxTextUptoRow, standIns := [], harness := (true, "36985c481c12822dc66ea12b473f402214e206d194cc331c4a41644809bf2a8d"), looks := false }, kinds := [], alts := [], laidByText := true, laidKinds := [.data, .data, .data], laidTests := true, laidLooks := .later }
def FnExactMuxTextUptoCardSaid : Prop := Claim7.holds Tryz.pinned (.plain (OpenSpec.upto fnExactMuxTextSpec)) fnExactMuxTextUptoCard
end Rows
end Go.Proofs.YtcmfekgdlaffkaaGreatDoor
