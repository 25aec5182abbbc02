/-
  DERIVED. GIVEN WITH THE SEED: THE CARDS: each row of YtniglnbdppnhoaaGreatDoorRows.lean that lists a variable, with what it lists TIED to the program's text (the seventh form; the later family's looks); each row that meets fmt, with fmt's text TOLD by the authors' own Lean function (tested against real Go, not proved from fmt's source: count such statements apart). THE CARD IS WHAT COUNTS. Prove the row's statement (the work); the ties are given (YtniglnbdppnhoaaGreatDoorTie.lean); close each card by the builder's one call (the guide's Derived/Test/ToyasCard.lean, 'card_holds'). Laid BY PROGRAM, IN A SANDBOX (cutbox-door.mjs). By AI agents, Wed Nov 11 2026. No macro, syntax, notation, axiom, sorry.
-/
import Derived.Test.YtniglnbdppnhoaaGreatDoorRows
import GoSem.ClaimSeven
namespace Go.Proofs.YtniglnbdppnhoaaGreatDoor
namespace Rows

/-- THE TIED CARD OF 'amanuensislaw25.HeldReads'. -/
def heldReadsCard : Claim7 := { stood := { row := heldReadsRow, standIns := [], harness := (true, "6cdcabb93e15b143b2b1f43a1f7568647c353cc7c7fcb0141784c89b19be5693"), looks := false }, kinds := [], alts := [], laidByText := true, laidKinds := [.data, .data, .data], laidTests := true, laidLooks := .later }
def HeldReadsCardSaid : Prop := Claim7.holds Tryz.pinned (.plain (OpenSpec.ofChange heldReadsSpec)) heldReadsCard

/-- THE SECOND FORM's CARD OF 'amanuensislaw25.HeldReads'. -/
def heldReadsUptoCard : Claim7 := { stood := { row := heldReadsUptoRow, standIns := [], harness := (true, "6cdcabb93e15b143b2b1f43a1f7568647c353cc7c7fcb0141784c89b19be5693"), looks := false }, kinds := [], alts := [], laidByText := true, laidKinds := [.data, .data, .data], laidTests := true, laidLooks := .later }
def HeldReadsUptoCardSaid : Prop := Claim7.holds Tryz.pinned (.plain (OpenSpec.upto heldReadsSpec)) heldReadsUptoCard
end Rows
end Go.Proofs.YtniglnbdppnhoaaGreatDoor
