/-
  DERIVED. GIVEN WITH THE SEED: THE CARDS: each row of YteclpbehflfjiacGreatDoorRows.lean that lists a variable, with what it lists TIED to the program's text (the seventh form; the later family's looks); each row that meets fmt, with fmt's text TOLD by the authors' own Lean function (tested against real Go, not proved from fmt's source: count such statements apart). THE CARD IS WHAT COUNTS. Prove the row's statement (the work); the ties are given (YteclpbehflfjiacGreatDoorTie.lean); close each card by the builder's one call (the guide's Derived/Test/ToyasCard.lean, 'card_holds'). Laid BY PROGRAM, IN A SANDBOX (cutbox-door.mjs). By AI agents, Wed Nov 11 2026. No macro, syntax, notation, axiom, sorry.
-/
import Derived.Test.YteclpbehflfjiacGreatDoorRows
import GoSem.ClaimSeven
namespace Go.Proofs.YteclpbehflfjiacGreatDoor
namespace Rows

/-- THE TIED CARD OF 'amanuensislaw18.KendoTells'. -/
def kendoTellsCard : Claim7 := { stood := { row := kendoTellsRow, standIns := [], harness := (true, "871ef0b6447b2822e46c23f5329d3b0b1395924fe634910f0d0d6dab3e5d8959"), looks := false }, kinds := [], alts := [], laidByText := true, laidKinds := [.data, .data, .data], laidTests := true, laidLooks := .later }
def KendoTellsCardSaid : Prop := Claim7.holds Tryz.pinned (.plain (OpenSpec.ofChange kendoTellsSpec)) kendoTellsCard

/-- THE SECOND FORM's CARD OF 'amanuensislaw18.KendoTells'. -/
def kendoTellsUptoCard : Claim7 := { stood := { row := kendoTellsUptoRow, standIns := [], harness := (true, "871ef0b6447b2822e46c23f5329d3b0b1395924fe634910f0d0d6dab3e5d8959"), looks := false }, kinds := [], alts := [], laidByText := true, laidKinds := [.data, .data, .data], laidTests := true, laidLooks := .later }
def KendoTellsUptoCardSaid : Prop := Claim7.holds Tryz.pinned (.plain (OpenSpec.upto kendoTellsSpec)) kendoTellsUptoCard
end Rows
end Go.Proofs.YteclpbehflfjiacGreatDoor
