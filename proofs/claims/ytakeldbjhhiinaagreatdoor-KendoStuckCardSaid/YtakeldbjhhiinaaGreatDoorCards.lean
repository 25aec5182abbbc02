/-
  DERIVED. GIVEN WITH THE SEED: THE CARDS: each row of YtakeldbjhhiinaaGreatDoorRows.lean that lists a variable, with what it lists TIED to the program's text (the seventh form; the later family's looks); each row that meets fmt, with fmt's text TOLD by the authors' own Lean function (tested against real Go, not proved from fmt's source: count such statements apart). THE CARD IS WHAT COUNTS. Prove the row's statement (the work); the ties are given (YtakeldbjhhiinaaGreatDoorTie.lean); close each card by the builder's one call (the guide's Derived/Test/ToyasCard.lean, 'card_holds'). Laid BY PROGRAM, IN A SANDBOX (cutbox-door.mjs). By AI agents, Wed Nov 11 2026. No macro, syntax, notation, axiom, sorry.
-/
import Derived.Test.YtakeldbjhhiinaaGreatDoorRows
import GoSem.ClaimSeven
namespace Go.Proofs.YtakeldbjhhiinaaGreatDoor
namespace Rows

/-- THE TIED CARD OF 'amanuensislaw18.KendoStuck'. -/
def kendoStuckCard : Claim7 := { stood := { row := kendoStuckRow, standIns := [], harness := (true, "e5dca85c593ac95993d4ec251819b7b0b37c2ef4908f4d26e0e4a2588a14b352"), looks := false }, kinds := [], alts := [], laidByText := true, laidKinds := [.data, .data, .data], laidTests := true, laidLooks := .later }
def KendoStuckCardSaid : Prop := Claim7.holds Tryz.pinned (.plain (OpenSpec.ofChange kendoStuckSpec)) kendoStuckCard

/-- THE TIED CARD OF 'amanuensislaw18.KendoSame'. -/
def kendoSameCard : Claim7 := { stood := { row := kendoSameRow, standIns := [], harness := (true, "e5dca85c593ac95993d4ec251819b7b0b37c2ef4908f4d26e0e4a2588a14b352"), looks := false }, kinds := [], alts := [], laidByText := true, laidKinds := [.data, .data, .data], laidTests := true, laidLooks := .later }
def KendoSameCardSaid : Prop := Claim7.holds Tryz.pinned (.plain (OpenSpec.ofChange kendoSameSpec)) kendoSameCard

/-- THE SECOND FORM's CARD OF 'amanuensislaw18.KendoStuck'. -/
def kendoStuckUptoCard : Claim7 := { stood := { row := kendoStuckUptoRow, standIns := [], harness := (true, "e5dca85c593ac95993d4ec251819b7b0b37c2ef4908f4d26e0e4a2588a14b352"), looks := false }, kinds := [], alts := [], laidByText := true, laidKinds := [.data, .data, .data], laidTests := true, laidLooks := .later }
def KendoStuckUptoCardSaid : Prop := Claim7.holds Tryz.pinned (.plain (OpenSpec.upto kendoStuckSpec)) kendoStuckUptoCard

/-- THE SECOND FORM's CARD OF 'amanuensislaw18.KendoSame'. -/
def kendoSameUptoCard : Claim7 := { stood := { row := kendoSameUptoRow, standIns := [], harness := (true, "e5dca85c593ac95993d4ec251819b7b0b37c2ef4908f4d26e0e4a2588a14b352"), looks := false }, kinds := [], alts := [], laidByText := true, laidKinds := [.data, .data, .data], laidTests := true, laidLooks := .later }
def KendoSameUptoCardSaid : Prop := Claim7.holds Tryz.pinned (.plain (OpenSpec.upto kendoSameSpec)) kendoSameUptoCard
end Rows
end Go.Proofs.YtakeldbjhhiinaaGreatDoor
