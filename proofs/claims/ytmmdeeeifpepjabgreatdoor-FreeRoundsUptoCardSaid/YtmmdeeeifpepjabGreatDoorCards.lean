/-
  DERIVED. GIVEN WITH THE SEED: THE CARDS: each row of YtmmdeeeifpepjabGreatDoorRows.lean that lists a variable, with what it lists TIED to the program's text (the seventh form; the later family's looks); each row that meets fmt, with fmt's text TOLD by the authors' own Lean function (tested against real Go, not proved from fmt's source: count such statements apart). THE CARD IS WHAT COUNTS. Prove the row's statement (the work); the ties are given (YtmmdeeeifpepjabGreatDoorTie.lean); close each card by the builder's one call (the guide's Derived/Test/ToyasCard.lean, 'card_holds'). Laid BY PROGRAM, IN A SANDBOX (cutbox-door.mjs). By AI agents, Wed Nov 11 2026. No macro, syntax, notation, axiom, sorry.
-/
import Derived.Test.YtmmdeeeifpepjabGreatDoorRows
import GoSem.ClaimSeven
namespace Go.Proofs.YtmmdeeeifpepjabGreatDoor
namespace Rows

/-- THE TIED CARD OF 'amanuensislaw18.KendoOne'. -/
def kendoOneCard : Claim7 := { stood := { row := kendoOneRow, standIns := [], harness := (true, "3119a5bfdb143680bb4a1887ae689a8ac4aad48a950138b0850b90bfdc56bc6c"), looks := false }, kinds := [], alts := [], laidByText := true, laidKinds := [.data, .data, .data], laidTests := true, laidLooks := .later }
def KendoOneCardSaid : Prop := Claim7.holds Tryz.pinned (.plain (OpenSpec.ofChange kendoOneSpec)) kendoOneCard

/-- THE TIED CARD OF 'amanuensislaw18.KendoUp'. -/
def kendoUpCard : Claim7 := { stood := { row := kendoUpRow, standIns := [], harness := (true, "3119a5bfdb143680bb4a1887ae689a8ac4aad48a950138b0850b90bfdc56bc6c"), looks := false }, kinds := [], alts := [], laidByText := true, laidKinds := [.data, .data, .data], laidTests := true, laidLooks := .later }
def KendoUpCardSaid : Prop := Claim7.holds Tryz.pinned (.plain (OpenSpec.ofChange kendoUpSpec)) kendoUpCard

/-- THE TIED CARD OF 'amanuensislaw17.FreeRounds'. -/
def freeRoundsCard : Claim7 := { stood := { row := freeRoundsRow, standIns := [], harness := (true, "3119a5bfdb143680bb4a1887ae689a8ac4aad48a950138b0850b90bfdc56bc6c"), looks := false }, kinds := [], alts := [], laidByText := true, laidKinds := [.data, .data, .data], laidTests := true, laidLooks := .later }
def FreeRoundsCardSaid : Prop := Claim7.holds Tryz.pinned (.plain (OpenSpec.ofChange freeRoundsSpec)) freeRoundsCard

/-- THE SECOND FORM's CARD OF 'amanuensislaw18.KendoOne'. -/
def kendoOneUptoCard : Claim7 := { stood := { row := kendoOneUptoRow, standIns := [], harness := (true, "3119a5bfdb143680bb4a1887ae689a8ac4aad48a950138b0850b90bfdc56bc6c"), looks := false }, kinds := [], alts := [], laidByText := true, laidKinds := [.data, .data, .data], laidTests := true, laidLooks := .later }
def KendoOneUptoCardSaid : Prop := Claim7.holds Tryz.pinned (.plain (OpenSpec.upto kendoOneSpec)) kendoOneUptoCard

/-- THE SECOND FORM's CARD OF 'amanuensislaw18.KendoUp'. -/
def kendoUpUptoCard : Claim7 := { stood := { row := kendoUpUptoRow, standIns := [], harness := (true, "3119a5bfdb143680bb4a1887ae689a8ac4aad48a950138b0850b90bfdc56bc6c"), looks := false }, kinds := [], alts := [], laidByText := true, laidKinds := [.data, .data, .data], laidTests := true, laidLooks := .later }
def KendoUpUptoCardSaid : Prop := Claim7.holds Tryz.pinned (.plain (OpenSpec.upto kendoUpSpec)) kendoUpUptoCard

/-- THE SECOND FORM's CARD OF 'amanuensislaw17.FreeRounds'. -/
def freeRoundsUptoCard : Claim7 := { stood := { row := freeRoundsUptoRow, standIns := [], harness := (true, "3119a5bfdb143680bb4a1887ae689a8ac4aad48a950138b0850b90bfdc56bc6c"), looks := false }, kinds := [], alts := [], laidByText := true, laidKinds := [.data, .data, .data], laidTests := true, laidLooks := .later }
def FreeRoundsUptoCardSaid : Prop := Claim7.holds Tryz.pinned (.plain (OpenSpec.upto freeRoundsSpec)) freeRoundsUptoCard
end Rows
end Go.Proofs.YtmmdeeeifpepjabGreatDoor
