/-
  DERIVED. GIVEN WITH THE SEED: THE CARDS: each row of YtmmdeeeifpepjaaGreatDoorRows.lean that lists a variable, with what it lists TIED to the program's text (the seventh form; the later family's looks); each row that meets fmt, with fmt's text TOLD by the authors' own Lean function (tested against real Go, not proved from fmt's source: count such statements apart). THE CARD IS WHAT COUNTS. Prove the row's statement (the work); the ties are given (YtmmdeeeifpepjaaGreatDoorTie.lean); close each card by the builder's one call (the guide's Derived/Test/ToyasCard.lean, 'card_holds'). Laid BY PROGRAM, IN A SANDBOX (cutbox-door.mjs). By AI agents, Wed Nov 11 2026. No macro, syntax, notation, axiom, sorry.
-/
import Derived.Test.YtmmdeeeifpepjaaGreatDoorRows
import GoSem.ClaimSeven
namespace Go.Proofs.YtmmdeeeifpepjaaGreatDoor
namespace Rows

/-- THE TIED CARD OF 'amanuensislaw13.MachineOthers'. -/
def machineOthersCard : Claim7 := { stood := { row := machineOthersRow, standIns := [], harness := (true, "a2330faf355d52f577d0bdabad4553471c1968d31b62442add9f8929c485d32b"), looks := false }, kinds := [], alts := [], laidByText := true, laidKinds := [.data, .data, .data], laidTests := true, laidLooks := .later }
def MachineOthersCardSaid : Prop := Claim7.holds Tryz.pinned (.plain (OpenSpec.ofChange machineOthersSpec)) machineOthersCard

/-- THE TIED CARD OF 'amanuensislaw13.MachineTurns'. -/
def machineTurnsCard : Claim7 := { stood := { row := machineTurnsRow, standIns := [], harness := (true, "a2330faf355d52f577d0bdabad4553471c1968d31b62442add9f8929c485d32b"), looks := false }, kinds := [], alts := [], laidByText := true, laidKinds := [.data, .data, .data], laidTests := true, laidLooks := .later }
def MachineTurnsCardSaid : Prop := Claim7.holds Tryz.pinned (.plain (OpenSpec.ofChange machineTurnsSpec)) machineTurnsCard

/-- THE TIED CARD OF 'amanuensislaw17.FreeStuck'. -/
def freeStuckCard : Claim7 := { stood := { row := freeStuckRow, standIns := [], harness := (true, "a2330faf355d52f577d0bdabad4553471c1968d31b62442add9f8929c485d32b"), looks := false }, kinds := [], alts := [], laidByText := true, laidKinds := [.data, .data, .data], laidTests := true, laidLooks := .later }
def FreeStuckCardSaid : Prop := Claim7.holds Tryz.pinned (.plain (OpenSpec.ofChange freeStuckSpec)) freeStuckCard

/-- THE SECOND FORM's CARD OF 'amanuensislaw13.MachineOthers'. -/
def machineOthersUptoCard : Claim7 := { stood := { row := machineOthersUptoRow, standIns := [], harness := (true, "a2330faf355d52f577d0bdabad4553471c1968d31b62442add9f8929c485d32b"), looks := false }, kinds := [], alts := [], laidByText := true, laidKinds := [.data, .data, .data], laidTests := true, laidLooks := .later }
def MachineOthersUptoCardSaid : Prop := Claim7.holds Tryz.pinned (.plain (OpenSpec.upto machineOthersSpec)) machineOthersUptoCard

/-- THE SECOND FORM's CARD OF 'amanuensislaw13.MachineTurns'. -/
def machineTurnsUptoCard : Claim7 := { stood := { row := machineTurnsUptoRow, standIns := [], harness := (true, "a2330faf355d52f577d0bdabad4553471c1968d31b62442add9f8929c485d32b"), looks := false }, kinds := [], alts := [], laidByText := true, laidKinds := [.data, .data, .data], laidTests := true, laidLooks := .later }
def MachineTurnsUptoCardSaid : Prop := Claim7.holds Tryz.pinned (.plain (OpenSpec.upto machineTurnsSpec)) machineTurnsUptoCard

/-- THE SECOND FORM's CARD OF 'amanuensislaw17.FreeStuck'. -/
def freeStuckUptoCard : Claim7 := { stood := { row := freeStuckUptoRow, standIns := [], harness := (true, "a2330faf355d52f577d0bdabad4553471c1968d31b62442add9f8929c485d32b"), looks := false }, kinds := [], alts := [], laidByText := true, laidKinds := [.data, .data, .data], laidTests := true, laidLooks := .later }
def FreeStuckUptoCardSaid : Prop := Claim7.holds Tryz.pinned (.plain (OpenSpec.upto freeStuckSpec)) freeStuckUptoCard
end Rows
end Go.Proofs.YtmmdeeeifpepjaaGreatDoor
