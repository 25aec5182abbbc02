/-
  DERIVED. GIVEN WITH THE SEED: THE CARDS: each row of YtmmdeeeifpepjacGreatDoorRows.lean that lists a variable, with what it lists TIED to the program's text (the seventh form; the later family's looks); each row that meets fmt, with fmt's text TOLD by the authors' own Lean function (tested against real Go, not proved from fmt's source: count such statements apart). THE CARD IS WHAT COUNTS. Prove the row's statement (the work); the ties are given (YtmmdeeeifpepjacGreatDoorTie.lean); close each card by the builder's one call (the guide's Derived/Test/ToyasCard.lean, 'card_holds'). Laid BY PROGRAM, IN A SANDBOX (cutbox-door.mjs). By AI agents, Wed Nov 11 2026. No macro, syntax, notation, axiom, sorry.
-/
import Derived.Test.YtmmdeeeifpepjacGreatDoorRows
import GoSem.ClaimSeven
namespace Go.Proofs.YtmmdeeeifpepjacGreatDoor
namespace Rows

/-- THE TIED CARD OF 'amanuensislaw13.MachineForces'. -/
def machineForcesCard : Claim7 := { stood := { row := machineForcesRow, standIns := [], harness := (true, "85f9be12de5676a68a184ca989de3ee444f029735a2dae9be47bf4bbe08d5813"), looks := false }, kinds := [], alts := [], laidByText := true, laidKinds := [.data, .data, .data], laidTests := true, laidLooks := .later }
def MachineForcesCardSaid : Prop := Claim7.holds Tryz.pinned (.plain (OpenSpec.ofChange machineForcesSpec)) machineForcesCard

/-- THE TIED CARD OF 'amanuensislaw14.SystemSound'. -/
def systemSoundCard : Claim7 := { stood := { row := systemSoundRow, standIns := [], harness := (true, "85f9be12de5676a68a184ca989de3ee444f029735a2dae9be47bf4bbe08d5813"), looks := false }, kinds := [], alts := [], laidByText := true, laidKinds := [.data, .data, .data], laidTests := true, laidLooks := .later }
def SystemSoundCardSaid : Prop := Claim7.holds Tryz.pinned (.plain (OpenSpec.ofChange systemSoundSpec)) systemSoundCard

/-- THE TIED CARD OF 'amanuensislaw18.KendoSame'. -/
def kendoSameCard : Claim7 := { stood := { row := kendoSameRow, standIns := [], harness := (true, "85f9be12de5676a68a184ca989de3ee444f029735a2dae9be47bf4bbe08d5813"), looks := false }, kinds := [], alts := [], laidByText := true, laidKinds := [.data, .data, .data], laidTests := true, laidLooks := .later }
def KendoSameCardSaid : Prop := Claim7.holds Tryz.pinned (.plain (OpenSpec.ofChange kendoSameSpec)) kendoSameCard

/-- THE SECOND FORM's CARD OF 'amanuensislaw13.MachineForces'. -/
def machineForcesUptoCard : Claim7 := { stood := { row := machineForcesUptoRow, standIns := [], harness := (true, "85f9be12de5676a68a184ca989de3ee444f029735a2dae9be47bf4bbe08d5813"), looks := false }, kinds := [], alts := [], laidByText := true, laidKinds := [.data, .data, .data], laidTests := true, laidLooks := .later }
def MachineForcesUptoCardSaid : Prop := Claim7.holds Tryz.pinned (.plain (OpenSpec.upto machineForcesSpec)) machineForcesUptoCard

/-- THE SECOND FORM's CARD OF 'amanuensislaw14.SystemSound'. -/
def systemSoundUptoCard : Claim7 := { stood := { row := systemSoundUptoRow, standIns := [], harness := (true, "85f9be12de5676a68a184ca989de3ee444f029735a2dae9be47bf4bbe08d5813"), looks := false }, kinds := [], alts := [], laidByText := true, laidKinds := [.data, .data, .data], laidTests := true, laidLooks := .later }
def SystemSoundUptoCardSaid : Prop := Claim7.holds Tryz.pinned (.plain (OpenSpec.upto systemSoundSpec)) systemSoundUptoCard

/-- THE SECOND FORM's CARD OF 'amanuensislaw18.KendoSame'. -/
def kendoSameUptoCard : Claim7 := { stood := { row := kendoSameUptoRow, standIns := [], harness := (true, "85f9be12de5676a68a184ca989de3ee444f029735a2dae9be47bf4bbe08d5813"), looks := false }, kinds := [], alts := [], laidByText := true, laidKinds := [.data, .data, .data], laidTests := true, laidLooks := .later }
def KendoSameUptoCardSaid : Prop := Claim7.holds Tryz.pinned (.plain (OpenSpec.upto kendoSameSpec)) kendoSameUptoCard
end Rows
end Go.Proofs.YtmmdeeeifpepjacGreatDoor
