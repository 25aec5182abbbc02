/-
  DERIVED. GIVEN WITH THE SEED: THE CARDS: each row of YtppmloolcbpkgaaGreatDoorRows.lean that lists a variable, with what it lists TIED to the program's text (the seventh form; the later family's looks); each row that meets fmt, with fmt's text TOLD by the authors' own Lean function (tested against real Go, not proved from fmt's source: count such statements apart). THE CARD IS WHAT COUNTS. Prove the row's statement (the work); the ties are given (YtppmloolcbpkgaaGreatDoorTie.lean); close each card by the builder's one call (the guide's Derived/Test/ToyasCard.lean, 'card_holds'). Laid BY PROGRAM, IN A SANDBOX (cutbox-door.mjs). By AI agents, Wed Nov 11 2026. No macro, syntax, notation, axiom, sorry.
-/
import Derived.Test.YtppmloolcbpkgaaGreatDoorRows
import GoSem.ClaimSeven
namespace Go.Proofs.YtppmloolcbpkgaaGreatDoor
namespace Rows

/-- THE TIED CARD OF 'amanuensislaw25.HeldReads'. -/
def heldReadsCard : Claim7 := { stood := { row := heldReadsRow, standIns := [], harness := (true, "d76b1523a0ca036897821e4822e410ccfb6754d77f3665497ef4bfb9de809303"), looks := false }, kinds := [], alts := [], laidByText := true, laidKinds := [.data, .data, .data], laidTests := true, laidLooks := .later }
def HeldReadsCardSaid : Prop := Claim7.holds Tryz.pinned (.plain (OpenSpec.ofChange heldReadsSpec)) heldReadsCard

/-- THE TIED CARD OF 'amanuensislaw13.MachineBranches'. -/
def machineBranchesCard : Claim7 := { stood := { row := machineBranchesRow, standIns := [], harness := (true, "d76b1523a0ca036897821e4822e410ccfb6754d77f3665497ef4bfb9de809303"), looks := false }, kinds := [], alts := [], laidByText := true, laidKinds := [.data, .data, .data], laidTests := true, laidLooks := .later }
def MachineBranchesCardSaid : Prop := Claim7.holds Tryz.pinned (.plain (OpenSpec.ofChange machineBranchesSpec)) machineBranchesCard

/-- THE TIED CARD OF 'amanuensislaw13.MachineTries'. -/
def machineTriesCard : Claim7 := { stood := { row := machineTriesRow, standIns := [], harness := (true, "d76b1523a0ca036897821e4822e410ccfb6754d77f3665497ef4bfb9de809303"), looks := false }, kinds := [], alts := [], laidByText := true, laidKinds := [.data, .data, .data], laidTests := true, laidLooks := .later }
def MachineTriesCardSaid : Prop := Claim7.holds Tryz.pinned (.plain (OpenSpec.ofChange machineTriesSpec)) machineTriesCard

/-- THE TIED CARD OF 'amanuensislaw28.ExploreCounts'. -/
def exploreCountsCard : Claim7 := { stood := { row := exploreCountsRow, standIns := [], harness := (true, "d76b1523a0ca036897821e4822e410ccfb6754d77f3665497ef4bfb9de809303"), looks := false }, kinds := [], alts := [], laidByText := true, laidKinds := [.data, .data, .data], laidTests := true, laidLooks := .later }
def ExploreCountsCardSaid : Prop := Claim7.holds Tryz.pinned (.plain (OpenSpec.ofChange exploreCountsSpec)) exploreCountsCard

/-- THE TIED CARD OF 'amanuensislaw14.SystemRefuses'. -/
def systemRefusesCard : Claim7 := { stood := { row := systemRefusesRow, standIns := [], harness := (true, "d76b1523a0ca036897821e4822e410ccfb6754d77f3665497ef4bfb9de809303"), looks := false }, kinds := [], alts := [], laidByText := true, laidKinds := [.data, .data, .data], laidTests := true, laidLooks := .later }
def SystemRefusesCardSaid : Prop := Claim7.holds Tryz.pinned (.plain (OpenSpec.ofChange systemRefusesSpec)) systemRefusesCard

/-- THE TIED CARD OF 'amanuensislaw26.OrderRings'. -/
def orderRingsCard : Claim7 := { stood := { row := orderRingsRow, standIns := [], harness := (true, "d76b1523a0ca036897821e4822e410ccfb6754d77f3665497ef4bfb9de809303"), looks := false }, kinds := [], alts := [], laidByText := true, laidKinds := [.data, .data, .data], laidTests := true, laidLooks := .later }
def OrderRingsCardSaid : Prop := Claim7.holds Tryz.pinned (.plain (OpenSpec.ofChange orderRingsSpec)) orderRingsCard

/-- THE TIED CARD OF 'amanuensislaw26.OrderRises'. -/
def orderRisesCard : Claim7 := { stood := { row := orderRisesRow, standIns := [], harness := (true, "d76b1523a0ca036897821e4822e410ccfb6754d77f3665497ef4bfb9de809303"), looks := false }, kinds := [], alts := [], laidByText := true, laidKinds := [.data, .data, .data], laidTests := true, laidLooks := .later }
def OrderRisesCardSaid : Prop := Claim7.holds Tryz.pinned (.plain (OpenSpec.ofChange orderRisesSpec)) orderRisesCard

/-- THE TIED CARD OF 'amanuensislaw22.WaitsRings'. -/
def waitsRingsCard : Claim7 := { stood := { row := waitsRingsRow, standIns := [], harness := (true, "d76b1523a0ca036897821e4822e410ccfb6754d77f3665497ef4bfb9de809303"), looks := false }, kinds := [], alts := [], laidByText := true, laidKinds := [.data, .data, .data], laidTests := true, laidLooks := .later }
def WaitsRingsCardSaid : Prop := Claim7.holds Tryz.pinned (.plain (OpenSpec.ofChange waitsRingsSpec)) waitsRingsCard

/-- THE SECOND FORM's CARD OF 'amanuensislaw25.HeldReads'. -/
def heldReadsUptoCard : Claim7 := { stood := { row := heldReadsUptoRow, standIns := [], harness := (true, "d76b1523a0ca036897821e4822e410ccfb6754d77f3665497ef4bfb9de809303"), looks := false }, kinds := [], alts := [], laidByText := true, laidKinds := [.data, .data, .data], laidTests := true, laidLooks := .later }
def HeldReadsUptoCardSaid : Prop := Claim7.holds Tryz.pinned (.plain (OpenSpec.upto heldReadsSpec)) heldReadsUptoCard

/-- THE SECOND FORM's CARD OF 'amanuensislaw13.MachineBranches'. -/
def machineBranchesUptoCard : Claim7 := { stood := { row := machineBranchesUptoRow, standIns := [], harness := (true, "d76b1523a0ca036897821e4822e410ccfb6754d77f3665497ef4bfb9de809303"), looks := false }, kinds := [], alts := [], laidByText := true, laidKinds := [.data, .data, .data], laidTests := true, laidLooks := .later }
def MachineBranchesUptoCardSaid : Prop := Claim7.holds Tryz.pinned (.plain (OpenSpec.upto machineBranchesSpec)) machineBranchesUptoCard

/-- THE SECOND FORM's CARD OF 'amanuensislaw13.MachineTries'. -/
def machineTriesUptoCard : Claim7 := { stood := { row := machineTriesUptoRow, standIns := [], harness := (true, "d76b1523a0ca036897821e4822e410ccfb6754d77f3665497ef4bfb9de809303"), looks := false }, kinds := [], alts := [], laidByText := true, laidKinds := [.data, .data, .data], laidTests := true, laidLooks := .later }
def MachineTriesUptoCardSaid : Prop := Claim7.holds Tryz.pinned (.plain (OpenSpec.upto machineTriesSpec)) machineTriesUptoCard

/-- THE SECOND FORM's CARD OF 'amanuensislaw28.ExploreCounts'. -/
def exploreCountsUptoCard : Claim7 := { stood := { row := exploreCountsUptoRow, standIns := [], harness := (true, "d76b1523a0ca036897821e4822e410ccfb6754d77f3665497ef4bfb9de809303"), looks := false }, kinds := [], alts := [], laidByText := true, laidKinds := [.data, .data, .data], laidTests := true, laidLooks := .later }
def ExploreCountsUptoCardSaid : Prop := Claim7.holds Tryz.pinned (.plain (OpenSpec.upto exploreCountsSpec)) exploreCountsUptoCard

/-- THE SECOND FORM's CARD OF 'amanuensislaw14.SystemRefuses'. -/
def systemRefusesUptoCard : Claim7 := { stood := { row := systemRefusesUptoRow, standIns := [], harness := (true, "d76b1523a0ca036897821e4822e410ccfb6754d77f3665497ef4bfb9de809303"), looks := false }, kinds := [], alts := [], laidByText := true, laidKinds := [.data, .data, .data], laidTests := true, laidLooks := .later }
def SystemRefusesUptoCardSaid : Prop := Claim7.holds Tryz.pinned (.plain (OpenSpec.upto systemRefusesSpec)) systemRefusesUptoCard

/-- THE SECOND FORM's CARD OF 'amanuensislaw26.OrderRings'. -/
def orderRingsUptoCard : Claim7 := { stood := { row := orderRingsUptoRow, standIns := [], harness := (true, "d76b1523a0ca036897821e4822e410ccfb6754d77f3665497ef4bfb9de809303"), looks := false }, kinds := [], alts := [], laidByText := true, laidKinds := [.data, .data, .data], laidTests := true, laidLooks := .later }
def OrderRingsUptoCardSaid : Prop := Claim7.holds Tryz.pinned (.plain (OpenSpec.upto orderRingsSpec)) orderRingsUptoCard

/-- THE SECOND FORM's CARD OF 'amanuensislaw26.OrderRises'. -/
def orderRisesUptoCard : Claim7 := { stood := { row := orderRisesUptoRow, standIns := [], harness := (true, "d76b1523a0ca036897821e4822e410ccfb6754d77f3665497ef4bfb9de809303"), looks := false }, kinds := [], alts := [], laidByText := true, laidKinds := [.data, .data, .data], laidTests := true, laidLooks := .later }
def OrderRisesUptoCardSaid : Prop := Claim7.holds Tryz.pinned (.plain (OpenSpec.upto orderRisesSpec)) orderRisesUptoCard

/-- THE SECOND FORM's CARD OF 'amanuensislaw22.WaitsRings'. -/
def waitsRingsUptoCard : Claim7 := { stood := { row := waitsRingsUptoRow, standIns := [], harness := (true, "d76b1523a0ca036897821e4822e410ccfb6754d77f3665497ef4bfb9de809303"), looks := false }, kinds := [], alts := [], laidByText := true, laidKinds := [.data, .data, .data], laidTests := true, laidLooks := .later }
def WaitsRingsUptoCardSaid : Prop := Claim7.holds Tryz.pinned (.plain (OpenSpec.upto waitsRingsSpec)) waitsRingsUptoCard
end Rows
end Go.Proofs.YtppmloolcbpkgaaGreatDoor
