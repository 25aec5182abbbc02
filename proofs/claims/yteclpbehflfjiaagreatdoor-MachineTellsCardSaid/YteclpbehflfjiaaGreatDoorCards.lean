/-
  DERIVED. GIVEN WITH THE SEED: THE CARDS: each row of YteclpbehflfjiaaGreatDoorRows.lean that lists a variable, with what it lists TIED to the program's text (the seventh form; the later family's looks); each row that meets fmt, with fmt's text TOLD by the authors' own Lean function (tested against real Go, not proved from fmt's source: count such statements apart). THE CARD IS WHAT COUNTS. Prove the row's statement (the work); the ties are given (YteclpbehflfjiaaGreatDoorTie.lean); close each card by the builder's one call (the guide's Derived/Test/ToyasCard.lean, 'card_holds'). Laid BY PROGRAM, IN A SANDBOX (cutbox-door.mjs). By AI agents, Wed Nov 11 2026. No macro, syntax, notation, axiom, sorry.
-/
import Derived.Test.YteclpbehflfjiaaGreatDoorRows
import GoSem.ClaimSeven
namespace Go.Proofs.YteclpbehflfjiaaGreatDoor
namespace Rows

/-- THE TIED CARD OF 'amanuensislaw13.MachineTells'. -/
def machineTellsCard : Claim7 := { stood := { row := machineTellsRow, standIns := [], harness := (true, "0fc17c5c7c9643fdb38acb5c670ca02428f40f56d150a045be0af10b6668ce14"), looks := false }, kinds := [], alts := [], laidByText := true, laidKinds := [.data, .data, .data], laidTests := true, laidLooks := .later }
def MachineTellsCardSaid : Prop := Claim7.holds Tryz.pinned (.plain (OpenSpec.ofChange machineTellsSpec)) machineTellsCard

/-- THE SECOND FORM's CARD OF 'amanuensislaw13.MachineTells'. -/
def machineTellsUptoCard : Claim7 := { stood := { row := machineTellsUptoRow, standIns := [], harness := (true, "0fc17c5c7c9643fdb38acb5c670ca02428f40f56d150a045be0af10b6668ce14"), looks := false }, kinds := [], alts := [], laidByText := true, laidKinds := [.data, .data, .data], laidTests := true, laidLooks := .later }
def MachineTellsUptoCardSaid : Prop := Claim7.holds Tryz.pinned (.plain (OpenSpec.upto machineTellsSpec)) machineTellsUptoCard
end Rows
end Go.Proofs.YteclpbehflfjiaaGreatDoor
