/-
  DERIVED. GIVEN WITH THE SEED: THE CARDS: each row of YtopneoeampkonacGreatDoorRows.lean that lists a variable, with what it lists TIED to the program's text (the seventh form; the later family's looks); each row that meets fmt, with fmt's text TOLD by the authors' own Lean function (tested against real Go, not proved from fmt's source: count such statements apart). THE CARD IS WHAT COUNTS. Prove the row's statement (the work); the ties are given (YtopneoeampkonacGreatDoorTie.lean); close each card by the builder's one call (the guide's Derived/Test/ToyasCard.lean, 'card_holds'). Laid BY PROGRAM, IN A SANDBOX (cutbox-door.mjs). By AI agents, Wed Nov 11 2026. No macro, syntax, notation, axiom, sorry.
-/
import Derived.Test.YtopneoeampkonacGreatDoorRows
import GoSem.ClaimSeven
namespace Go.Proofs.YtopneoeampkonacGreatDoor
namespace Rows

/-- THE TIED CARD OF 'amanuensislaw14.SystemSwaps'. -/
def systemSwapsCard : Claim7 := { stood := { row := systemSwapsRow, standIns := [], harness := (true, "4ae51f4efdd1452b5c4eac264e386f4ebe0bad41c721271c8fafc1f3e777ca7b"), looks := false }, kinds := [], alts := [], laidByText := true, laidKinds := [.data, .data, .data], laidTests := true, laidLooks := .later }
def SystemSwapsCardSaid : Prop := Claim7.holds Tryz.pinned (.plain (OpenSpec.ofChange systemSwapsSpec)) systemSwapsCard

/-- THE SECOND FORM's CARD OF 'amanuensislaw14.SystemSwaps'. -/
def systemSwapsUptoCard : Claim7 := { stood := { row := systemSwapsUptoRow, standIns := [], harness := (true, "4ae51f4efdd1452b5c4eac264e386f4ebe0bad41c721271c8fafc1f3e777ca7b"), looks := false }, kinds := [], alts := [], laidByText := true, laidKinds := [.data, .data, .data], laidTests := true, laidLooks := .later }
def SystemSwapsUptoCardSaid : Prop := Claim7.holds Tryz.pinned (.plain (OpenSpec.upto systemSwapsSpec)) systemSwapsUptoCard
end Rows
end Go.Proofs.YtopneoeampkonacGreatDoor
