/-
  DERIVED. GIVEN WITH THE SEED: THE CARDS: each row of YtoihjjgkpialoaaGreatDoorRows.lean that lists a variable, with what it lists TIED to the program's text (the seventh form; the later family's looks); each row that meets fmt, with fmt's text TOLD by the authors' own Lean function (tested against real Go, not proved from fmt's source: count such statements apart). THE CARD IS WHAT COUNTS. Prove the row's statement (the work); the ties are given (YtoihjjgkpialoaaGreatDoorTie.lean); close each card by the builder's one call (the guide's Derived/Test/ToyasCard.lean, 'card_holds'). Laid BY PROGRAM, IN A SANDBOX (cutbox-door.mjs). By AI agents, Wed Nov 11 2026. No macro, syntax, notation, axiom, sorry.
-/
import Derived.Test.YtoihjjgkpialoaaGreatDoorRows
import GoSem.ClaimSeven
namespace Go.Proofs.YtoihjjgkpialoaaGreatDoor
namespace Rows

/-- THE TIED CARD OF 'amanuensislaw17.FreeTells'. -/
def freeTellsCard : Claim7 := { stood := { row := freeTellsRow, standIns := [], harness := (true, "732df55f99e349e7f3707dce230a5099f1e5ba5dd4c3921c5623e6840d3203f1"), looks := false }, kinds := [], alts := [], laidByText := true, laidKinds := [.data, .data, .data], laidTests := true, laidLooks := .later }
def FreeTellsCardSaid : Prop := Claim7.holds Tryz.pinned (.plain (OpenSpec.ofChange freeTellsSpec)) freeTellsCard

/-- THE SECOND FORM's CARD OF 'amanuensislaw17.FreeTells'. -/
def freeTellsUptoCard : Claim7 := { stood := { row := freeTellsUptoRow, standIns := [], harness := (true, "732df55f99e349e7f3707dce230a5099f1e5ba5dd4c3921c5623e6840d3203f1"), looks := false }, kinds := [], alts := [], laidByText := true, laidKinds := [.data, .data, .data], laidTests := true, laidLooks := .later }
def FreeTellsUptoCardSaid : Prop := Claim7.holds Tryz.pinned (.plain (OpenSpec.upto freeTellsSpec)) freeTellsUptoCard
end Rows
end Go.Proofs.YtoihjjgkpialoaaGreatDoor
