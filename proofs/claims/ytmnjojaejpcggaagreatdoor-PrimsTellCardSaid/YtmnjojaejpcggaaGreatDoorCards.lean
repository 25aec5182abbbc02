/-
  DERIVED. GIVEN WITH THE SEED: THE CARDS: each row of YtmnjojaejpcggaaGreatDoorRows.lean that lists a variable, with what it lists TIED to the program's text (the seventh form; the later family's looks); each row that meets fmt, with fmt's text TOLD by the authors' own Lean function (tested against real Go, not proved from fmt's source: count such statements apart). THE CARD IS WHAT COUNTS. Prove the row's statement (the work); the ties are given (YtmnjojaejpcggaaGreatDoorTie.lean); close each card by the builder's one call (the guide's Derived/Test/ToyasCard.lean, 'card_holds'). Laid BY PROGRAM, IN A SANDBOX (cutbox-door.mjs). By AI agents, Wed Nov 11 2026. No macro, syntax, notation, axiom, sorry.
-/
import Derived.Test.YtmnjojaejpcggaaGreatDoorRows
import GoSem.ClaimSeven
namespace Go.Proofs.YtmnjojaejpcggaaGreatDoor
namespace Rows

/-- THE TIED CARD OF 'amanuensislaw12.PrimsTell'. -/
def primsTellCard : Claim7 := { stood := { row := primsTellRow, standIns := [], harness := (true, "aaef81e8cd2b0f63d5550a87d38455c28051c464a818c42ed4b24d7d80d4e943"), looks := false }, kinds := [], alts := [], laidByText := true, laidKinds := [.data, .data, .data], laidTests := true, laidLooks := .later }
def PrimsTellCardSaid : Prop := Claim7.holds Tryz.pinned (.plain (OpenSpec.ofChange primsTellSpec)) primsTellCard

/-- THE SECOND FORM's CARD OF 'amanuensislaw12.PrimsTell'. -/
def primsTellUptoCard : Claim7 := { stood := { row := primsTellUptoRow, standIns := [], harness := (true, "aaef81e8cd2b0f63d5550a87d38455c28051c464a818c42ed4b24d7d80d4e943"), looks := false }, kinds := [], alts := [], laidByText := true, laidKinds := [.data, .data, .data], laidTests := true, laidLooks := .later }
def PrimsTellUptoCardSaid : Prop := Claim7.holds Tryz.pinned (.plain (OpenSpec.upto primsTellSpec)) primsTellUptoCard
end Rows
end Go.Proofs.YtmnjojaejpcggaaGreatDoor
