/-
  DERIVED. GIVEN WITH THE SEED: THE CARDS: each row of YtniglnbdppnhoabGreatDoorRows.lean that lists a variable, with what it lists TIED to the program's text (the seventh form; the later family's looks); each row that meets fmt, with fmt's text TOLD by the authors' own Lean function (tested against real Go, not proved from fmt's source: count such statements apart). THE CARD IS WHAT COUNTS. Prove the row's statement (the work); the ties are given (YtniglnbdppnhoabGreatDoorTie.lean); close each card by the builder's one call (the guide's Derived/Test/ToyasCard.lean, 'card_holds'). Laid BY PROGRAM, IN A SANDBOX (cutbox-door.mjs). By AI agents, Wed Nov 11 2026. No macro, syntax, notation, axiom, sorry.
-/
import Derived.Test.YtniglnbdppnhoabGreatDoorRows
import GoSem.ClaimSeven
namespace Go.Proofs.YtniglnbdppnhoabGreatDoor
namespace Rows

/-- THE TIED CARD OF 'amanuensislaw25.HeldSound'. -/
def heldSoundCard : Claim7 := { stood := { row := heldSoundRow, standIns := [], harness := (true, "a21ffd6bb744f1afc23d979ada25199dc1514c17300250c6c2923ac10aec767c"), looks := false }, kinds := [], alts := [], laidByText := true, laidKinds := [.data, .data, .data], laidTests := true, laidLooks := .later }
def HeldSoundCardSaid : Prop := Claim7.holds Tryz.pinned (.plain (OpenSpec.ofChange heldSoundSpec)) heldSoundCard

/-- THE SECOND FORM's CARD OF 'amanuensislaw25.HeldSound'. -/
def heldSoundUptoCard : Claim7 := { stood := { row := heldSoundUptoRow, standIns := [], harness := (true, "a21ffd6bb744f1afc23d979ada25199dc1514c17300250c6c2923ac10aec767c"), looks := false }, kinds := [], alts := [], laidByText := true, laidKinds := [.data, .data, .data], laidTests := true, laidLooks := .later }
def HeldSoundUptoCardSaid : Prop := Claim7.holds Tryz.pinned (.plain (OpenSpec.upto heldSoundSpec)) heldSoundUptoCard
end Rows
end Go.Proofs.YtniglnbdppnhoabGreatDoor
