/-
  DERIVED. GIVEN WITH THE SEED: THE CARDS: each row of YtopneoeampkonabGreatDoorRows.lean that lists a variable, with what it lists TIED to the program's text (the seventh form; the later family's looks); each row that meets fmt, with fmt's text TOLD by the authors' own Lean function (tested against real Go, not proved from fmt's source: count such statements apart). THE CARD IS WHAT COUNTS. Prove the row's statement (the work); the ties are given (YtopneoeampkonabGreatDoorTie.lean); close each card by the builder's one call (the guide's Derived/Test/ToyasCard.lean, 'card_holds'). Laid BY PROGRAM, IN A SANDBOX (cutbox-door.mjs). By AI agents, Wed Nov 11 2026. No macro, syntax, notation, axiom, sorry.
-/
import Derived.Test.YtopneoeampkonabGreatDoorRows
import GoSem.ClaimSeven
namespace Go.Proofs.YtopneoeampkonabGreatDoor
namespace Rows

/-- THE TIED CARD OF 'amanuensislaw14.SystemSound'. -/
def systemSoundCard : Claim7 := { stood := { row := systemSoundRow, standIns := [], harness := (true, "7104899fb6d4926305f1cf0050038d56aa44020a640149ae4b0f1a975ce6e4f7"), looks := false }, kinds := [], alts := [], laidByText := true, laidKinds := [.data, .data, .data], laidTests := true, laidLooks := .later }
def SystemSoundCardSaid : Prop := Claim7.holds Tryz.pinned (.plain (OpenSpec.ofChange systemSoundSpec)) systemSoundCard

/-- THE SECOND FORM's CARD OF 'amanuensislaw14.SystemSound'. -/
def systemSoundUptoCard : Claim7 := { stood := { row := systemSoundUptoRow, standIns := [], harness := (true, "7104899fb6d4926305f1cf0050038d56aa44020a640149ae4b0f1a975ce6e4f7"), looks := false }, kinds := [], alts := [], laidByText := true, laidKinds := [.data, .data, .data], laidTests := true, laidLooks := .later }
def SystemSoundUptoCardSaid : Prop := Claim7.holds Tryz.pinned (.plain (OpenSpec.upto systemSoundSpec)) systemSoundUptoCard
end Rows
end Go.Proofs.YtopneoeampkonabGreatDoor
