/-
  DERIVED. GIVEN WITH THE SEED: THE CARDS: each row of YtbmkacliajebmaaGreatDoorRows.lean that lists a variable, with what it lists TIED to the program's text (the seventh form; the later family's looks); each row that meets fmt, with fmt's text TOLD by the authors' own Lean function (tested against real Go, not proved from fmt's source: count such statements apart). THE CARD IS WHAT COUNTS. Prove the row's statement (the work); the ties are given (YtbmkacliajebmaaGreatDoorTie.lean); close each card by the builder's one call (the guide's Derived/Test/ToyasCard.lean, 'card_holds'). Laid BY PROGRAM, IN A SANDBOX (cutbox-door.mjs). By AI agents, Wed Nov 11 2026. No macro, syntax, notation, axiom, sorry.
-/
import Derived.Test.YtbmkacliajebmaaGreatDoorRows
import GoSem.ClaimSeven
namespace Go.Proofs.YtbmkacliajebmaaGreatDoor
namespace Rows

/-- THE TIED CARD OF 'amanuensislaw27.ShrinkLeast'. -/
def shrinkLeastCard : Claim7 := { stood := { row := shrinkLeastRow, standIns := [], harness := (true, "e6a11dce4a8dd4d7e2b01205b03c52754848aaf3b63f965cf4f858a98201bef0"), looks := false }, kinds := [], alts := [], laidByText := true, laidKinds := [.data, .data, .data], laidTests := true, laidLooks := .later }
def ShrinkLeastCardSaid : Prop := Claim7.holds Tryz.pinned (.plain (OpenSpec.ofChange shrinkLeastSpec)) shrinkLeastCard

/-- THE TIED CARD OF 'amanuensislaw27.ShrinkStays'. -/
def shrinkStaysCard : Claim7 := { stood := { row := shrinkStaysRow, standIns := [], harness := (true, "e6a11dce4a8dd4d7e2b01205b03c52754848aaf3b63f965cf4f858a98201bef0"), looks := false }, kinds := [], alts := [], laidByText := true, laidKinds := [.data, .data, .data], laidTests := true, laidLooks := .later }
def ShrinkStaysCardSaid : Prop := Claim7.holds Tryz.pinned (.plain (OpenSpec.ofChange shrinkStaysSpec)) shrinkStaysCard

/-- THE SECOND FORM's CARD OF 'amanuensislaw27.ShrinkLeast'. -/
def shrinkLeastUptoCard : Claim7 := { stood := { row := shrinkLeastUptoRow, standIns := [], harness := (true, "e6a11dce4a8dd4d7e2b01205b03c52754848aaf3b63f965cf4f858a98201bef0"), looks := false }, kinds := [], alts := [], laidByText := true, laidKinds := [.data, .data, .data], laidTests := true, laidLooks := .later }
def ShrinkLeastUptoCardSaid : Prop := Claim7.holds Tryz.pinned (.plain (OpenSpec.upto shrinkLeastSpec)) shrinkLeastUptoCard

/-- THE SECOND FORM's CARD OF 'amanuensislaw27.ShrinkStays'. -/
def shrinkStaysUptoCard : Claim7 := { stood := { row := shrinkStaysUptoRow, standIns := [], harness := (true, "e6a11dce4a8dd4d7e2b01205b03c52754848aaf3b63f965cf4f858a98201bef0"), looks := false }, kinds := [], alts := [], laidByText := true, laidKinds := [.data, .data, .data], laidTests := true, laidLooks := .later }
def ShrinkStaysUptoCardSaid : Prop := Claim7.holds Tryz.pinned (.plain (OpenSpec.upto shrinkStaysSpec)) shrinkStaysUptoCard
end Rows
end Go.Proofs.YtbmkacliajebmaaGreatDoor
