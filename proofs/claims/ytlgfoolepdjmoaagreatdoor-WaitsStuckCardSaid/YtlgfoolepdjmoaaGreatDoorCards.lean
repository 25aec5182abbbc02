/-
  DERIVED. GIVEN WITH THE SEED: THE CARDS: each row of YtlgfoolepdjmoaaGreatDoorRows.lean that lists a variable, with what it lists TIED to the program's text (the seventh form; the later family's looks); each row that meets fmt, with fmt's text TOLD by the authors' own Lean function (tested against real Go, not proved from fmt's source: count such statements apart). THE CARD IS WHAT COUNTS. Prove the row's statement (the work); the ties are given (YtlgfoolepdjmoaaGreatDoorTie.lean); close each card by the builder's one call (the guide's Derived/Test/ToyasCard.lean, 'card_holds'). Laid BY PROGRAM, IN A SANDBOX (cutbox-door.mjs). By AI agents, Wed Nov 11 2026. No macro, syntax, notation, axiom, sorry.
-/
import Derived.Test.YtlgfoolepdjmoaaGreatDoorRows
import GoSem.ClaimSeven
namespace Go.Proofs.YtlgfoolepdjmoaaGreatDoor
namespace Rows

/-- THE TIED CARD OF 'amanuensislaw22.WaitsNever'. -/
def waitsNeverCard : Claim7 := { stood := { row := waitsNeverRow, standIns := [], harness := (true, "205670c56f20e0d581f8e8987c42cc5c2705f16161eac35ff0a20480774f9e89"), looks := false }, kinds := [], alts := [], laidByText := true, laidKinds := [.data, .data, .data], laidTests := true, laidLooks := .later }
def WaitsNeverCardSaid : Prop := Claim7.holds Tryz.pinned (.plain (OpenSpec.ofChange waitsNeverSpec)) waitsNeverCard

/-- THE TIED CARD OF 'amanuensislaw22.WaitsStuck'. -/
def waitsStuckCard : Claim7 := { stood := { row := waitsStuckRow, standIns := [], harness := (true, "205670c56f20e0d581f8e8987c42cc5c2705f16161eac35ff0a20480774f9e89"), looks := false }, kinds := [], alts := [], laidByText := true, laidKinds := [.data, .data, .data], laidTests := true, laidLooks := .later }
def WaitsStuckCardSaid : Prop := Claim7.holds Tryz.pinned (.plain (OpenSpec.ofChange waitsStuckSpec)) waitsStuckCard

/-- THE SECOND FORM's CARD OF 'amanuensislaw22.WaitsNever'. -/
def waitsNeverUptoCard : Claim7 := { stood := { row := waitsNeverUptoRow, standIns := [], harness := (true, "205670c56f20e0d581f8e8987c42cc5c2705f16161eac35ff0a20480774f9e89"), looks := false }, kinds := [], alts := [], laidByText := true, laidKinds := [.data, .data, .data], laidTests := true, laidLooks := .later }
def WaitsNeverUptoCardSaid : Prop := Claim7.holds Tryz.pinned (.plain (OpenSpec.upto waitsNeverSpec)) waitsNeverUptoCard

/-- THE SECOND FORM's CARD OF 'amanuensislaw22.WaitsStuck'. -/
def waitsStuckUptoCard : Claim7 := { stood := { row := waitsStuckUptoRow, standIns := [], harness := (true, "205670c56f20e0d581f8e8987c42cc5c2705f16161eac35ff0a20480774f9e89"), looks := false }, kinds := [], alts := [], laidByText := true, laidKinds := [.data, .data, .data], laidTests := true, laidLooks := .later }
def WaitsStuckUptoCardSaid : Prop := Claim7.holds Tryz.pinned (.plain (OpenSpec.upto waitsStuckSpec)) waitsStuckUptoCard
end Rows
end Go.Proofs.YtlgfoolepdjmoaaGreatDoor
