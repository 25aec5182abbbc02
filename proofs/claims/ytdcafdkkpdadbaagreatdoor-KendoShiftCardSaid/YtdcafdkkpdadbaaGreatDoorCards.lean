/-
  DERIVED. GIVEN WITH THE SEED: THE CARDS: each row of YtdcafdkkpdadbaaGreatDoorRows.lean that lists a variable, with what it lists TIED to the program's text (the seventh form; the later family's looks); each row that meets fmt, with fmt's text TOLD by the authors' own Lean function (tested against real Go, not proved from fmt's source: count such statements apart). THE CARD IS WHAT COUNTS. Prove the row's statement (the work); the ties are given (YtdcafdkkpdadbaaGreatDoorTie.lean); close each card by the builder's one call (the guide's Derived/Test/ToyasCard.lean, 'card_holds'). Laid BY PROGRAM, IN A SANDBOX (cutbox-door.mjs). By AI agents, Wed Nov 11 2026. No macro, syntax, notation, axiom, sorry.
-/
import Derived.Test.YtdcafdkkpdadbaaGreatDoorRows
import GoSem.ClaimSeven
namespace Go.Proofs.YtdcafdkkpdadbaaGreatDoor
namespace Rows

/-- THE TIED CARD OF 'amanuensislaw17.FreeJoins'. -/
def freeJoinsCard : Claim7 := { stood := { row := freeJoinsRow, standIns := [], harness := (true, "4192de1df30d4aeafc35c0b765b03878b2de046e552aabe7201bf5890ec85153"), looks := false }, kinds := [], alts := [], laidByText := true, laidKinds := [.data, .data, .data], laidTests := true, laidLooks := .later }
def FreeJoinsCardSaid : Prop := Claim7.holds Tryz.pinned (.plain (OpenSpec.ofChange freeJoinsSpec)) freeJoinsCard

/-- THE TIED CARD OF 'amanuensislaw18.KendoShift'. -/
def kendoShiftCard : Claim7 := { stood := { row := kendoShiftRow, standIns := [], harness := (true, "4192de1df30d4aeafc35c0b765b03878b2de046e552aabe7201bf5890ec85153"), looks := false }, kinds := [], alts := [], laidByText := true, laidKinds := [.data, .data, .data], laidTests := true, laidLooks := .later }
def KendoShiftCardSaid : Prop := Claim7.holds Tryz.pinned (.plain (OpenSpec.ofChange kendoShiftSpec)) kendoShiftCard

/-- THE TIED CARD OF 'amanuensislaw14.SystemGrows'. -/
def systemGrowsCard : Claim7 := { stood := { row := systemGrowsRow, standIns := [], harness := (true, "4192de1df30d4aeafc35c0b765b03878b2de046e552aabe7201bf5890ec85153"), looks := false }, kinds := [], alts := [], laidByText := true, laidKinds := [.data, .data, .data], laidTests := true, laidLooks := .later }
def SystemGrowsCardSaid : Prop := Claim7.holds Tryz.pinned (.plain (OpenSpec.ofChange systemGrowsSpec)) systemGrowsCard

/-- THE SECOND FORM's CARD OF 'amanuensislaw17.FreeJoins'. -/
def freeJoinsUptoCard : Claim7 := { stood := { row := freeJoinsUptoRow, standIns := [], harness := (true, "4192de1df30d4aeafc35c0b765b03878b2de046e552aabe7201bf5890ec85153"), looks := false }, kinds := [], alts := [], laidByText := true, laidKinds := [.data, .data, .data], laidTests := true, laidLooks := .later }
def FreeJoinsUptoCardSaid : Prop := Claim7.holds Tryz.pinned (.plain (OpenSpec.upto freeJoinsSpec)) freeJoinsUptoCard

/-- THE SECOND FORM's CARD OF 'amanuensislaw18.KendoShift'. -/
def kendoShiftUptoCard : Claim7 := { stood := { row := kendoShiftUptoRow, standIns := [], harness := (true, "4192de1df30d4aeafc35c0b765b03878b2de046e552aabe7201bf5890ec85153"), looks := false }, kinds := [], alts := [], laidByText := true, laidKinds := [.data, .data, .data], laidTests := true, laidLooks := .later }
def KendoShiftUptoCardSaid : Prop := Claim7.holds Tryz.pinned (.plain (OpenSpec.upto kendoShiftSpec)) kendoShiftUptoCard

/-- THE SECOND FORM's CARD OF 'amanuensislaw14.SystemGrows'. -/
def systemGrowsUptoCard : Claim7 := { stood := { row := systemGrowsUptoRow, standIns := [], harness := (true, "4192de1df30d4aeafc35c0b765b03878b2de046e552aabe7201bf5890ec85153"), looks := false }, kinds := [], alts := [], laidByText := true, laidKinds := [.data, .data, .data], laidTests := true, laidLooks := .later }
def SystemGrowsUptoCardSaid : Prop := Claim7.holds Tryz.pinned (.plain (OpenSpec.upto systemGrowsSpec)) systemGrowsUptoCard
end Rows
end Go.Proofs.YtdcafdkkpdadbaaGreatDoor
