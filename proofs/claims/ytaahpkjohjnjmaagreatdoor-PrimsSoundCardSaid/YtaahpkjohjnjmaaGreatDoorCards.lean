/-
  DERIVED. GIVEN WITH THE SEED: THE CARDS: each row of YtaahpkjohjnjmaaGreatDoorRows.lean that lists a variable, with what it lists TIED to the program's text (the seventh form; the later family's looks); each row that meets fmt, with fmt's text TOLD by the authors' own Lean function (tested against real Go, not proved from fmt's source: count such statements apart). THE CARD IS WHAT COUNTS. Prove the row's statement (the work); the ties are given (YtaahpkjohjnjmaaGreatDoorTie.lean); close each card by the builder's one call (the guide's Derived/Test/ToyasCard.lean, 'card_holds'). Laid BY PROGRAM, IN A SANDBOX (cutbox-door.mjs). By AI agents, Wed Nov 11 2026. No macro, syntax, notation, axiom, sorry.
-/
import Derived.Test.YtaahpkjohjnjmaaGreatDoorRows
import GoSem.ClaimSeven
namespace Go.Proofs.YtaahpkjohjnjmaaGreatDoor
namespace Rows

/-- THE TIED CARD OF 'amanuensislaw12.PrimsSound'. -/
def primsSoundCard : Claim7 := { stood := { row := primsSoundRow, standIns := [], harness := (true, "2962da828c6ccdb4e05905b33f6879d069b911545a55b02ed0ec8813537ae31c"), looks := false }, kinds := [], alts := [], laidByText := true, laidKinds := [.data, .data, .data], laidTests := true, laidLooks := .later }
def PrimsSoundCardSaid : Prop := Claim7.holds Tryz.pinned (.plain (OpenSpec.ofChange primsSoundSpec)) primsSoundCard

/-- THE SECOND FORM's CARD OF 'amanuensislaw12.PrimsSound'. -/
def primsSoundUptoCard : Claim7 := { stood := { row := primsSoundUptoRow, standIns := [], harness := (true, "2962da828c6ccdb4e05905b33f6879d069b911545a55b02ed0ec8813537ae31c"), looks := false }, kinds := [], alts := [], laidByText := true, laidKinds := [.data, .data, .data], laidTests := true, laidLooks := .later }
def PrimsSoundUptoCardSaid : Prop := Claim7.holds Tryz.pinned (.plain (OpenSpec.upto primsSoundSpec)) primsSoundUptoCard
end Rows
end Go.Proofs.YtaahpkjohjnjmaaGreatDoor
