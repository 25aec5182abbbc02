/-
  DERIVED. GIVEN WITH THE SEED: THE CARDS: each row of YtcmepjpoffiijaaGreatDoorRows.lean that lists a variable, with what it lists TIED to the program's text (the seventh form; the later family's looks); each row that meets fmt, with fmt's text TOLD by the authors' own Lean function (tested against real Go, not proved from fmt's source: count such statements apart). THE CARD IS WHAT COUNTS. Prove the row's statement (the work); the ties are given (YtcmepjpoffiijaaGreatDoorTie.lean); close each card by the builder's one call (the guide's Derived/Test/ToyasCard.lean, 'card_holds'). Laid BY PROGRAM, IN A SANDBOX (cutbox-door.mjs). By AI agents, Wed Nov 11 2026. No macro, syntax, notation, axiom, sorry.
-/
import Derived.Test.YtcmepjpoffiijaaGreatDoorRows
import GoSem.ClaimSeven
namespace Go.Proofs.YtcmepjpoffiijaaGreatDoor
namespace Rows

/-- THE TIED CARD OF 'amanuensislaw12.PrimsTell'. -/
def primsTellCard : Claim7 := { stood := { row := primsTellRow, standIns := [], harness := (true, "581a0625200bce00c838a0bd8c82947764578942c5bb39ef55f6fd24cdab1e7a"), looks := false }, kinds := [], alts := [], laidByText := true, laidKinds := [.data, .data, .data], laidTests := true, laidLooks := .later }
def PrimsTellCardSaid : Prop := Claim7.holds Tryz.pinned (.plain (OpenSpec.ofChange primsTellSpec)) primsTellCard

/-- THE TIED CARD OF 'amanuensislaw12.PrimsSound'. -/
def primsSoundCard : Claim7 := { stood := { row := primsSoundRow, standIns := [], harness := (true, "581a0625200bce00c838a0bd8c82947764578942c5bb39ef55f6fd24cdab1e7a"), looks := false }, kinds := [], alts := [], laidByText := true, laidKinds := [.data, .data, .data], laidTests := true, laidLooks := .later }
def PrimsSoundCardSaid : Prop := Claim7.holds Tryz.pinned (.plain (OpenSpec.ofChange primsSoundSpec)) primsSoundCard

/-- THE TIED CARD OF 'amanuensislaw12.PrimsBarrier'. -/
def primsBarrierCard : Claim7 := { stood := { row := primsBarrierRow, standIns := [], harness := (true, "581a0625200bce00c838a0bd8c82947764578942c5bb39ef55f6fd24cdab1e7a"), looks := false }, kinds := [], alts := [], laidByText := true, laidKinds := [.data, .data, .data], laidTests := true, laidLooks := .later }
def PrimsBarrierCardSaid : Prop := Claim7.holds Tryz.pinned (.plain (OpenSpec.ofChange primsBarrierSpec)) primsBarrierCard

/-- THE TIED CARD OF 'amanuensislaw12.PrimsMutex'. -/
def primsMutexCard : Claim7 := { stood := { row := primsMutexRow, standIns := [], harness := (true, "581a0625200bce00c838a0bd8c82947764578942c5bb39ef55f6fd24cdab1e7a"), looks := false }, kinds := [], alts := [], laidByText := true, laidKinds := [.data, .data, .data], laidTests := true, laidLooks := .later }
def PrimsMutexCardSaid : Prop := Claim7.holds Tryz.pinned (.plain (OpenSpec.ofChange primsMutexSpec)) primsMutexCard

/-- THE TIED CARD OF 'amanuensislaw12.PrimsReaders'. -/
def primsReadersCard : Claim7 := { stood := { row := primsReadersRow, standIns := [], harness := (true, "581a0625200bce00c838a0bd8c82947764578942c5bb39ef55f6fd24cdab1e7a"), looks := false }, kinds := [], alts := [], laidByText := true, laidKinds := [.data, .data, .data], laidTests := true, laidLooks := .later }
def PrimsReadersCardSaid : Prop := Claim7.holds Tryz.pinned (.plain (OpenSpec.ofChange primsReadersSpec)) primsReadersCard

/-- THE TIED CARD OF 'amanuensislaw12.PrimsSemaphore'. -/
def primsSemaphoreCard : Claim7 := { stood := { row := primsSemaphoreRow, standIns := [], harness := (true, "581a0625200bce00c838a0bd8c82947764578942c5bb39ef55f6fd24cdab1e7a"), looks := false }, kinds := [], alts := [], laidByText := true, laidKinds := [.data, .data, .data], laidTests := true, laidLooks := .later }
def PrimsSemaphoreCardSaid : Prop := Claim7.holds Tryz.pinned (.plain (OpenSpec.ofChange primsSemaphoreSpec)) primsSemaphoreCard

/-- THE TIED CARD OF 'amanuensislaw12.PrimsQueue'. -/
def primsQueueCard : Claim7 := { stood := { row := primsQueueRow, standIns := [], harness := (true, "581a0625200bce00c838a0bd8c82947764578942c5bb39ef55f6fd24cdab1e7a"), looks := false }, kinds := [], alts := [], laidByText := true, laidKinds := [.data, .data, .data], laidTests := true, laidLooks := .later }
def PrimsQueueCardSaid : Prop := Claim7.holds Tryz.pinned (.plain (OpenSpec.ofChange primsQueueSpec)) primsQueueCard

/-- THE TIED CARD OF 'amanuensislaw12.PrimsOnce'. -/
def primsOnceCard : Claim7 := { stood := { row := primsOnceRow, standIns := [], harness := (true, "581a0625200bce00c838a0bd8c82947764578942c5bb39ef55f6fd24cdab1e7a"), looks := false }, kinds := [], alts := [], laidByText := true, laidKinds := [.data, .data, .data], laidTests := true, laidLooks := .later }
def PrimsOnceCardSaid : Prop := Claim7.holds Tryz.pinned (.plain (OpenSpec.ofChange primsOnceSpec)) primsOnceCard

/-- THE TIED CARD OF 'amanuensislaw12.PrimsGroup'. -/
def primsGroupCard : Claim7 := { stood := { row := primsGroupRow, standIns := [], harness := (true, "581a0625200bce00c838a0bd8c82947764578942c5bb39ef55f6fd24cdab1e7a"), looks := false }, kinds := [], alts := [], laidByText := true, laidKinds := [.data, .data, .data], laidTests := true, laidLooks := .later }
def PrimsGroupCardSaid : Prop := Claim7.holds Tryz.pinned (.plain (OpenSpec.ofChange primsGroupSpec)) primsGroupCard

/-- THE TIED CARD OF 'amanuensislaw12.PrimsCondition'. -/
def primsConditionCard : Claim7 := { stood := { row := primsConditionRow, standIns := [], harness := (true, "581a0625200bce00c838a0bd8c82947764578942c5bb39ef55f6fd24cdab1e7a"), looks := false }, kinds := [], alts := [], laidByText := true, laidKinds := [.data, .data, .data], laidTests := true, laidLooks := .later }
def PrimsConditionCardSaid : Prop := Claim7.holds Tryz.pinned (.plain (OpenSpec.ofChange primsConditionSpec)) primsConditionCard

/-- THE TIED CARD OF 'amanuensislaw12.PrimsApart'. -/
def primsApartCard : Claim7 := { stood := { row := primsApartRow, standIns := [], harness := (true, "581a0625200bce00c838a0bd8c82947764578942c5bb39ef55f6fd24cdab1e7a"), looks := false }, kinds := [], alts := [], laidByText := true, laidKinds := [.data, .data, .data], laidTests := true, laidLooks := .later }
def PrimsApartCardSaid : Prop := Claim7.holds Tryz.pinned (.plain (OpenSpec.ofChange primsApartSpec)) primsApartCard

/-- THE SECOND FORM's CARD OF 'amanuensislaw12.PrimsTell'. -/
def primsTellUptoCard : Claim7 := { stood := { row := primsTellUptoRow, standIns := [], harness := (true, "581a0625200bce00c838a0bd8c82947764578942c5bb39ef55f6fd24cdab1e7a"), looks := false }, kinds := [], alts := [], laidByText := true, laidKinds := [.data, .data, .data], laidTests := true, laidLooks := .later }
def PrimsTellUptoCardSaid : Prop := Claim7.holds Tryz.pinned (.plain (OpenSpec.upto primsTellSpec)) primsTellUptoCard

/-- THE SECOND FORM's CARD OF 'amanuensislaw12.PrimsSound'. -/
def primsSoundUptoCard : Claim7 := { stood := { row := primsSoundUptoRow, standIns := [], harness := (true, "581a0625200bce00c838a0bd8c82947764578942c5bb39ef55f6fd24cdab1e7a"), looks := false }, kinds := [], alts := [], laidByText := true, laidKinds := [.data, .data, .data], laidTests := true, laidLooks := .later }
def PrimsSoundUptoCardSaid : Prop := Claim7.holds Tryz.pinned (.plain (OpenSpec.upto primsSoundSpec)) primsSoundUptoCard

/-- THE SECOND FORM's CARD OF 'amanuensislaw12.PrimsBarrier'. -/
def primsBarrierUptoCard : Claim7 := { stood := { row := primsBarrierUptoRow, standIns := [], harness := (true, "581a0625200bce00c838a0bd8c82947764578942c5bb39ef55f6fd24cdab1e7a"), looks := false }, kinds := [], alts := [], laidByText := true, laidKinds := [.data, .data, .data], laidTests := true, laidLooks := .later }
def PrimsBarrierUptoCardSaid : Prop := Claim7.holds Tryz.pinned (.plain (OpenSpec.upto primsBarrierSpec)) primsBarrierUptoCard

/-- THE SECOND FORM's CARD OF 'amanuensislaw12.PrimsMutex'. -/
def primsMutexUptoCard : Claim7 := { stood := { row := primsMutexUptoRow, standIns := [], harness := (true, "581a0625200bce00c838a0bd8c82947764578942c5bb39ef55f6fd24cdab1e7a"), looks := false }, kinds := [], alts := [], laidByText := true, laidKinds := [.data, .data, .data], laidTests := true, laidLooks := .later }
def PrimsMutexUptoCardSaid : Prop := Claim7.holds Tryz.pinned (.plain (OpenSpec.upto primsMutexSpec)) primsMutexUptoCard

/-- THE SECOND FORM's CARD OF 'amanuensislaw12.PrimsReaders'. -/
def primsReadersUptoCard : Claim7 := { stood := { row := primsReadersUptoRow, standIns := [], harness := (true, "581a0625200bce00c838a0bd8c82947764578942c5bb39ef55f6fd24cdab1e7a"), looks := false }, kinds := [], alts := [], laidByText := true, laidKinds := [.data, .data, .data], laidTests := true, laidLooks := .later }
def PrimsReadersUptoCardSaid : Prop := Claim7.holds Tryz.pinned (.plain (OpenSpec.upto primsReadersSpec)) primsReadersUptoCard

/-- THE SECOND FORM's CARD OF 'amanuensislaw12.PrimsSemaphore'. -/
def primsSemaphoreUptoCard : Claim7 := { stood := { row := primsSemaphoreUptoRow, standIns := [], harness := (true, "581a0625200bce00c838a0bd8c82947764578942c5bb39ef55f6fd24cdab1e7a"), looks := false }, kinds := [], alts := [], laidByText := true, laidKinds := [.data, .data, .data], laidTests := true, laidLooks := .later }
def PrimsSemaphoreUptoCardSaid : Prop := Claim7.holds Tryz.pinned (.plain (OpenSpec.upto primsSemaphoreSpec)) primsSemaphoreUptoCard

/-- THE SECOND FORM's CARD OF 'amanuensislaw12.PrimsQueue'. -/
def primsQueueUptoCard : Claim7 := { stood := { row := primsQueueUptoRow, standIns := [], harness := (true, "581a0625200bce00c838a0bd8c82947764578942c5bb39ef55f6fd24cdab1e7a"), looks := false }, kinds := [], alts := [], laidByText := true, laidKinds := [.data, .data, .data], laidTests := true, laidLooks := .later }
def PrimsQueueUptoCardSaid : Prop := Claim7.holds Tryz.pinned (.plain (OpenSpec.upto primsQueueSpec)) primsQueueUptoCard

/-- THE SECOND FORM's CARD OF 'amanuensislaw12.PrimsOnce'. -/
def primsOnceUptoCard : Claim7 := { stood := { row := primsOnceUptoRow, standIns := [], harness := (true, "581a0625200bce00c838a0bd8c82947764578942c5bb39ef55f6fd24cdab1e7a"), looks := false }, kinds := [], alts := [], laidByText := true, laidKinds := [.data, .data, .data], laidTests := true, laidLooks := .later }
def PrimsOnceUptoCardSaid : Prop := Claim7.holds Tryz.pinned (.plain (OpenSpec.upto primsOnceSpec)) primsOnceUptoCard

/-- THE SECOND FORM's CARD OF 'amanuensislaw12.PrimsGroup'. -/
def primsGroupUptoCard : Claim7 := { stood := { row := primsGroupUptoRow, standIns := [], harness := (true, "581a0625200bce00c838a0bd8c82947764578942c5bb39ef55f6fd24cdab1e7a"), looks := false }, kinds := [], alts := [], laidByText := true, laidKinds := [.data, .data, .data], laidTests := true, laidLooks := .later }
def PrimsGroupUptoCardSaid : Prop := Claim7.holds Tryz.pinned (.plain (OpenSpec.upto primsGroupSpec)) primsGroupUptoCard

/-- THE SECOND FORM's CARD OF 'amanuensislaw12.PrimsCondition'. -/
def primsConditionUptoCard : Claim7 := { stood := { row := primsConditionUptoRow, standIns := [], harness := (true, "581a0625200bce00c838a0bd8c82947764578942c5bb39ef55f6fd24cdab1e7a"), looks := false }, kinds := [], alts := [], laidByText := true, laidKinds := [.data, .data, .data], laidTests := true, laidLooks := .later }
def PrimsConditionUptoCardSaid : Prop := Claim7.holds Tryz.pinned (.plain (OpenSpec.upto primsConditionSpec)) primsConditionUptoCard

/-- THE SECOND FORM's CARD OF 'amanuensislaw12.PrimsApart'. -/
def primsApartUptoCard : Claim7 := { stood := { row := primsApartUptoRow, standIns := [], harness := (true, "581a0625200bce00c838a0bd8c82947764578942c5bb39ef55f6fd24cdab1e7a"), looks := false }, kinds := [], alts := [], laidByText := true, laidKinds := [.data, .data, .data], laidTests := true, laidLooks := .later }
def PrimsApartUptoCardSaid : Prop := Claim7.holds Tryz.pinned (.plain (OpenSpec.upto primsApartSpec)) primsApartUptoCard
end Rows
end Go.Proofs.YtcmepjpoffiijaaGreatDoor
