/-
  NARROWER THAN 'FOR EVERY INPUT', by the rows' own cells (each row's printed sentence says how): PrimsTell: loops, laid · PrimsSound: loops, laid · PrimsBarrier: laid · PrimsMutex: laid · PrimsReaders: laid · PrimsSemaphore: laid · PrimsQueue: laid · PrimsOnce: laid · PrimsGroup: laid · PrimsCondition: laid · PrimsApart: loops, laid.
  DERIVED. THE GIVEN ROWS OF THIS SEAT. 11 by the template 'for every input the law returns true; each argument reads behind the call as it read before'; 0 by the template 'total and deterministic' (their statements: YtcmepjpoffiijaaGreatDoorTotals.lean).
  GIVEN WITH THE SEED: the statements are not yours to turn. If you find one false, say at which input.
  Laid BY PROGRAM, IN A SANDBOX (cutbox-rows.mjs): the forced cells as the released guide's own fill.sh prints them over the translation 4c5870ab2fd10e63… (all of the seat's roots in one cut). By AI agents, Wed Nov 11 2026. No macro, syntax, notation, axiom, sorry.
-/
import Derived.Test.YtcmepjpoffiijaaGreatDoorChecked
import GoSem.Claim
import GoSem.ClaimJoined
import GoSem.ClaimMapViews
import Derived.JoinedTies
import Derived.KernelRfl
namespace Go.Proofs.YtcmepjpoffiijaaGreatDoor
/- THE CELL 'sum', in the pinned program and in every row, IS THE sha256 OF THE DUMP (.gsa) THAT YtcmepjpoffiijaaGreatDoorProg.lean LOADS. Nothing in Lean hashes anything: it is a label: what it is worth is what the hold of that sum in a sandbox is worth. -/
noncomputable def Tryz.pinned : Pinned := { name := "ytcmepjpoffiijaagreatdoor", sum := "4c5870ab2fd10e6380d51005bc32c4bf706f48f0e0790f72c3902691de6d73e9", checked := Tryz.checked }
namespace Rows
def none {H : Type} : Left H := { results := [], args := [] }

/- WHAT THE LISTED PACKAGE-LEVEL VARIABLES READ AS WHEN THE CALL BEGINS. Each datum BY PROGRAM (the guide's laid-datum.mjs) off the statement by which the dump's own 'gosem.cut.vars' lays the variable. In a bare row this is a premise. The card (YtcmepjpoffiijaaGreatDoorCards.lean) ties it to the program's text. -/
def laid_math_bits_deBruijn32tab {H : Type} : DataW H := .agg [.lit (.int .u8 0), .lit (.int .u8 1), .lit (.int .u8 28), .lit (.int .u8 2), .lit (.int .u8 29), .lit (.int .u8 14), .lit (.int .u8 24), .lit (.int .u8 3), .lit (.int .u8 30), .lit (.int .u8 22), .lit (.int .u8 20), .lit (.int .u8 15), .lit (.int .u8 25), .lit (.int .u8 17), .lit (.int .u8 4), .lit (.int .u8 8), .lit (.int .u8 31), .lit (.int .u8 27), .lit (.int .u8 13), .lit (.int .u8 23), .lit (.int .u8 21), .lit (.int .u8 19), .lit (.int .u8 16), .lit (.int .u8 7), .lit (.int .u8 26), .lit (.int .u8 12), .lit (.int .u8 18), .lit (.int .u8 6), .lit (.int .u8 11), .lit (.int .u8 5), .lit (.int .u8 10), .lit (.int .u8 9)]
def laid_math_bits_deBruijn64tab {H : Type} : DataW H := .agg [.lit (.int .u8 0), .lit (.int .u8 1), .lit (.int .u8 56), .lit (.int .u8 2), .lit (.int .u8 57), .lit (.int .u8 49), .lit (.int .u8 28), .lit (.int .u8 3), .lit (.int .u8 61), .lit (.int .u8 58), .lit (.int .u8 42), .lit (.int .u8 50), .lit (.int .u8 38), .lit (.int .u8 29), .lit (.int .u8 17), .lit (.int .u8 4), .lit (.int .u8 62), .lit (.int .u8 47), .lit (.int .u8 59), .lit (.int .u8 36), .lit (.int .u8 45), .lit (.int .u8 43), .lit (.int .u8 51), .lit (.int .u8 22), .lit (.int .u8 53), .lit (.int .u8 39), .lit (.int .u8 33), .lit (.int .u8 30), .lit (.int .u8 24), .lit (.int .u8 18), .lit (.int .u8 12), .lit (.int .u8 5), .lit (.int .u8 63), .lit (.int .u8 55), .lit (.int .u8 48), .lit (.int .u8 27), .lit (.int .u8 60), .lit (.int .u8 41), .lit (.int .u8 37), .lit (.int .u8 16), .lit (.int .u8 46), .lit (.int .u8 35), .lit (.int .u8 44), .lit (.int .u8 21), .lit (.int .u8 52), .lit (.int .u8 32), .lit (.int .u8 23), .lit (.int .u8 11), .lit (.int .u8 54), .lit (.int .u8 26), .lit (.int .u8 40), .lit (.int .u8 15), .lit (.int .u8 34), .lit (.int .u8 20), .lit (.int .u8 31), .lit (.int .u8 10), .lit (.int .u8 25), .lit (.int .u8 14), .lit (.int .u8 19), .lit (.int .u8 9), .lit (.int .u8 13), .lit (.int .u8 8), .lit (.int .u8 7), .lit (.int .u8 6)]
def laid_internal_strconv_uint64pow10 {H : Type} : DataW H := .agg [.lit (.int .u64 1), .lit (.int .u64 10), .lit (.int .u64 100), .lit (.int .u64 1000), .lit (.int .u64 10000), .lit (.int .u64 100000), .lit (.int .u64 1000000), .lit (.int .u64 10000000), .lit (.int .u64 100000000), .lit (.int .u64 1000000000), .lit (.int .u64 10000000000), .lit (.int .u64 100000000000), .lit (.int .u64 1000000000000), .lit (.int .u64 10000000000000), .lit (.int .u64 100000000000000), .lit (.int .u64 1000000000000000), .lit (.int .u64 10000000000000000), .lit (.int .u64 100000000000000000), .lit (.int .u64 1000000000000000000), .lit (.int .u64 10000000000000000000)]

/-- 'amanuensislaw12.PrimsTell': WHATEVER THE INPUT: true; the input reads as it did. -/
def primsTellSpec : ChangeSpec := { name := "primsTell", fn := fun _ => fun
  | [d1, d2, d3] => { results := [.lit (.bool true)], args := [d1, d2, d3] }
  | _ => none }
def primsTellRow : OpenClaim := { program := "ytcmepjpoffiijaagreatdoor", sum := "4c5870ab2fd10e6380d51005bc32c4bf706f48f0e0790f72c3902691de6d73e9", func := "amanuensis/amanuensislaw12.PrimsTell", spec := "primsTell", inPlace := ["internal/bytealg.IndexByteString", "internal/bytealg.CountString", "internal/bytealg.IndexString"], unfollowed := true, recurses := true, named := ["internal/bytealg.MaxLen", "internal/strconv.uint64pow10", "math/bits.deBruijn32tab", "math/bits.deBruijn64tab"], loops := true, apart := false, laid := [("math/bits.deBruijn32tab", laid_math_bits_deBruijn32tab), ("math/bits.deBruijn64tab", laid_math_bits_deBruijn64tab), ("internal/strconv.uint64pow10", laid_internal_strconv_uint64pow10)] }
def PrimsTellSaid : Prop := primsTellRow.holds Tryz.pinned (OpenSpec.ofChange primsTellSpec)

/-- ITS FALSE NEIGHBOUR: 'it returns false'. Refute it at one input. -/
def primsTellWrong : ChangeSpec := { name := "primsTell", fn := fun _ => fun
  | [d1, d2, d3] => { results := [.lit (.bool false)], args := [d1, d2, d3] }
  | _ => none }
def PrimsTellWrongFalsely : Prop := primsTellRow.holds Tryz.pinned (OpenSpec.ofChange primsTellWrong)

/-- 'amanuensislaw12.PrimsSound': WHATEVER THE INPUT: true; the input reads as it did. -/
def primsSoundSpec : ChangeSpec := { name := "primsSound", fn := fun _ => fun
  | [d1, d2] => { results := [.lit (.bool true)], args := [d1, d2] }
  | _ => none }
def primsSoundRow : OpenClaim := { program := "ytcmepjpoffiijaagreatdoor", sum := "4c5870ab2fd10e6380d51005bc32c4bf706f48f0e0790f72c3902691de6d73e9", func := "amanuensis/amanuensislaw12.PrimsSound", spec := "primsSound", inPlace := ["internal/bytealg.IndexByteString", "internal/bytealg.CountString", "internal/bytealg.IndexString"], unfollowed := true, recurses := true, named := ["internal/bytealg.MaxLen", "internal/strconv.uint64pow10", "math/bits.deBruijn32tab", "math/bits.deBruijn64tab"], loops := true, apart := false, laid := [("math/bits.deBruijn32tab", laid_math_bits_deBruijn32tab), ("math/bits.deBruijn64tab", laid_math_bits_deBruijn64tab), ("internal/strconv.uint64pow10", laid_internal_strconv_uint64pow10)] }
def PrimsSoundSaid : Prop := primsSoundRow.holds Tryz.pinned (OpenSpec.ofChange primsSoundSpec)

/-- ITS FALSE NEIGHBOUR: 'it returns false'. Refute it at one input. -/
def primsSoundWrong : ChangeSpec := { name := "primsSound", fn := fun _ => fun
  | [d1, d2] => { results := [.lit (.bool false)], args := [d1, d2] }
  | _ => none }
def PrimsSoundWrongFalsely : Prop := primsSoundRow.holds Tryz.pinned (OpenSpec.ofChange primsSoundWrong)

/-- 'amanuensislaw12.PrimsBarrier': WHATEVER THE INPUT: true; the input reads as it did. -/
def primsBarrierSpec : ChangeSpec := { name := "primsBarrier", fn := fun _ => fun
  | [d1, d2] => { results := [.lit (.bool true)], args := [d1, d2] }
  | _ => none }
def primsBarrierRow : OpenClaim := { program := "ytcmepjpoffiijaagreatdoor", sum := "4c5870ab2fd10e6380d51005bc32c4bf706f48f0e0790f72c3902691de6d73e9", func := "amanuensis/amanuensislaw12.PrimsBarrier", spec := "primsBarrier", inPlace := ["internal/bytealg.IndexByteString", "internal/bytealg.CountString", "internal/bytealg.IndexString"], unfollowed := true, recurses := true, named := ["internal/bytealg.MaxLen", "internal/strconv.uint64pow10", "math/bits.deBruijn32tab", "math/bits.deBruijn64tab"], apart := false, laid := [("math/bits.deBruijn32tab", laid_math_bits_deBruijn32tab), ("math/bits.deBruijn64tab", laid_math_bits_deBruijn64tab), ("internal/strconv.uint64pow10", laid_internal_strconv_uint64pow10)] }
def PrimsBarrierSaid : Prop := primsBarrierRow.holds Tryz.pinned (OpenSpec.ofChange primsBarrierSpec)

/-- ITS FALSE NEIGHBOUR: 'it returns false'. Refute it at one input. -/
def primsBarrierWrong : ChangeSpec := { name := "primsBarrier", fn := fun _ => fun
  | [d1, d2] => { results := [.lit (.bool false)], args := [d1, d2] }
  | _ => none }
def PrimsBarrierWrongFalsely : Prop := primsBarrierRow.holds Tryz.pinned (OpenSpec.ofChange primsBarrierWrong)

/-- 'amanuensislaw12.PrimsMutex': WHATEVER THE INPUT: true; the input reads as it did. -/
def primsMutexSpec : ChangeSpec := { name := "primsMutex", fn := fun _ => fun
  | [d] => { results := [.lit (.bool true)], args := [d] }
  | _ => none }
def primsMutexRow : OpenClaim := { program := "ytcmepjpoffiijaagreatdoor", sum := "4c5870ab2fd10e6380d51005bc32c4bf706f48f0e0790f72c3902691de6d73e9", func := "amanuensis/amanuensislaw12.PrimsMutex", spec := "primsMutex", inPlace := ["internal/bytealg.IndexByteString", "internal/bytealg.CountString", "internal/bytealg.IndexString"], unfollowed := true, recurses := true, named := ["internal/bytealg.MaxLen", "internal/strconv.uint64pow10", "math/bits.deBruijn32tab", "math/bits.deBruijn64tab"], apart := false, laid := [("math/bits.deBruijn32tab", laid_math_bits_deBruijn32tab), ("math/bits.deBruijn64tab", laid_math_bits_deBruijn64tab), ("internal/strconv.uint64pow10", laid_internal_strconv_uint64pow10)] }
def PrimsMutexSaid : Prop := primsMutexRow.holds Tryz.pinned (OpenSpec.ofChange primsMutexSpec)

/-- ITS FALSE NEIGHBOUR: 'it returns false'. Refute it at one input. -/
def primsMutexWrong : ChangeSpec := { name := "primsMutex", fn := fun _ => fun
  | [d] => { results := [.lit (.bool false)], args := [d] }
  | _ => none }
def PrimsMutexWrongFalsely : Prop := primsMutexRow.holds Tryz.pinned (OpenSpec.ofChange primsMutexWrong)

/-- 'amanuensislaw12.PrimsReaders': WHATEVER THE INPUT: true; the input reads as it did. -/
def primsReadersSpec : ChangeSpec := { name := "primsReaders", fn := fun _ => fun
  | [d] => { results := [.lit (.bool true)], args := [d] }
  | _ => none }
def primsReadersRow : OpenClaim := { program := "ytcmepjpoffiijaagreatdoor", sum := "4c5870ab2fd10e6380d51005bc32c4bf706f48f0e0790f72c3902691de6d73e9", func := "amanuensis/amanuensislaw12.PrimsReaders", spec := "primsReaders", inPlace := ["internal/bytealg.IndexByteString", "internal/bytealg.CountString", "internal/bytealg.IndexString"], unfollowed := true, recurses := true, named := ["internal/bytealg.MaxLen", "internal/strconv.uint64pow10", "math/bits.deBruijn32tab", "math/bits.deBruijn64tab"], apart := false, laid := [("math/bits.deBruijn32tab", laid_math_bits_deBruijn32tab), ("math/bits.deBruijn64tab", laid_math_bits_deBruijn64tab), ("internal/strconv.uint64pow10", laid_internal_strconv_uint64pow10)] }
def PrimsReadersSaid : Prop := primsReadersRow.holds Tryz.pinned (OpenSpec.ofChange primsReadersSpec)

/-- ITS FALSE NEIGHBOUR: 'it returns false'. Refute it at one input. -/
def primsReadersWrong : ChangeSpec := { name := "primsReaders", fn := fun _ => fun
  | [d] => { results := [.lit (.bool false)], args := [d] }
  | _ => none }
def PrimsReadersWrongFalsely : Prop := primsReadersRow.holds Tryz.pinned (OpenSpec.ofChange primsReadersWrong)

/-- 'amanuensislaw12.PrimsSemaphore': WHATEVER THE INPUT: true; the input reads as it did. -/
def primsSemaphoreSpec : ChangeSpec := { name := "primsSemaphore", fn := fun _ => fun
  | [d1, d2] => { results := [.lit (.bool true)], args := [d1, d2] }
  | _ => none }
def primsSemaphoreRow : OpenClaim := { program := "ytcmepjpoffiijaagreatdoor", sum := "4c5870ab2fd10e6380d51005bc32c4bf706f48f0e0790f72c3902691de6d73e9", func := "amanuensis/amanuensislaw12.PrimsSemaphore", spec := "primsSemaphore", inPlace := ["internal/bytealg.IndexByteString", "internal/bytealg.CountString", "internal/bytealg.IndexString"], unfollowed := true, recurses := true, named := ["internal/bytealg.MaxLen", "internal/strconv.uint64pow10", "math/bits.deBruijn32tab", "math/bits.deBruijn64tab"], apart := false, laid := [("math/bits.deBruijn32tab", laid_math_bits_deBruijn32tab), ("math/bits.deBruijn64tab", laid_math_bits_deBruijn64tab), ("internal/strconv.uint64pow10", laid_internal_strconv_uint64pow10)] }
def PrimsSemaphoreSaid : Prop := primsSemaphoreRow.holds Tryz.pinned (OpenSpec.ofChange primsSemaphoreSpec)

/-- ITS FALSE NEIGHBOUR: 'it returns false'. Refute it at one input. -/
def primsSemaphoreWrong : ChangeSpec := { name := "primsSemaphore", fn := fun _ => fun
  | [d1, d2] => { results := [.lit (.bool false)], args := [d1, d2] }
  | _ => none }
def PrimsSemaphoreWrongFalsely : Prop := primsSemaphoreRow.holds Tryz.pinned (OpenSpec.ofChange primsSemaphoreWrong)

/-- 'amanuensislaw12.PrimsQueue': WHATEVER THE INPUT: true; the input reads as it did. -/
def primsQueueSpec : ChangeSpec := { name := "primsQueue", fn := fun _ => fun
  | [d1, d2] => { results := [.lit (.bool true)], args := [d1, d2] }
  | _ => none }
def primsQueueRow : OpenClaim := { program := "ytcmepjpoffiijaagreatdoor", sum := "4c5870ab2fd10e6380d51005bc32c4bf706f48f0e0790f72c3902691de6d73e9", func := "amanuensis/amanuensislaw12.PrimsQueue", spec := "primsQueue", inPlace := ["internal/bytealg.IndexByteString", "internal/bytealg.CountString", "internal/bytealg.IndexString"], unfollowed := true, recurses := true, named := ["internal/bytealg.MaxLen", "internal/strconv.uint64pow10", "math/bits.deBruijn32tab", "math/bits.deBruijn64tab"], apart := false, laid := [("math/bits.deBruijn32tab", laid_math_bits_deBruijn32tab), ("math/bits.deBruijn64tab", laid_math_bits_deBruijn64tab), ("internal/strconv.uint64pow10", laid_internal_strconv_uint64pow10)] }
def PrimsQueueSaid : Prop := primsQueueRow.holds Tryz.pinned (OpenSpec.ofChange primsQueueSpec)

/-- ITS FALSE NEIGHBOUR: 'it returns false'. Refute it at one input. -/
def primsQueueWrong : ChangeSpec := { name := "primsQueue", fn := fun _ => fun
  | [d1, d2] => { results := [.lit (.bool false)], args := [d1, d2] }
  | _ => none }
def PrimsQueueWrongFalsely : Prop := primsQueueRow.holds Tryz.pinned (OpenSpec.ofChange primsQueueWrong)

/-- 'amanuensislaw12.PrimsOnce': WHATEVER THE INPUT: true; the input reads as it did. -/
def primsOnceSpec : ChangeSpec := { name := "primsOnce", fn := fun _ => fun
  | [d] => { results := [.lit (.bool true)], args := [d] }
  | _ => none }
def primsOnceRow : OpenClaim := { program := "ytcmepjpoffiijaagreatdoor", sum := "4c5870ab2fd10e6380d51005bc32c4bf706f48f0e0790f72c3902691de6d73e9", func := "amanuensis/amanuensislaw12.PrimsOnce", spec := "primsOnce", inPlace := ["internal/bytealg.IndexByteString", "internal/bytealg.CountString", "internal/bytealg.IndexString"], unfollowed := true, recurses := true, named := ["internal/bytealg.MaxLen", "internal/strconv.uint64pow10", "math/bits.deBruijn32tab", "math/bits.deBruijn64tab"], apart := false, laid := [("math/bits.deBruijn32tab", laid_math_bits_deBruijn32tab), ("math/bits.deBruijn64tab", laid_math_bits_deBruijn64tab), ("internal/strconv.uint64pow10", laid_internal_strconv_uint64pow10)] }
def PrimsOnceSaid : Prop := primsOnceRow.holds Tryz.pinned (OpenSpec.ofChange primsOnceSpec)

/-- ITS FALSE NEIGHBOUR: 'it returns false'. Refute it at one input. -/
def primsOnceWrong : ChangeSpec := { name := "primsOnce", fn := fun _ => fun
  | [d] => { results := [.lit (.bool false)], args := [d] }
  | _ => none }
def PrimsOnceWrongFalsely : Prop := primsOnceRow.holds Tryz.pinned (OpenSpec.ofChange primsOnceWrong)

/-- 'amanuensislaw12.PrimsGroup': WHATEVER THE INPUT: true; the input reads as it did. -/
def primsGroupSpec : ChangeSpec := { name := "primsGroup", fn := fun _ => fun
  | [d] => { results := [.lit (.bool true)], args := [d] }
  | _ => none }
def primsGroupRow : OpenClaim := { program := "ytcmepjpoffiijaagreatdoor", sum := "4c5870ab2fd10e6380d51005bc32c4bf706f48f0e0790f72c3902691de6d73e9", func := "amanuensis/amanuensislaw12.PrimsGroup", spec := "primsGroup", inPlace := ["internal/bytealg.IndexByteString", "internal/bytealg.CountString", "internal/bytealg.IndexString"], unfollowed := true, recurses := true, named := ["internal/bytealg.MaxLen", "internal/strconv.uint64pow10", "math/bits.deBruijn32tab", "math/bits.deBruijn64tab"], apart := false, laid := [("math/bits.deBruijn32tab", laid_math_bits_deBruijn32tab), ("math/bits.deBruijn64tab", laid_math_bits_deBruijn64tab), ("internal/strconv.uint64pow10", laid_internal_strconv_uint64pow10)] }
def PrimsGroupSaid : Prop := primsGroupRow.holds Tryz.pinned (OpenSpec.ofChange primsGroupSpec)

/-- ITS FALSE NEIGHBOUR: 'it returns false'. Refute it at one input. -/
def primsGroupWrong : ChangeSpec := { name := "primsGroup", fn := fun _ => fun
  | [d] => { results := [.lit (.bool false)], args := [d] }
  | _ => none }
def PrimsGroupWrongFalsely : Prop := primsGroupRow.holds Tryz.pinned (OpenSpec.ofChange primsGroupWrong)

/-- 'amanuensislaw12.PrimsCondition': WHATEVER THE INPUT: true; the input reads as it did. -/
def primsConditionSpec : ChangeSpec := { name := "primsCondition", fn := fun _ => fun
  | [d] => { results := [.lit (.bool true)], args := [d] }
  | _ => none }
def primsConditionRow : OpenClaim := { program := "ytcmepjpoffiijaagreatdoor", sum := "4c5870ab2fd10e6380d51005bc32c4bf706f48f0e0790f72c3902691de6d73e9", func := "amanuensis/amanuensislaw12.PrimsCondition", spec := "primsCondition", inPlace := ["internal/bytealg.IndexByteString", "internal/bytealg.CountString", "internal/bytealg.IndexString"], unfollowed := true, recurses := true, named := ["internal/bytealg.MaxLen", "internal/strconv.uint64pow10", "math/bits.deBruijn32tab", "math/bits.deBruijn64tab"], apart := false, laid := [("math/bits.deBruijn32tab", laid_math_bits_deBruijn32tab), ("math/bits.deBruijn64tab", laid_math_bits_deBruijn64tab), ("internal/strconv.uint64pow10", laid_internal_strconv_uint64pow10)] }
def PrimsConditionSaid : Prop := primsConditionRow.holds Tryz.pinned (OpenSpec.ofChange primsConditionSpec)

/-- ITS FALSE NEIGHBOUR: 'it returns false'. Refute it at one input. -/
def primsConditionWrong : ChangeSpec := { name := "primsCondition", fn := fun _ => fun
  | [d] => { results := [.lit (.bool false)], args := [d] }
  | _ => none }
def PrimsConditionWrongFalsely : Prop := primsConditionRow.holds Tryz.pinned (OpenSpec.ofChange primsConditionWrong)

/-- 'amanuensislaw12.PrimsApart': WHATEVER THE INPUT: true; the input reads as it did. -/
def primsApartSpec : ChangeSpec := { name := "primsApart", fn := fun _ => fun
  | [d1, d2] => { results := [.lit (.bool true)], args := [d1, d2] }
  | _ => none }
def primsApartRow : OpenClaim := { program := "ytcmepjpoffiijaagreatdoor", sum := "4c5870ab2fd10e6380d51005bc32c4bf706f48f0e0790f72c3902691de6d73e9", func := "amanuensis/amanuensislaw12.PrimsApart", spec := "primsApart", inPlace := ["internal/bytealg.IndexByteString", "internal/bytealg.CountString", "internal/bytealg.IndexString"], unfollowed := true, recurses := true, named := ["internal/bytealg.MaxLen", "internal/strconv.uint64pow10", "math/bits.deBruijn32tab", "math/bits.deBruijn64tab"], loops := true, apart := false, laid := [("math/bits.deBruijn32tab", laid_math_bits_deBruijn32tab), ("math/bits.deBruijn64tab", laid_math_bits_deBruijn64tab), ("internal/strconv.uint64pow10", laid_internal_strconv_uint64pow10)] }
def PrimsApartSaid : Prop := primsApartRow.holds Tryz.pinned (OpenSpec.ofChange primsApartSpec)

/-- ITS FALSE NEIGHBOUR: 'it returns false'. Refute it at one input. -/
def primsApartWrong : ChangeSpec := { name := "primsApart", fn := fun _ => fun
  | [d1, d2] => { results := [.lit (.bool false)], args := [d1, d2] }
  | _ => none }
def PrimsApartWrongFalsely : Prop := primsApartRow.holds Tryz.pinned (OpenSpec.ofChange primsApartWrong)

/- THE SECOND FORM. 'bulk': how many values and letters a reading holds, each counted each time it is reached (what is shared counts as often as it is met; a slice's spare places count too). A statement '..UptoSaid' is the law's where the arguments, and the package variables that the reading takes, are together of bulk at most 1048576: NARROWER than '..Said'. Prove '..Said' where nothing that the law and all that it calls make is longer than what came in: it says more and counts as full. Else prove '..UptoSaid'. A law counts once. -/
mutual
def uptoBulk {H : Type} : DataW H → Nat
  | .lit (.string bytes) => bytes.length + 1
  | .lit _ => 1
  | .nil => 1
  | .ptr d => uptoBulk d + 1
  | .slice elems spare => uptoBulkAll elems + uptoBulkAll spare + 1
  | .agg parts => uptoBulkAll parts + 1
  | .iface _ d => uptoBulk d + 1
  | .map entries => uptoBulkEntries entries + 1
  | .held _ => 1
def uptoBulkAll {H : Type} : List (DataW H) → Nat
  | [] => 0
  | d :: r => uptoBulk d + uptoBulkAll r
def uptoBulkEntries {H : Type} : List (Lit × DataW H) → Nat
  | [] => 0
  | x :: r => uptoBulkEntry x + uptoBulkEntries r
def uptoBulkEntry {H : Type} : Lit × DataW H → Nat
  | (.string bytes, d) => bytes.length + uptoBulk d + 1
  | (_, d) => uptoBulk d + 1
 end
def uptoSmall : (H : Type) → List (DataW H) → Bool := fun _ ds => decide (uptoBulkAll ds ≤ 1048576)
def OpenSpec.upto (s : _root_.Go.ChangeSpec) : _root_.Go.OpenSpec := { _root_.Go.OpenSpec.ofChange s with cond := some uptoSmall }

/-- 'amanuensislaw12.PrimsTell', WHERE WHAT IT READS IS OF BULK AT MOST 1048576: true; the input reads as it did. -/
def primsTellUptoRow : OpenClaim := { program := "ytcmepjpoffiijaagreatdoor", sum := "4c5870ab2fd10e6380d51005bc32c4bf706f48f0e0790f72c3902691de6d73e9", func := "amanuensis/amanuensislaw12.PrimsTell", spec := "primsTell", inPlace := ["internal/bytealg.IndexByteString", "internal/bytealg.CountString", "internal/bytealg.IndexString"], unfollowed := true, recurses := true, named := ["internal/bytealg.MaxLen", "internal/strconv.uint64pow10", "math/bits.deBruijn32tab", "math/bits.deBruijn64tab"], loops := true, apart := false, laid := [("math/bits.deBruijn32tab", laid_math_bits_deBruijn32tab), ("math/bits.deBruijn64tab", laid_math_bits_deBruijn64tab), ("internal/strconv.uint64pow10", laid_internal_strconv_uint64pow10)], narrowed := true }
def PrimsTellUptoSaid : Prop := primsTellUptoRow.holds Tryz.pinned (OpenSpec.upto primsTellSpec)

/-- 'amanuensislaw12.PrimsSound', WHERE WHAT IT READS IS OF BULK AT MOST 1048576: true; the input reads as it did. -/
def primsSoundUptoRow : OpenClaim := { program := "ytcmepjpoffiijaagreatdoor", sum := "4c5870ab2fd10e6380d51005bc32c4bf706f48f0e0790f72c3902691de6d73e9", func := "amanuensis/amanuensislaw12.PrimsSound", spec := "primsSound", inPlace := ["internal/bytealg.IndexByteString", "internal/bytealg.CountString", "internal/bytealg.IndexString"], unfollowed := true, recurses := true, named := ["internal/bytealg.MaxLen", "internal/strconv.uint64pow10", "math/bits.deBruijn32tab", "math/bits.deBruijn64tab"], loops := true, apart := false, laid := [("math/bits.deBruijn32tab", laid_math_bits_deBruijn32tab), ("math/bits.deBruijn64tab", laid_math_bits_deBruijn64tab), ("internal/strconv.uint64pow10", laid_internal_strconv_uint64pow10)], narrowed := true }
def PrimsSoundUptoSaid : Prop := primsSoundUptoRow.holds Tryz.pinned (OpenSpec.upto primsSoundSpec)

/-- 'amanuensislaw12.PrimsBarrier', WHERE WHAT IT READS IS OF BULK AT MOST 1048576: true; the input reads as it did. -/
def primsBarrierUptoRow : OpenClaim := { program := "ytcmepjpoffiijaagreatdoor", sum := "4c5870ab2fd10e6380d51005bc32c4bf706f48f0e0790f72c3902691de6d73e9", func := "amanuensis/amanuensislaw12.PrimsBarrier", spec := "primsBarrier", inPlace := ["internal/bytealg.IndexByteString", "internal/bytealg.CountString", "internal/bytealg.IndexString"], unfollowed := true, recurses := true, named := ["internal/bytealg.MaxLen", "internal/strconv.uint64pow10", "math/bits.deBruijn32tab", "math/bits.deBruijn64tab"], apart := false, laid := [("math/bits.deBruijn32tab", laid_math_bits_deBruijn32tab), ("math/bits.deBruijn64tab", laid_math_bits_deBruijn64tab), ("internal/strconv.uint64pow10", laid_internal_strconv_uint64pow10)], narrowed := true }
def PrimsBarrierUptoSaid : Prop := primsBarrierUptoRow.holds Tryz.pinned (OpenSpec.upto primsBarrierSpec)

/-- 'amanuensislaw12.PrimsMutex', WHERE WHAT IT READS IS OF BULK AT MOST 1048576: true; the input reads as it did. -/
def primsMutexUptoRow : OpenClaim := { program := "ytcmepjpoffiijaagreatdoor", sum := "4c5870ab2fd10e6380d51005bc32c4bf706f48f0e0790f72c3902691de6d73e9", func := "amanuensis/amanuensislaw12.PrimsMutex", spec := "primsMutex", inPlace := ["internal/bytealg.IndexByteString", "internal/bytealg.CountString", "internal/bytealg.IndexString"], unfollowed := true, recurses := true, named := ["internal/bytealg.MaxLen", "internal/strconv.uint64pow10", "math/bits.deBruijn32tab", "math/bits.deBruijn64tab"], apart := false, laid := [("math/bits.deBruijn32tab", laid_math_bits_deBruijn32tab), ("math/bits.deBruijn64tab", laid_math_bits_deBruijn64tab), ("internal/strconv.uint64pow10", laid_internal_strconv_uint64pow10)], narrowed := true }
def PrimsMutexUptoSaid : Prop := primsMutexUptoRow.holds Tryz.pinned (OpenSpec.upto primsMutexSpec)

/-- 'amanuensislaw12.PrimsReaders', WHERE WHAT IT READS IS OF BULK AT MOST 1048576: true; the input reads as it did. -/
def primsReadersUptoRow : OpenClaim := { program := "ytcmepjpoffiijaagreatdoor", sum := "4c5870ab2fd10e6380d51005bc32c4bf706f48f0e0790f72c3902691de6d73e9", func := "amanuensis/amanuensislaw12.PrimsReaders", spec := "primsReaders", inPlace := ["internal/bytealg.IndexByteString", "internal/bytealg.CountString", "internal/bytealg.IndexString"], unfollowed := true, recurses := true, named := ["internal/bytealg.MaxLen", "internal/strconv.uint64pow10", "math/bits.deBruijn32tab", "math/bits.deBruijn64tab"], apart := false, laid := [("math/bits.deBruijn32tab", laid_math_bits_deBruijn32tab), ("math/bits.deBruijn64tab", laid_math_bits_deBruijn64tab), ("internal/strconv.uint64pow10", laid_internal_strconv_uint64pow10)], narrowed := true }
def PrimsReadersUptoSaid : Prop := primsReadersUptoRow.holds Tryz.pinned (OpenSpec.upto primsReadersSpec)

/-- 'amanuensislaw12.PrimsSemaphore', WHERE WHAT IT READS IS OF BULK AT MOST 1048576: true; the input reads as it did. -/
def primsSemaphoreUptoRow : OpenClaim := { program := "ytcmepjpoffiijaagreatdoor", sum := "4c5870ab2fd10e6380d51005bc32c4bf706f48f0e0790f72c3902691de6d73e9", func := "amanuensis/amanuensislaw12.PrimsSemaphore", spec := "primsSemaphore", inPlace := ["internal/bytealg.IndexByteString", "internal/bytealg.CountString", "internal/bytealg.IndexString"], unfollowed := true, recurses := true, named := ["internal/bytealg.MaxLen", "internal/strconv.uint64pow10", "math/bits.deBruijn32tab", "math/bits.deBruijn64tab"], apart := false, laid := [("math/bits.deBruijn32tab", laid_math_bits_deBruijn32tab), ("math/bits.deBruijn64tab", laid_math_bits_deBruijn64tab), ("internal/strconv.uint64pow10", laid_internal_strconv_uint64pow10)], narrowed := true }
def PrimsSemaphoreUptoSaid : Prop := primsSemaphoreUptoRow.holds Tryz.pinned (OpenSpec.upto primsSemaphoreSpec)

/-- 'amanuensislaw12.PrimsQueue', WHERE WHAT IT READS IS OF BULK AT MOST 1048576: true; the input reads as it did. -/
def primsQueueUptoRow : OpenClaim := { program := "ytcmepjpoffiijaagreatdoor", sum := "4c5870ab2fd10e6380d51005bc32c4bf706f48f0e0790f72c3902691de6d73e9", func := "amanuensis/amanuensislaw12.PrimsQueue", spec := "primsQueue", inPlace := ["internal/bytealg.IndexByteString", "internal/bytealg.CountString", "internal/bytealg.IndexString"], unfollowed := true, recurses := true, named := ["internal/bytealg.MaxLen", "internal/strconv.uint64pow10", "math/bits.deBruijn32tab", "math/bits.deBruijn64tab"], apart := false, laid := [("math/bits.deBruijn32tab", laid_math_bits_deBruijn32tab), ("math/bits.deBruijn64tab", laid_math_bits_deBruijn64tab), ("internal/strconv.uint64pow10", laid_internal_strconv_uint64pow10)], narrowed := true }
def PrimsQueueUptoSaid : Prop := primsQueueUptoRow.holds Tryz.pinned (OpenSpec.upto primsQueueSpec)

/-- 'amanuensislaw12.PrimsOnce', WHERE WHAT IT READS IS OF BULK AT MOST 1048576: true; the input reads as it did. -/
def primsOnceUptoRow : OpenClaim := { program := "ytcmepjpoffiijaagreatdoor", sum := "4c5870ab2fd10e6380d51005bc32c4bf706f48f0e0790f72c3902691de6d73e9", func := "amanuensis/amanuensislaw12.PrimsOnce", spec := "primsOnce", inPlace := ["internal/bytealg.IndexByteString", "internal/bytealg.CountString", "internal/bytealg.IndexString"], unfollowed := true, recurses := true, named := ["internal/bytealg.MaxLen", "internal/strconv.uint64pow10", "math/bits.deBruijn32tab", "math/bits.deBruijn64tab"], apart := false, laid := [("math/bits.deBruijn32tab", laid_math_bits_deBruijn32tab), ("math/bits.deBruijn64tab", laid_math_bits_deBruijn64tab), ("internal/strconv.uint64pow10", laid_internal_strconv_uint64pow10)], narrowed := true }
def PrimsOnceUptoSaid : Prop := primsOnceUptoRow.holds Tryz.pinned (OpenSpec.upto primsOnceSpec)

/-- 'amanuensislaw12.PrimsGroup', WHERE WHAT IT READS IS OF BULK AT MOST 1048576: true; the input reads as it did. -/
def primsGroupUptoRow : OpenClaim := { program := "ytcmepjpoffiijaagreatdoor", sum := "4c5870ab2fd10e6380d51005bc32c4bf706f48f0e0790f72c3902691de6d73e9", func := "amanuensis/amanuensislaw12.PrimsGroup", spec := "primsGroup", inPlace := ["internal/bytealg.IndexByteString", "internal/bytealg.CountString", "internal/bytealg.IndexString"], unfollowed := true, recurses := true, named := ["internal/bytealg.MaxLen", "internal/strconv.uint64pow10", "math/bits.deBruijn32tab", "math/bits.deBruijn64tab"], apart := false, laid := [("math/bits.deBruijn32tab", laid_math_bits_deBruijn32tab), ("math/bits.deBruijn64tab", laid_math_bits_deBruijn64tab), ("internal/strconv.uint64pow10", laid_internal_strconv_uint64pow10)], narrowed := true }
def PrimsGroupUptoSaid : Prop := primsGroupUptoRow.holds Tryz.pinned (OpenSpec.upto primsGroupSpec)

/-- 'amanuensislaw12.PrimsCondition', WHERE WHAT IT READS IS OF BULK AT MOST 1048576: true; the input reads as it did. -/
def primsConditionUptoRow : OpenClaim := { program := "ytcmepjpoffiijaagreatdoor", sum := "4c5870ab2fd10e6380d51005bc32c4bf706f48f0e0790f72c3902691de6d73e9", func := "amanuensis/amanuensislaw12.PrimsCondition", spec := "primsCondition", inPlace := ["internal/bytealg.IndexByteString", "internal/bytealg.CountString", "internal/bytealg.IndexString"], unfollowed := true, recurses := true, named := ["internal/bytealg.MaxLen", "internal/strconv.uint64pow10", "math/bits.deBruijn32tab", "math/bits.deBruijn64tab"], apart := false, laid := [("math/bits.deBruijn32tab", laid_math_bits_deBruijn32tab), ("math/bits.deBruijn64tab", laid_math_bits_deBruijn64tab), ("internal/strconv.uint64pow10", laid_internal_strconv_uint64pow10)], narrowed := true }
def PrimsConditionUptoSaid : Prop := primsConditionUptoRow.holds Tryz.pinned (OpenSpec.upto primsConditionSpec)

/-- 'amanuensislaw12.PrimsApart', WHERE WHAT IT READS IS OF BULK AT MOST 1048576: true; the input reads as it did. -/
def primsApartUptoRow : OpenClaim := { program := "ytcmepjpoffiijaagreatdoor", sum := "4c5870ab2fd10e6380d51005bc32c4bf706f48f0e0790f72c3902691de6d73e9", func := "amanuensis/amanuensislaw12.PrimsApart", spec := "primsApart", inPlace := ["internal/bytealg.IndexByteString", "internal/bytealg.CountString", "internal/bytealg.IndexString"], unfollowed := true, recurses := true, named := ["internal/bytealg.MaxLen", "internal/strconv.uint64pow10", "math/bits.deBruijn32tab", "math/bits.deBruijn64tab"], loops := true, apart := false, laid := [("math/bits.deBruijn32tab", laid_math_bits_deBruijn32tab), ("math/bits.deBruijn64tab", laid_math_bits_deBruijn64tab), ("internal/strconv.uint64pow10", laid_internal_strconv_uint64pow10)], narrowed := true }
def PrimsApartUptoSaid : Prop := primsApartUptoRow.holds Tryz.pinned (OpenSpec.upto primsApartSpec)

end Rows
end Go.Proofs.YtcmepjpoffiijaaGreatDoor
