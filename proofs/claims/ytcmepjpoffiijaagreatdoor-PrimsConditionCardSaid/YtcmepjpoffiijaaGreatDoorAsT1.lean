import Derived.Test.YtcmepjpoffiijaaGreatDoorAsDraw9
import Derived.Test.YtcmepjpoffiijaaGreatDoorAsSeat
import Derived.KernelRfl
import Derived.Test.YtcmepjpoffiijaaGreatDoorProg
/-
  AS: the tables of the program, laid by program.
-/
namespace Go.As.Try
open Go hiding Stat
open Go.As Go.Proofs
set_option maxRecDepth 100000
def tab : Tr TI := (.node none
 (.node (some ⟨.func, 1, 8, [.nilf], false⟩)
 (.node (some ⟨.int .i64, 1, 8, [.int .i64 (.lit (0))], false⟩)
 (.node (some ⟨.struct [(0, 2, 1), (1, 3, 1), (2, 4, 1), (3, 6, 1)], 4, 24, [.int .i64 (.lit (0)), .int .i64 (.lit (0)), .bool (.lit false), .int .u8 (.lit (0))], true⟩)
 (.node (some ⟨.pointer 249, 1, 8, [.nilp], false⟩)
 (.node (some ⟨.func, 1, 8, [.nilf], false⟩)
 (.node (some ⟨.slice 36, 1, 24, [.nils], false⟩)
 (.node (some ⟨.array 27 73, 27, 27, (repeatL [.int .u8 (.lit (0))] 27), false⟩)
 (.node (some ⟨.func, 1, 8, [.nilf], false⟩)
 .nil .nil) .nil) (.node (some ⟨.map 9 73, 1, 8, [.nilm], false⟩)
 .nil .nil)) (.node (some ⟨.struct [(0, 3, 1), (1, 94, 1), (2, 2, 1), (3, 26, 1), (4, 43, 4)], 8, 80, [.int .i64 (.lit (0)), .nilp, .int .i64 (.lit (0)), .nils, .int .u8 (.lit (0)), .int .i64 (.lit (0)), .int .i64 (.lit (0)), .int .i64 (.lit (0))], false⟩)
 (.node (some ⟨.pointer 161, 1, 8, [.nilp], false⟩)
 .nil .nil) (.node (some ⟨.func, 1, 8, [.nilf], false⟩)
 .nil .nil))) (.node (some ⟨.map 3 48, 1, 8, [.nilm], false⟩)
 (.node (some ⟨.struct [(0, 9, 1), (1, 76, 1), (2, 77, 1)], 3, 64, [.str [], .nils, .nils], false⟩)
 (.node (some ⟨.array 9 9, 9, 144, [.str [], .str [], .str [], .str [], .str [], .str [], .str [], .str [], .str []], false⟩)
 .nil .nil) (.node (some ⟨.func, 1, 8, [.nilf], false⟩)
 .nil .nil)) (.node (some ⟨.func, 1, 8, [.nilf], false⟩)
 .nil (.node (some ⟨.array 20 230, 20, 160, (repeatL [.int .u64 (.lit (0))] 20), false⟩)
 .nil .nil)))) (.node (some ⟨.slice 79, 1, 24, [.nils], false⟩)
 (.node (some ⟨.int .u8, 1, 1, [.int .u8 (.lit (0))], false⟩)
 (.node (some ⟨.func, 1, 8, [.nilf], false⟩)
 (.node (some ⟨.func, 1, 8, [.nilf], false⟩)
 .nil .nil) (.node (some ⟨.func, 1, 8, [.nilf], false⟩)
 .nil .nil)) (.node none
 (.node (some ⟨.struct [(0, 3, 1), (1, 3, 1)], 2, 16, [.int .i64 (.lit (0)), .int .i64 (.lit (0))], true⟩)
 .nil .nil) (.node (some ⟨.func, 1, 8, [.nilf], false⟩)
 .nil .nil))) (.node (some ⟨.map 3 3, 1, 8, [.nilm], false⟩)
 (.node (some ⟨.func, 1, 8, [.nilf], false⟩)
 (.node (some ⟨.func, 1, 8, [.nilf], false⟩)
 .nil .nil) (.node (some ⟨.func, 1, 8, [.nilf], false⟩)
 .nil .nil)) (.node (some ⟨.slice 73, 1, 24, [.nils], false⟩)
 (.node (some ⟨.func, 1, 8, [.nilf], false⟩)
 .nil .nil) (.node (some ⟨.array 64 5, 64, 64, (repeatL [.int .u8 (.lit (0))] 64), false⟩)
 .nil .nil))))) (.node (some ⟨.string, 1, 16, [.str []], false⟩)
 (.node (some ⟨.struct [(0, 17, 1)], 1, 8, [.nilp], false⟩)
 (.node (some ⟨.func, 1, 8, [.nilf], false⟩)
 (.node (some ⟨.func, 1, 8, [.nilf], false⟩)
 (.node (some ⟨.func, 1, 8, [.nilf], false⟩)
 (.node (some ⟨.struct [(0, 12, 1), (1, 12, 1), (2, 240, 1), (3, 253, 1), (4, 5, 1), (5, 5, 1), (6, 254, 1), (7, 255, 1), (8, 256, 1), (9, 257, 1), (10, 258, 1)], 11, 48, [.int .u64 (.lit (0)), .int .u64 (.lit (0)), .int .u32 (.lit (0)), .int .u8 (.lit (0)), .int .u8 (.lit (0)), .int .u8 (.lit (0)), .int .u8 (.lit (0)), .nilf, .nilp, .int .i32 (.lit (0)), .int .i32 (.lit (0))], false⟩)
 .nil .nil) .nil) (.node (some ⟨.func, 1, 8, [.nilf], false⟩)
 .nil .nil)) (.node (some ⟨.map 36 97, 1, 8, [.nilm], false⟩)
 (.node (some ⟨.func, 1, 8, [.nilf], false⟩)
 .nil .nil) (.node (some ⟨.func, 1, 8, [.nilf], false⟩)
 .nil .nil))) (.node (some ⟨.struct [(0, 3, 1), (1, 2, 1), (2, 4, 1), (3, 2, 1), (4, 49, 1), (5, 48, 1)], 6, 80, [.int .i64 (.lit (0)), .int .i64 (.lit (0)), .bool (.lit false), .int .i64 (.lit (0)), .nils, .nils], false⟩)
 (.node (some ⟨.struct [(0, 80, 1), (1, 36, 1), (2, 3, 1), (3, 3, 1), (4, 3, 1), (5, 2, 1), (6, 81, 1)], 7, 64, [.int .u8 (.lit (0)), .int .u8 (.lit (0)), .int .i64 (.lit (0)), .int .i64 (.lit (0)), .int .i64 (.lit (0)), .int .i64 (.lit (0)), .nils], false⟩)
 (.node (some ⟨.slice 186, 1, 24, [.nils], false⟩)
 .nil .nil) (.node (some ⟨.func, 1, 8, [.nilf], false⟩)
 .nil .nil)) (.node (some ⟨.func, 1, 8, [.nilf], false⟩)
 (.node (some ⟨.func, 1, 8, [.nilf], false⟩)
 .nil .nil) .nil))) (.node (some ⟨.slice 45, 1, 24, [.nils], false⟩)
 (.node (some ⟨.struct [(0, 36, 1), (1, 3, 1), (2, 2, 1), (3, 2, 1)], 4, 32, [.int .u8 (.lit (0)), .int .i64 (.lit (0)), .int .i64 (.lit (0)), .int .i64 (.lit (0))], true⟩)
 (.node (some ⟨.struct [(0, 73, 1), (1, 9, 1), (2, 2, 1), (3, 9, 1), (4, 3, 1)], 5, 56, [.int .u8 (.lit (0)), .str [], .int .i64 (.lit (0)), .str [], .int .i64 (.lit (0))], true⟩)
 (.node (some ⟨.struct [(0, 137, 1), (1, 9, 1), (2, 2, 1), (3, 3, 1), (4, 3, 1), (5, 3, 1)], 6, 56, [.int .u8 (.lit (0)), .str [], .int .i64 (.lit (0)), .int .i64 (.lit (0)), .int .i64 (.lit (0)), .int .i64 (.lit (0))], true⟩)
 .nil .nil) (.node (some ⟨.func, 1, 8, [.nilf], false⟩)
 .nil .nil)) (.node (some ⟨.struct [(0, 22, 1), (1, 105, 1)], 2, 48, [.nils, .nils], false⟩)
 (.node (some ⟨.func, 1, 8, [.nilf], false⟩)
 .nil .nil) (.node (some ⟨.array 37 9, 37, 592, (repeatL [.str []] 37), false⟩)
 .nil .nil))) (.node (some ⟨.func, 1, 8, [.nilf], false⟩)
 (.node (some ⟨.func, 1, 8, [.nilf], false⟩)
 (.node (some ⟨.struct [(0, 3, 1), (1, 4, 1), (2, 4, 1)], 3, 16, [.int .i64 (.lit (0)), .bool (.lit false), .bool (.lit false)], true⟩)
 .nil .nil) (.node (some ⟨.func, 1, 8, [.nilf], false⟩)
 .nil .nil)) (.node (some ⟨.func, 1, 8, [.nilf], false⟩)
 (.node (some ⟨.func, 1, 8, [.nilf], false⟩)
 .nil .nil) (.node (some ⟨.struct [(0, 250, 0)], 0, 0, [], false⟩)
 .nil .nil)))))) (.node (some ⟨.int .u8, 1, 1, [.int .u8 (.lit (0))], false⟩)
 (.node (some ⟨.string, 1, 16, [.str []], false⟩)
 (.node (some ⟨.pointer 260, 1, 8, [.nilp], false⟩)
 (.node (some ⟨.func, 1, 8, [.nilf], false⟩)
 (.node (some ⟨.func, 1, 8, [.nilf], false⟩)
 (.node (some ⟨.func, 1, 8, [.nilf], false⟩)
 (.node (some ⟨.int .i32, 1, 4, [.int .i32 (.lit (0))], false⟩)
 .nil .nil) .nil) (.node (some ⟨.struct [(0, 191, 1), (1, 158, 1)], 2, 16, [.nilm, .nilm], false⟩)
 .nil .nil)) (.node (some ⟨.func, 1, 8, [.nilf], false⟩)
 (.node (some ⟨.struct [(0, 158, 1), (1, 79, 3), (4, 3, 1)], 5, 80, [.nilm, .str [], .nils, .nils, .int .i64 (.lit (0))], false⟩)
 .nil .nil) (.node (some ⟨.func, 1, 8, [.nilf], false⟩)
 .nil .nil))) (.node (some ⟨.slice 3, 1, 24, [.nils], false⟩)
 (.node (some ⟨.slice 86, 1, 24, [.nils], false⟩)
 (.node (some ⟨.func, 1, 8, [.nilf], false⟩)
 .nil .nil) (.node (some ⟨.func, 1, 8, [.nilf], false⟩)
 .nil .nil)) (.node (some ⟨.func, 1, 8, [.nilf], false⟩)
 (.node (some ⟨.func, 1, 8, [.nilf], false⟩)
 .nil .nil) (.node (some ⟨.array 65 5, 65, 65, (repeatL [.int .u8 (.lit (0))] 65), false⟩)
 .nil .nil)))) (.node (some ⟨.struct [(0, 22, 1), (1, 23, 1)], 2, 48, [.nils, .nils], false⟩)
 (.node (some ⟨.func, 1, 8, [.nilf], false⟩)
 (.node (some ⟨.int .u8, 1, 1, [.int .u8 (.lit (0))], false⟩)
 (.node (some ⟨.int .u8, 1, 1, [.int .u8 (.lit (0))], false⟩)
 .nil .nil) (.node (some ⟨.func, 1, 8, [.nilf], false⟩)
 .nil .nil)) (.node (some ⟨.slice 149, 1, 24, [.nils], false⟩)
 (.node (some ⟨.func, 1, 8, [.nilf], false⟩)
 .nil .nil) .nil)) (.node (some ⟨.slice 62, 1, 24, [.nils], false⟩)
 (.node (some ⟨.int .i64, 1, 8, [.int .i64 (.lit (0))], false⟩)
 (.node (some ⟨.pointer 155, 1, 8, [.nilp], false⟩)
 .nil .nil) (.node (some ⟨.func, 1, 8, [.nilf], false⟩)
 .nil .nil)) (.node (some ⟨.func, 1, 8, [.nilf], false⟩)
 (.node (some ⟨.struct [(0, 184, 1), (1, 36, 1), (2, 9, 1), (3, 9, 1), (4, 2, 1), (5, 81, 1), (6, 147, 1), (7, 147, 1), (8, 3, 1)], 9, 128, [.int .u8 (.lit (0)), .int .u8 (.lit (0)), .str [], .str [], .int .i64 (.lit (0)), .nils, .nils, .nils, .int .i64 (.lit (0))], false⟩)
 .nil .nil) (.node (some ⟨.struct [(0, 17, 1), (1, 17, 1), (2, 17, 1), (3, 9, 1)], 4, 40, [.nilp, .nilp, .nilp, .str []], false⟩)
 .nil .nil))))) (.node (some ⟨.struct [(0, 9, 1), (1, 12, 1)], 2, 24, [.str [], .int .u64 (.lit (0))], false⟩)
 (.node (some ⟨.int .i32, 1, 4, [.int .i32 (.lit (0))], false⟩)
 (.node (some ⟨.struct [(0, 3, 1), (1, 36, 1), (2, 3, 1), (3, 2, 1), (4, 2, 1)], 5, 40, [.int .i64 (.lit (0)), .int .u8 (.lit (0)), .int .i64 (.lit (0)), .int .i64 (.lit (0)), .int .i64 (.lit (0))], true⟩)
 (.node (some ⟨.struct [(0, 25, 2), (2, 26, 1)], 3, 72, [.nils, .nils, .nils], false⟩)
 (.node (some ⟨.func, 1, 8, [.nilf], false⟩)
 .nil .nil) (.node (some ⟨.func, 1, 8, [.nilf], false⟩)
 .nil .nil)) (.node (some ⟨.int .u8, 1, 1, [.int .u8 (.lit (0))], false⟩)
 (.node (some ⟨.func, 1, 8, [.nilf], false⟩)
 .nil .nil) (.node (some ⟨.array 24 5, 24, 24, (repeatL [.int .u8 (.lit (0))] 24), false⟩)
 .nil .nil))) (.node (some ⟨.slice 5, 1, 24, [.nils], false⟩)
 (.node (some ⟨.struct [(0, 84, 1), (1, 9, 1), (2, 2, 1), (3, 81, 1)], 4, 56, [.int .u8 (.lit (0)), .str [], .int .i64 (.lit (0)), .nils], false⟩)
 (.node (some ⟨.struct [(0, 9, 1), (1, 147, 1), (2, 3, 1)], 3, 48, [.str [], .nils, .int .i64 (.lit (0))], false⟩)
 .nil .nil) (.node (some ⟨.pointer 186, 1, 8, [.nilp], false⟩)
 .nil .nil)) (.node (some ⟨.func, 1, 8, [.nilf], false⟩)
 .nil (.node (some ⟨.func, 1, 8, [.nilf], false⟩)
 .nil .nil)))) (.node (some ⟨.func, 1, 8, [.nilf], false⟩)
 (.node (some ⟨.struct [(0, 3, 1), (1, 43, 4)], 5, 40, [.int .i64 (.lit (0)), .int .u8 (.lit (0)), .int .i64 (.lit (0)), .int .i64 (.lit (0)), .int .i64 (.lit (0))], false⟩)
 (.node (some ⟨.slice 83, 1, 24, [.nils], false⟩)
 (.node (some ⟨.struct [(0, 9, 1), (1, 139, 6), (7, 109, 2), (9, 3, 1)], 10, 96, [.str [], .int .u8 (.lit (0)), .str [], .int .i64 (.lit (0)), .int .i64 (.lit (0)), .int .i64 (.lit (0)), .int .i64 (.lit (0)), .int .i64 (.lit (0)), .int .i64 (.lit (0)), .int .i64 (.lit (0))], false⟩)
 .nil .nil) (.node (some ⟨.pointer 202, 1, 8, [.nilp], false⟩)
 .nil .nil)) (.node (some ⟨.struct [(0, 89, 1), (1, 3, 1)], 2, 16, [.int .i64 (.lit (0)), .int .i64 (.lit (0))], true⟩)
 (.node (some ⟨.func, 1, 8, [.nilf], false⟩)
 .nil .nil) (.node (some ⟨.int .u64, 1, 8, [.int .u64 (.lit (0))], false⟩)
 .nil .nil))) (.node (some ⟨.struct [(0, 3, 1), (1, 3, 1), (2, 2, 1)], 3, 24, [.int .i64 (.lit (0)), .int .i64 (.lit (0)), .int .i64 (.lit (0))], true⟩)
 (.node (some ⟨.pointer 96, 1, 8, [.nilp], false⟩)
 (.node (some ⟨.func, 1, 8, [.nilf], false⟩)
 .nil .nil) (.node (some ⟨.array 2 147, 2, 48, [.nils, .nils], false⟩)
 .nil .nil)) (.node (some ⟨.func, 1, 8, [.nilf], false⟩)
 (.node (some ⟨.func, 1, 8, [.nilf], false⟩)
 .nil .nil) (.node (some ⟨.int .u8, 1, 1, [.int .u8 (.lit (0))], false⟩)
 .nil .nil))))))) (.node (some ⟨.int .i64, 1, 8, [.int .i64 (.lit (0))], false⟩)
 (.node (some ⟨.bool, 1, 1, [.bool (.lit false)], false⟩)
 (.node (some ⟨.struct [(0, 2, 1), (1, 3, 1), (2, 4, 1), (3, 6, 1)], 4, 24, [.int .i64 (.lit (0)), .int .i64 (.lit (0)), .bool (.lit false), .int .u8 (.lit (0))], true⟩)
 (.node (some ⟨.pointer 252, 1, 8, [.nilp], false⟩)
 (.node (some ⟨.func, 1, 8, [.nilf], false⟩)
 (.node none
 (.node (some ⟨.func, 1, 8, [.nilf], false⟩)
 (.node (some ⟨.pointer 5, 1, 8, [.nilp], false⟩)
 .nil .nil) .nil) (.node (some ⟨.struct [(0, 191, 1), (1, 158, 1)], 2, 16, [.nilm, .nilm], false⟩)
 .nil .nil)) (.node (some ⟨.struct [(0, 3, 1), (1, 94, 1), (2, 2, 1), (3, 26, 1), (4, 43, 4)], 8, 80, [.int .i64 (.lit (0)), .nilp, .int .i64 (.lit (0)), .nils, .int .u8 (.lit (0)), .int .i64 (.lit (0)), .int .i64 (.lit (0)), .int .i64 (.lit (0))], false⟩)
 (.node (some ⟨.struct [(0, 158, 1), (1, 79, 3), (4, 3, 1)], 5, 80, [.nilm, .str [], .nils, .nils, .int .i64 (.lit (0))], false⟩)
 .nil .nil) (.node (some ⟨.func, 1, 8, [.nilf], false⟩)
 .nil .nil))) (.node (some ⟨.slice 2, 1, 24, [.nils], false⟩)
 (.node (some ⟨.int .u8, 1, 1, [.int .u8 (.lit (0))], false⟩)
 (.node (some ⟨.func, 1, 8, [.nilf], false⟩)
 .nil .nil) (.node (some ⟨.func, 1, 8, [.nilf], false⟩)
 .nil .nil)) (.node none
 (.node (some ⟨.func, 1, 8, [.nilf], false⟩)
 .nil .nil) (.node (some ⟨.int .u32, 1, 4, [.int .u32 (.lit (0))], false⟩)
 .nil .nil)))) (.node (some ⟨.struct [(0, 22, 1), (1, 23, 1)], 2, 48, [.nils, .nils], false⟩)
 (.node none
 (.node (some ⟨.func, 1, 8, [.nilf], false⟩)
 (.node (some ⟨.pointer 141, 1, 8, [.nilp], false⟩)
 .nil .nil) (.node (some ⟨.func, 1, 8, [.nilf], false⟩)
 .nil .nil)) (.node (some ⟨.func, 1, 8, [.nilf], false⟩)
 (.node (some ⟨.struct [(0, 3, 1), (1, 3, 1)], 2, 16, [.int .i64 (.lit (0)), .int .i64 (.lit (0))], true⟩)
 .nil .nil) (.node (some ⟨.func, 1, 8, [.nilf], false⟩)
 .nil .nil))) (.node (some ⟨.func, 1, 8, [.nilf], false⟩)
 (.node (some ⟨.func, 1, 8, [.nilf], false⟩)
 (.node (some ⟨.func, 1, 8, [.nilf], false⟩)
 .nil .nil) (.node (some ⟨.func, 1, 8, [.nilf], false⟩)
 .nil .nil)) (.node (some ⟨.func, 1, 8, [.nilf], false⟩)
 (.node (some ⟨.int .u8, 1, 1, [.int .u8 (.lit (0))], false⟩)
 .nil .nil) (.node (some ⟨.struct [(0, 17, 1), (1, 17, 1), (2, 17, 1), (3, 9, 1)], 4, 40, [.nilp, .nilp, .nilp, .str []], false⟩)
 .nil .nil))))) (.node (some ⟨.int .u64, 1, 8, [.int .u64 (.lit (0))], false⟩)
 (.node (some ⟨.iface true, 1, 16, [.nili], false⟩)
 (.node (some ⟨.int .u8, 1, 1, [.int .u8 (.lit (0))], false⟩)
 (.node (some ⟨.struct [(0, 25, 2), (2, 26, 1)], 3, 72, [.nils, .nils, .nils], false⟩)
 (.node (some ⟨.func, 1, 8, [.nilf], false⟩)
 (.node (some ⟨.struct [(0, 12, 1), (1, 12, 1), (2, 240, 1), (3, 253, 1), (4, 5, 1), (5, 5, 1), (6, 254, 1), (7, 255, 1), (8, 256, 1), (9, 257, 1), (10, 258, 1)], 11, 48, [.int .u64 (.lit (0)), .int .u64 (.lit (0)), .int .u32 (.lit (0)), .int .u8 (.lit (0)), .int .u8 (.lit (0)), .int .u8 (.lit (0)), .int .u8 (.lit (0)), .nilf, .nilp, .int .i32 (.lit (0)), .int .i32 (.lit (0))], false⟩)
 .nil .nil) .nil) (.node (some ⟨.func, 1, 8, [.nilf], false⟩)
 .nil .nil)) (.node (some ⟨.func, 1, 8, [.nilf], false⟩)
 (.node (some ⟨.func, 1, 8, [.nilf], false⟩)
 .nil .nil) (.node (some ⟨.array 2 76, 2, 48, [.nils, .nils], false⟩)
 .nil .nil))) (.node (some ⟨.func, 1, 8, [.nilf], false⟩)
 (.node (some ⟨.int .u8, 1, 1, [.int .u8 (.lit (0))], false⟩)
 (.node (some ⟨.struct [(0, 9, 1), (1, 147, 1), (2, 3, 1)], 3, 48, [.str [], .nils, .int .i64 (.lit (0))], false⟩)
 .nil .nil) (.node (some ⟨.func, 1, 8, [.nilf], false⟩)
 .nil .nil)) (.node (some ⟨.func, 1, 8, [.nilf], false⟩)
 (.node (some ⟨.func, 1, 8, [.nilf], false⟩)
 .nil .nil) (.node (some ⟨.func, 1, 8, [.nilf], false⟩)
 .nil .nil)))) (.node (some ⟨.func, 1, 8, [.nilf], false⟩)
 (.node (some ⟨.struct [(0, 3, 1), (1, 43, 4)], 5, 40, [.int .i64 (.lit (0)), .int .u8 (.lit (0)), .int .i64 (.lit (0)), .int .i64 (.lit (0)), .int .i64 (.lit (0))], false⟩)
 (.node (some ⟨.slice 9, 1, 24, [.nils], false⟩)
 (.node (some ⟨.struct [(0, 9, 1), (1, 139, 6), (7, 109, 2), (9, 3, 1)], 10, 96, [.str [], .int .u8 (.lit (0)), .str [], .int .i64 (.lit (0)), .int .i64 (.lit (0)), .int .i64 (.lit (0)), .int .i64 (.lit (0)), .int .i64 (.lit (0)), .int .i64 (.lit (0)), .int .i64 (.lit (0))], false⟩)
 .nil .nil) (.node (some ⟨.func, 1, 8, [.nilf], false⟩)
 .nil .nil)) (.node (some ⟨.struct [(0, 89, 1), (1, 3, 1)], 2, 16, [.int .i64 (.lit (0)), .int .i64 (.lit (0))], true⟩)
 (.node (some ⟨.func, 1, 8, [.nilf], false⟩)
 .nil .nil) (.node (some ⟨.func, 1, 8, [.nilf], false⟩)
 .nil .nil))) (.node (some ⟨.func, 1, 8, [.nilf], false⟩)
 (.node (some ⟨.func, 1, 8, [.nilf], false⟩)
 (.node (some ⟨.func, 1, 8, [.nilf], false⟩)
 .nil .nil) (.node (some ⟨.func, 1, 8, [.nilf], false⟩)
 .nil .nil)) (.node (some ⟨.func, 1, 8, [.nilf], false⟩)
 (.node (some ⟨.func, 1, 8, [.nilf], false⟩)
 .nil .nil) (.node (some ⟨.struct [(0, 250, 0)], 0, 0, [], false⟩)
 .nil .nil)))))) (.node (some ⟨.int .u8, 1, 1, [.int .u8 (.lit (0))], false⟩)
 (.node (some ⟨.string, 1, 16, [.str []], false⟩)
 (.node (some ⟨.struct [(0, 17, 1)], 1, 8, [.nilp], false⟩)
 (.node (some ⟨.array 2 26, 2, 48, [.nils, .nils], false⟩)
 (.node (some ⟨.func, 1, 8, [.nilf], false⟩)
 (.node (some ⟨.func, 1, 8, [.nilf], false⟩)
 (.node (some ⟨.int .i32, 1, 4, [.int .i32 (.lit (0))], false⟩)
 .nil .nil) .nil) (.node (some ⟨.func, 1, 8, [.nilf], false⟩)
 .nil .nil)) (.node none
 (.node (some ⟨.func, 1, 8, [.nilf], false⟩)
 .nil .nil) (.node (some ⟨.func, 1, 8, [.nilf], false⟩)
 .nil .nil))) (.node (some ⟨.struct [(0, 3, 1), (1, 2, 1), (2, 4, 1), (3, 2, 1), (4, 49, 1), (5, 48, 1)], 6, 80, [.int .i64 (.lit (0)), .int .i64 (.lit (0)), .bool (.lit false), .int .i64 (.lit (0)), .nils, .nils], false⟩)
 (.node (some ⟨.struct [(0, 80, 1), (1, 36, 1), (2, 3, 1), (3, 3, 1), (4, 3, 1), (5, 2, 1), (6, 81, 1)], 7, 64, [.int .u8 (.lit (0)), .int .u8 (.lit (0)), .int .i64 (.lit (0)), .int .i64 (.lit (0)), .int .i64 (.lit (0)), .int .i64 (.lit (0)), .nils], false⟩)
 (.node (some ⟨.func, 1, 8, [.nilf], false⟩)
 .nil .nil) (.node (some ⟨.array 23 9, 23, 368, (repeatL [.str []] 23), false⟩)
 .nil .nil)) (.node (some ⟨.func, 1, 8, [.nilf], false⟩)
 (.node (some ⟨.func, 1, 8, [.nilf], false⟩)
 .nil .nil) (.node (some ⟨.func, 1, 8, [.nilf], false⟩)
 .nil .nil)))) (.node (some ⟨.slice 51, 1, 24, [.nils], false⟩)
 (.node (some ⟨.struct [(0, 36, 1), (1, 3, 1), (2, 2, 1), (3, 2, 1)], 4, 32, [.int .u8 (.lit (0)), .int .i64 (.lit (0)), .int .i64 (.lit (0)), .int .i64 (.lit (0))], true⟩)
 (.node (some ⟨.struct [(0, 73, 1), (1, 9, 1), (2, 2, 1), (3, 9, 1), (4, 3, 1)], 5, 56, [.int .u8 (.lit (0)), .str [], .int .i64 (.lit (0)), .str [], .int .i64 (.lit (0))], true⟩)
 (.node (some ⟨.struct [(0, 137, 1), (1, 9, 1), (2, 2, 1), (3, 3, 1), (4, 3, 1), (5, 3, 1)], 6, 56, [.int .u8 (.lit (0)), .str [], .int .i64 (.lit (0)), .int .i64 (.lit (0)), .int .i64 (.lit (0)), .int .i64 (.lit (0))], true⟩)
 .nil .nil) (.node (some ⟨.array 256 5, 256, 256, (repeatL [.int .u8 (.lit (0))] 256), false⟩)
 .nil .nil)) (.node (some ⟨.struct [(0, 22, 1), (1, 105, 1)], 2, 48, [.nils, .nils], false⟩)
 (.node (some ⟨.func, 1, 8, [.nilf], false⟩)
 .nil .nil) (.node (some ⟨.func, 1, 8, [.nilf], false⟩)
 .nil .nil))) (.node (some ⟨.pointer 69, 1, 8, [.nilp], false⟩)
 (.node (some ⟨.func, 1, 8, [.nilf], false⟩)
 (.node (some ⟨.struct [(0, 3, 1), (1, 4, 1), (2, 4, 1)], 3, 16, [.int .i64 (.lit (0)), .bool (.lit false), .bool (.lit false)], true⟩)
 .nil .nil) .nil) (.node none
 (.node (some ⟨.struct [(0, 184, 1), (1, 36, 1), (2, 9, 1), (3, 9, 1), (4, 2, 1), (5, 81, 1), (6, 147, 1), (7, 147, 1), (8, 3, 1)], 9, 128, [.int .u8 (.lit (0)), .int .u8 (.lit (0)), .str [], .str [], .int .i64 (.lit (0)), .nils, .nils, .nils, .int .i64 (.lit (0))], false⟩)
 .nil .nil) (.node (some ⟨.array 0 16, 0, 0, [], false⟩)
 .nil .nil))))) (.node (some ⟨.struct [(0, 9, 1), (1, 12, 1)], 2, 24, [.str [], .int .u64 (.lit (0))], false⟩)
 (.node (some ⟨.slice 75, 1, 24, [.nils], false⟩)
 (.node (some ⟨.struct [(0, 3, 1), (1, 36, 1), (2, 3, 1), (3, 2, 1), (4, 2, 1)], 5, 40, [.int .i64 (.lit (0)), .int .u8 (.lit (0)), .int .i64 (.lit (0)), .int .i64 (.lit (0)), .int .i64 (.lit (0))], true⟩)
 (.node (some ⟨.func, 1, 8, [.nilf], false⟩)
 (.node (some ⟨.func, 1, 8, [.nilf], false⟩)
 .nil .nil) (.node (some ⟨.func, 1, 8, [.nilf], false⟩)
 .nil .nil)) (.node none
 (.node (some ⟨.pointer 168, 1, 8, [.nilp], false⟩)
 .nil .nil) (.node (some ⟨.int .u64, 1, 8, [.int .u64 (.lit (0))], false⟩)
 .nil .nil))) (.node (some ⟨.func, 1, 8, [.nilf], false⟩)
 (.node (some ⟨.struct [(0, 84, 1), (1, 9, 1), (2, 2, 1), (3, 81, 1)], 4, 56, [.int .u8 (.lit (0)), .str [], .int .i64 (.lit (0)), .nils], false⟩)
 (.node (some ⟨.func, 1, 8, [.nilf], false⟩)
 .nil .nil) (.node (some ⟨.func, 1, 8, [.nilf], false⟩)
 .nil .nil)) (.node (some ⟨.func, 1, 8, [.nilf], false⟩)
 (.node (some ⟨.func, 1, 8, [.nilf], false⟩)
 .nil .nil) (.node (some ⟨.array 32 5, 32, 32, (repeatL [.int .u8 (.lit (0))] 32), false⟩)
 .nil .nil)))) (.node (some ⟨.func, 1, 8, [.nilf], false⟩)
 (.node (some ⟨.func, 1, 8, [.nilf], false⟩)
 (.node (some ⟨.struct [(0, 9, 1), (1, 76, 1), (2, 77, 1)], 3, 64, [.str [], .nils, .nils], false⟩)
 (.node (some ⟨.func, 1, 8, [.nilf], false⟩)
 .nil .nil) (.node (some ⟨.func, 1, 8, [.nilf], false⟩)
 .nil .nil)) (.node none
 (.node (some ⟨.func, 1, 8, [.nilf], false⟩)
 .nil .nil) (.node (some ⟨.func, 1, 8, [.nilf], false⟩)
 .nil .nil))) (.node (some ⟨.struct [(0, 3, 1), (1, 3, 1), (2, 2, 1)], 3, 24, [.int .i64 (.lit (0)), .int .i64 (.lit (0)), .int .i64 (.lit (0))], true⟩)
 (.node (some ⟨.pointer 51, 1, 8, [.nilp], false⟩)
 (.node (some ⟨.map 9 3, 1, 8, [.nilm], false⟩)
 .nil .nil) (.node (some ⟨.func, 1, 8, [.nilf], false⟩)
 .nil .nil)) (.node (some ⟨.func, 1, 8, [.nilf], false⟩)
 (.node (some ⟨.pointer 193, 1, 8, [.nilp], false⟩)
 .nil .nil) (.node (some ⟨.int .u8, 1, 1, [.int .u8 (.lit (0))], false⟩)
 .nil .nil))))))))
noncomputable def ftab : Tr Func := (.node (some Tryz.f0)
 (.node (some Tryz.f1)
 (.node (some Tryz.f3)
 (.node (some Tryz.f7)
 (.node (some Tryz.f15)
 (.node (some Tryz.f31)
 (.node (some Tryz.f63)
 (.node (some Tryz.f127)
 .nil .nil) (.node (some Tryz.f191)
 .nil .nil)) (.node (some Tryz.f95)
 (.node (some Tryz.f159)
 .nil .nil) (.node (some Tryz.f223)
 .nil .nil))) (.node (some Tryz.f47)
 (.node (some Tryz.f79)
 (.node (some Tryz.f143)
 .nil .nil) (.node (some Tryz.f207)
 .nil .nil)) (.node (some Tryz.f111)
 (.node (some Tryz.f175)
 .nil .nil) .nil))) (.node (some Tryz.f23)
 (.node (some Tryz.f39)
 (.node (some Tryz.f71)
 (.node (some Tryz.f135)
 .nil .nil) (.node (some Tryz.f199)
 .nil .nil)) (.node (some Tryz.f103)
 (.node (some Tryz.f167)
 .nil .nil) .nil)) (.node (some Tryz.f55)
 (.node (some Tryz.f87)
 (.node (some Tryz.f151)
 .nil .nil) (.node (some Tryz.f215)
 .nil .nil)) (.node (some Tryz.f119)
 (.node (some Tryz.f183)
 .nil .nil) .nil)))) (.node (some Tryz.f11)
 (.node (some Tryz.f19)
 (.node (some Tryz.f35)
 (.node (some Tryz.f67)
 (.node (some Tryz.f131)
 .nil .nil) (.node (some Tryz.f195)
 .nil .nil)) (.node (some Tryz.f99)
 (.node (some Tryz.f163)
 .nil .nil) .nil)) (.node (some Tryz.f51)
 (.node (some Tryz.f83)
 (.node (some Tryz.f147)
 .nil .nil) (.node (some Tryz.f211)
 .nil .nil)) (.node (some Tryz.f115)
 (.node (some Tryz.f179)
 .nil .nil) .nil))) (.node (some Tryz.f27)
 (.node (some Tryz.f43)
 (.node (some Tryz.f75)
 (.node (some Tryz.f139)
 .nil .nil) (.node (some Tryz.f203)
 .nil .nil)) (.node (some Tryz.f107)
 (.node (some Tryz.f171)
 .nil .nil) .nil)) (.node (some Tryz.f59)
 (.node (some Tryz.f91)
 (.node (some Tryz.f155)
 .nil .nil) (.node (some Tryz.f219)
 .nil .nil)) (.node (some Tryz.f123)
 (.node (some Tryz.f187)
 .nil .nil) .nil))))) (.node (some Tryz.f5)
 (.node (some Tryz.f9)
 (.node (some Tryz.f17)
 (.node (some Tryz.f33)
 (.node (some Tryz.f65)
 (.node (some Tryz.f129)
 .nil .nil) (.node (some Tryz.f193)
 .nil .nil)) (.node (some Tryz.f97)
 (.node (some Tryz.f161)
 .nil .nil) .nil)) (.node (some Tryz.f49)
 (.node (some Tryz.f81)
 (.node (some Tryz.f145)
 .nil .nil) (.node (some Tryz.f209)
 .nil .nil)) (.node (some Tryz.f113)
 (.node (some Tryz.f177)
 .nil .nil) .nil))) (.node (some Tryz.f25)
 (.node (some Tryz.f41)
 (.node (some Tryz.f73)
 (.node (some Tryz.f137)
 .nil .nil) (.node (some Tryz.f201)
 .nil .nil)) (.node (some Tryz.f105)
 (.node (some Tryz.f169)
 .nil .nil) .nil)) (.node (some Tryz.f57)
 (.node (some Tryz.f89)
 (.node (some Tryz.f153)
 .nil .nil) (.node (some Tryz.f217)
 .nil .nil)) (.node (some Tryz.f121)
 (.node (some Tryz.f185)
 .nil .nil) .nil)))) (.node (some Tryz.f13)
 (.node (some Tryz.f21)
 (.node (some Tryz.f37)
 (.node (some Tryz.f69)
 (.node (some Tryz.f133)
 .nil .nil) (.node (some Tryz.f197)
 .nil .nil)) (.node (some Tryz.f101)
 (.node (some Tryz.f165)
 .nil .nil) .nil)) (.node (some Tryz.f53)
 (.node (some Tryz.f85)
 (.node (some Tryz.f149)
 .nil .nil) (.node (some Tryz.f213)
 .nil .nil)) (.node (some Tryz.f117)
 (.node (some Tryz.f181)
 .nil .nil) .nil))) (.node (some Tryz.f29)
 (.node (some Tryz.f45)
 (.node (some Tryz.f77)
 (.node (some Tryz.f141)
 .nil .nil) (.node (some Tryz.f205)
 .nil .nil)) (.node (some Tryz.f109)
 (.node (some Tryz.f173)
 .nil .nil) .nil)) (.node (some Tryz.f61)
 (.node (some Tryz.f93)
 (.node (some Tryz.f157)
 .nil .nil) (.node (some Tryz.f221)
 .nil .nil)) (.node (some Tryz.f125)
 (.node (some Tryz.f189)
 .nil .nil) .nil)))))) (.node (some Tryz.f2)
 (.node (some Tryz.f4)
 (.node (some Tryz.f8)
 (.node (some Tryz.f16)
 (.node (some Tryz.f32)
 (.node (some Tryz.f64)
 (.node (some Tryz.f128)
 .nil .nil) (.node (some Tryz.f192)
 .nil .nil)) (.node (some Tryz.f96)
 (.node (some Tryz.f160)
 .nil .nil) (.node (some Tryz.f224)
 .nil .nil))) (.node (some Tryz.f48)
 (.node (some Tryz.f80)
 (.node (some Tryz.f144)
 .nil .nil) (.node (some Tryz.f208)
 .nil .nil)) (.node (some Tryz.f112)
 (.node (some Tryz.f176)
 .nil .nil) .nil))) (.node (some Tryz.f24)
 (.node (some Tryz.f40)
 (.node (some Tryz.f72)
 (.node (some Tryz.f136)
 .nil .nil) (.node (some Tryz.f200)
 .nil .nil)) (.node (some Tryz.f104)
 (.node (some Tryz.f168)
 .nil .nil) .nil)) (.node (some Tryz.f56)
 (.node (some Tryz.f88)
 (.node (some Tryz.f152)
 .nil .nil) (.node (some Tryz.f216)
 .nil .nil)) (.node (some Tryz.f120)
 (.node (some Tryz.f184)
 .nil .nil) .nil)))) (.node (some Tryz.f12)
 (.node (some Tryz.f20)
 (.node (some Tryz.f36)
 (.node (some Tryz.f68)
 (.node (some Tryz.f132)
 .nil .nil) (.node (some Tryz.f196)
 .nil .nil)) (.node (some Tryz.f100)
 (.node (some Tryz.f164)
 .nil .nil) .nil)) (.node (some Tryz.f52)
 (.node (some Tryz.f84)
 (.node (some Tryz.f148)
 .nil .nil) (.node (some Tryz.f212)
 .nil .nil)) (.node (some Tryz.f116)
 (.node (some Tryz.f180)
 .nil .nil) .nil))) (.node (some Tryz.f28)
 (.node (some Tryz.f44)
 (.node (some Tryz.f76)
 (.node (some Tryz.f140)
 .nil .nil) (.node (some Tryz.f204)
 .nil .nil)) (.node (some Tryz.f108)
 (.node (some Tryz.f172)
 .nil .nil) .nil)) (.node (some Tryz.f60)
 (.node (some Tryz.f92)
 (.node (some Tryz.f156)
 .nil .nil) (.node (some Tryz.f220)
 .nil .nil)) (.node (some Tryz.f124)
 (.node (some Tryz.f188)
 .nil .nil) .nil))))) (.node (some Tryz.f6)
 (.node (some Tryz.f10)
 (.node (some Tryz.f18)
 (.node (some Tryz.f34)
 (.node (some Tryz.f66)
 (.node (some Tryz.f130)
 .nil .nil) (.node (some Tryz.f194)
 .nil .nil)) (.node (some Tryz.f98)
 (.node (some Tryz.f162)
 .nil .nil) .nil)) (.node (some Tryz.f50)
 (.node (some Tryz.f82)
 (.node (some Tryz.f146)
 .nil .nil) (.node (some Tryz.f210)
 .nil .nil)) (.node (some Tryz.f114)
 (.node (some Tryz.f178)
 .nil .nil) .nil))) (.node (some Tryz.f26)
 (.node (some Tryz.f42)
 (.node (some Tryz.f74)
 (.node (some Tryz.f138)
 .nil .nil) (.node (some Tryz.f202)
 .nil .nil)) (.node (some Tryz.f106)
 (.node (some Tryz.f170)
 .nil .nil) .nil)) (.node (some Tryz.f58)
 (.node (some Tryz.f90)
 (.node (some Tryz.f154)
 .nil .nil) (.node (some Tryz.f218)
 .nil .nil)) (.node (some Tryz.f122)
 (.node (some Tryz.f186)
 .nil .nil) .nil)))) (.node (some Tryz.f14)
 (.node (some Tryz.f22)
 (.node (some Tryz.f38)
 (.node (some Tryz.f70)
 (.node (some Tryz.f134)
 .nil .nil) (.node (some Tryz.f198)
 .nil .nil)) (.node (some Tryz.f102)
 (.node (some Tryz.f166)
 .nil .nil) .nil)) (.node (some Tryz.f54)
 (.node (some Tryz.f86)
 (.node (some Tryz.f150)
 .nil .nil) (.node (some Tryz.f214)
 .nil .nil)) (.node (some Tryz.f118)
 (.node (some Tryz.f182)
 .nil .nil) .nil))) (.node (some Tryz.f30)
 (.node (some Tryz.f46)
 (.node (some Tryz.f78)
 (.node (some Tryz.f142)
 .nil .nil) (.node (some Tryz.f206)
 .nil .nil)) (.node (some Tryz.f110)
 (.node (some Tryz.f174)
 .nil .nil) .nil)) (.node (some Tryz.f62)
 (.node (some Tryz.f94)
 (.node (some Tryz.f158)
 .nil .nil) (.node (some Tryz.f222)
 .nil .nil)) (.node (some Tryz.f126)
 (.node (some Tryz.f190)
 .nil .nil) .nil)))))))
def htab : Tr (Tr DHint) := (.node none
 (.node none
 (.node (some (.node none
 (.node none
 (.node (some ⟨[⟨0, .r, 0, [3]⟩, ⟨1, .e, 0, [24]⟩, ⟨0, .r, 1, [3]⟩, ⟨7, .e, 1, [26]⟩, ⟨15, .e, 2, [25, 27]⟩, ⟨31, .pa, 3, [28]⟩, ⟨63, .pa, 3, [29]⟩, ⟨127, .r, 3, [30, 3]⟩, ⟨127, .pa, 3, [30, 1]⟩, ⟨511, .e, 3, [30, 31, 32]⟩, ⟨127, .r, 4, [30, 3]⟩, ⟨127, .pa, 4, [30, 1]⟩, ⟨4095, .e, 4, [30, 34, 35]⟩, ⟨8191, .pa, 5, [30, 33, 36]⟩, ⟨16383, .pa, 5, [30, 37]⟩], 5, [(0, [0]), (2, [0, 1]), (7, [3]), (10, [3, 4])]⟩)
 .nil .nil) (.node none
 .nil (.node (some ⟨[⟨0, .r, 0, [3]⟩, ⟨0, .pa, 0, [8]⟩, ⟨0, .pa, 0, [2]⟩, ⟨0, .pa, 0, [9]⟩, ⟨12, .pa, 0, [78, 79]⟩, ⟨28, .pa, 0, [80]⟩, ⟨60, .r, 0, [81]⟩, ⟨0, .pa, 0, [2]⟩, ⟨0, .pa, 0, [9]⟩, ⟨384, .pa, 0, [83, 84]⟩, ⟨896, .pa, 0, [85]⟩, ⟨1920, .r, 0, [86]⟩, ⟨4095, .e, 0, [76, 77, 82, 87]⟩, ⟨8191, .pa, 1, [88]⟩, ⟨16383, .pa, 1, [75]⟩, ⟨16383, .pa, 1, [75]⟩, ⟨16383, .pa, 1, [75]⟩, ⟨0, .pa, 1, []⟩, ⟨163839, .pa, 1, [89]⟩, ⟨458751, .e, 1, [15, 90]⟩, ⟨1048575, .pa, 2, [91]⟩], 2, [(0, [0]), (6, [0]), (11, [0])]⟩)
 .nil .nil))) (.node none
 (.node none
 .nil (.node (some ⟨[⟨0, .r, 0, [3]⟩, ⟨0, .pa, 0, [10]⟩, ⟨0, .pa, 0, [2]⟩, ⟨0, .pa, 0, [9]⟩, ⟨12, .pa, 0, [61, 62]⟩, ⟨28, .pa, 0, [63]⟩, ⟨60, .r, 0, [64]⟩, ⟨0, .pa, 0, [2]⟩, ⟨0, .pa, 0, [9]⟩, ⟨384, .pa, 0, [66, 67]⟩, ⟨896, .pa, 0, [68]⟩, ⟨1920, .r, 0, [69]⟩, ⟨4095, .e, 0, [59, 60, 65, 70]⟩, ⟨8191, .pa, 1, [71]⟩, ⟨16383, .pa, 1, [58]⟩, ⟨16383, .pa, 1, [58]⟩, ⟨16383, .pa, 1, [58]⟩, ⟨0, .pa, 1, []⟩, ⟨163839, .pa, 1, [72]⟩, ⟨458751, .e, 1, [12, 73]⟩, ⟨1048575, .pa, 2, [74]⟩], 2, [(0, [0]), (6, [0]), (11, [0])]⟩)
 .nil .nil)) .nil)))
 (.node (some (.node none
 .nil (.node none
 (.node none
 (.node none
 .nil (.node (some ⟨[⟨0, .pa, 0, [12]⟩, ⟨1, .pa, 0, [133]⟩, ⟨3, .pa, 0, [134]⟩, ⟨7, .pa, 0, [135, 3]⟩, ⟨15, .pa, 0, [135, 136]⟩, ⟨31, .pa, 0, [135, 137]⟩, ⟨63, .r, 0, [135, 138]⟩, ⟨127, .pa, 0, [135, 139]⟩, ⟨255, .pa, 0, [135, 140]⟩, ⟨511, .r, 0, [135, 141]⟩, ⟨7, .pa, 0, [135, 5]⟩, ⟨2047, .pa, 0, [135, 142, 143]⟩, ⟨4095, .pa, 0, [135, 144]⟩, ⟨8191, .pa, 0, [145]⟩, ⟨16383, .pa, 0, [146, 3]⟩, ⟨32767, .pa, 0, [146, 147]⟩, ⟨65535, .pa, 0, [146, 148]⟩, ⟨131071, .r, 0, [146, 149]⟩, ⟨262143, .pa, 0, [146, 150]⟩, ⟨524287, .pa, 0, [146, 151]⟩, ⟨1048575, .r, 0, [146, 152]⟩, ⟨2097151, .r, 0, [146, 153]⟩, ⟨16383, .pa, 0, [146, 4]⟩, ⟨4210687, .r, 0, [146, 155]⟩, ⟨16777215, .pa, 0, [146, 154, 156]⟩, ⟨33554431, .pa, 0, [146, 157]⟩], 0, [(6, [0]), (9, [0]), (17, [0]), (20, [0]), (21, [0]), (23, [0])]⟩)
 .nil .nil)) .nil) .nil)))
 (.node (some (.node none
 (.node none
 .nil (.node (some ⟨[⟨0, .pa, 0, [3]⟩, ⟨0, .pa, 0, [0]⟩, ⟨0, .pa, 0, [4]⟩, ⟨6, .pa, 0, [13, 14]⟩, ⟨14, .pa, 0, [15]⟩, ⟨30, .r, 0, [16]⟩, ⟨62, .r, 0, [17]⟩, ⟨0, .pa, 0, [0]⟩, ⟨0, .pa, 0, [4]⟩, ⟨384, .pa, 0, [19, 20]⟩, ⟨896, .pa, 0, [21]⟩, ⟨1920, .r, 0, [22]⟩, ⟨3968, .r, 0, [23]⟩, ⟨8190, .pa, 0, [18, 24]⟩, ⟨16383, .pa, 0, [12, 25]⟩, ⟨32767, .pa, 0, [26]⟩], 0, [(5, [0]), (6, [0]), (11, [0]), (12, [0])]⟩)
 .nil .nil)) .nil))
 (.node (some (.node none
 .nil (.node none
 .nil (.node (some ⟨[⟨0, .pa, 0, [0]⟩, ⟨0, .pa, 0, [5]⟩, ⟨3, .pa, 0, [17, 18]⟩, ⟨7, .r, 0, [19]⟩, ⟨0, .pa, 0, [1]⟩, ⟨0, .pa, 0, [5]⟩, ⟨48, .pa, 0, [21, 22]⟩, ⟨112, .r, 0, [23]⟩, ⟨255, .pa, 0, [20, 24]⟩], 0, [(3, [0]), (7, [0])]⟩)
 .nil .nil))))
 .nil .nil) .nil) (.node (some (.node none
 (.node none
 (.node none
 (.node (some ⟨[⟨0, .pa, 0, [12]⟩, ⟨1, .e, 0, [89]⟩, ⟨0, .pa, 1, [7]⟩, ⟨4, .r, 1, [91]⟩, ⟨15, .r, 1, [90, 92]⟩, ⟨31, .pa, 1, [93]⟩, ⟨63, .pa, 1, [88]⟩, ⟨63, .pa, 1, [88]⟩, ⟨127, .pa, 1, [94]⟩, ⟨511, .pa, 1, [95]⟩], 1, [(3, [0, 1]), (4, [1])]⟩)
 .nil .nil) (.node none
 (.node (some ⟨[⟨0, .pa, 0, [11]⟩, ⟨0, .r, 0, [17]⟩, ⟨1, .pa, 0, [136]⟩, ⟨7, .e, 0, [9, 137]⟩, ⟨15, .pa, 1, []⟩], 1, [(1, [0])]⟩)
 .nil .nil) .nil)) (.node (some ⟨[⟨0, .pa, 0, [12]⟩, ⟨1, .e, 0, [79]⟩, ⟨0, .pa, 1, [7]⟩, ⟨4, .r, 1, [81]⟩, ⟨15, .r, 1, [80, 82]⟩, ⟨31, .pa, 1, [83]⟩, ⟨63, .pa, 1, [78]⟩, ⟨63, .pa, 1, [78]⟩, ⟨127, .pa, 1, [84]⟩, ⟨511, .pa, 1, [85]⟩], 1, [(3, [0, 1]), (4, [1])]⟩)
 (.node (some ⟨[⟨0, .pa, 0, [12]⟩, ⟨1, .e, 0, [98]⟩, ⟨0, .pa, 1, [7]⟩, ⟨4, .r, 1, [100]⟩, ⟨15, .r, 1, [99, 101]⟩, ⟨31, .pa, 1, [102]⟩], 1, [(3, [0, 1]), (4, [1])]⟩)
 .nil .nil) .nil)) (.node (some ⟨[⟨0, .r, 0, [4]⟩, ⟨0, .pa, 0, [1]⟩, ⟨3, .e, 0, [20, 21]⟩, ⟨7, .pa, 1, [22]⟩, ⟨15, .pa, 1, [23]⟩, ⟨31, .pa, 1, [24, 2]⟩, ⟨63, .pa, 1, [24, 25]⟩, ⟨127, .pa, 1, [24, 26]⟩, ⟨255, .pa, 1, [27]⟩, ⟨511, .pa, 1, [28, 2]⟩, ⟨511, .pa, 1, [28, 4]⟩, ⟨1535, .r, 1, [28, 30]⟩, ⟨3583, .r, 1, [28, 31]⟩, ⟨8191, .pa, 1, [28, 29, 32]⟩, ⟨16383, .pa, 1, [28, 33]⟩, ⟨32767, .pa, 1, [34]⟩, ⟨65535, .pa, 1, [35, 7]⟩, ⟨131071, .r, 1, [35, 36]⟩, ⟨262143, .pa, 1, [35, 37]⟩, ⟨524287, .pa, 1, [35, 38]⟩, ⟨1048575, .pa, 1, [39]⟩, ⟨2097151, .pa, 1, [40, 7]⟩, ⟨4194303, .r, 1, [40, 41]⟩, ⟨2097151, .pa, 1, [40, 11]⟩, ⟨10485759, .r, 1, [40, 43]⟩, ⟨33554431, .pa, 1, [40, 42, 44]⟩, ⟨67108863, .pa, 1, [40, 45]⟩, ⟨134217727, .pa, 1, [46]⟩, ⟨268435455, .pa, 1, [47, 7]⟩, ⟨536870911, .r, 1, [47, 48]⟩, ⟨1073741823, .e, 1, [47, 49]⟩, ⟨268435455, .pa, 2, [47, 4]⟩, ⟨2415919103, .r, 2, [47, 51]⟩, ⟨268435455, .pa, 2, [47, 7]⟩, ⟨8858370047, .r, 2, [47, 53]⟩, ⟨32480690175, .pa, 2, [47, 52, 54]⟩, ⟨66840428543, .pa, 2, [47, 55]⟩, ⟨135559905279, .r, 2, [47, 56]⟩, ⟨274877906943, .pa, 2, [47, 50, 57]⟩, ⟨549755813887, .pa, 2, [47, 58]⟩], 2, [(0, [0]), (11, [1]), (12, [1]), (17, [1]), (22, [1]), (24, [1]), (29, [1]), (32, [1, 2]), (34, [1, 2]), (37, [1, 2])]⟩)
 (.node (some ⟨[⟨0, .pa, 0, [2]⟩, ⟨0, .pa, 0, [11]⟩, ⟨0, .pa, 0, [7]⟩, ⟨4, .r, 0, [64]⟩, ⟨14, .pa, 0, [63, 65]⟩, ⟨0, .pa, 0, [4]⟩, ⟨32, .r, 0, [67]⟩, ⟨0, .pa, 0, [7]⟩, ⟨128, .r, 0, [69]⟩, ⟨480, .pa, 0, [68, 70]⟩, ⟨992, .pa, 0, [71]⟩, ⟨2016, .r, 0, [72]⟩, ⟨0, .pa, 0, [11]⟩, ⟨0, .r, 0, [7]⟩, ⟨16383, .pa, 0, [62, 66, 73, 74, 75]⟩, ⟨32767, .pa, 0, [76]⟩, ⟨65535, .pa, 0, [77]⟩], 0, [(3, [0]), (6, [0]), (8, [0]), (11, [0]), (13, [0])]⟩)
 (.node none
 (.node (some ⟨[⟨0, .pa, 0, [1]⟩, ⟨1, .e, 0, [123]⟩, ⟨0, .pa, 1, [2]⟩, ⟨0, .pa, 1, [7]⟩, ⟨8, .r, 1, [126]⟩, ⟨0, .pa, 1, [7]⟩, ⟨32, .r, 1, [128]⟩, ⟨96, .pa, 1, [129]⟩, ⟨252, .pa, 1, [125, 127, 130]⟩, ⟨3, .pa, 1, [124]⟩, ⟨1023, .e, 1, [9, 131]⟩, ⟨2047, .pa, 2, []⟩], 2, [(4, [0, 1]), (6, [0, 1])]⟩)
 .nil .nil) .nil) .nil) (.node none
 (.node none
 (.node (some ⟨[⟨0, .pa, 0, [11]⟩, ⟨0, .r, 0, [17]⟩, ⟨1, .pa, 0, [134]⟩, ⟨7, .e, 0, [9, 135]⟩, ⟨15, .pa, 1, []⟩], 1, [(1, [0])]⟩)
 .nil .nil) .nil) .nil))))
 .nil (.node none
 (.node (some (.node none
 (.node (some ⟨[⟨0, .r, 0, [0]⟩, ⟨1, .pa, 0, [3]⟩, ⟨3, .pa, 0, [4]⟩, ⟨7, .r, 0, [5]⟩, ⟨15, .pa, 0, [6]⟩, ⟨31, .pa, 0, [7]⟩, ⟨63, .r, 0, [8]⟩, ⟨127, .r, 0, [9]⟩, ⟨0, .r, 0, [0]⟩, ⟨256, .pa, 0, [11]⟩, ⟨768, .pa, 0, [12]⟩, ⟨1792, .r, 0, [13]⟩, ⟨4095, .pa, 0, [10, 14]⟩], 0, [(0, [0]), (3, [0]), (6, [0]), (7, [0]), (8, [0]), (11, [0])]⟩)
 (.node (some ⟨[⟨0, .r, 0, [0]⟩, ⟨1, .pa, 0, [16]⟩, ⟨3, .pa, 0, [17]⟩, ⟨7, .r, 0, [18]⟩, ⟨0, .r, 0, [0]⟩, ⟨16, .pa, 0, [20]⟩, ⟨48, .pa, 0, [21]⟩, ⟨112, .r, 0, [22]⟩, ⟨240, .pa, 0, [23]⟩, ⟨496, .pa, 0, [24]⟩, ⟨1008, .r, 0, [25]⟩, ⟨0, .r, 0, [0]⟩, ⟨2048, .pa, 0, [27]⟩, ⟨6144, .pa, 0, [28]⟩, ⟨14336, .pa, 0, [29]⟩, ⟨30720, .r, 0, [30]⟩, ⟨63488, .pa, 0, [31]⟩, ⟨131056, .e, 0, [26, 32]⟩, ⟨262143, .pa, 1, [19]⟩, ⟨524287, .pa, 1, [34]⟩, ⟨1048575, .e, 1, [35, 33]⟩], 2, [(0, [0, 1]), (3, [0, 1]), (4, [0]), (7, [0]), (10, [0]), (11, [0]), (15, [0])]⟩)
 .nil .nil) .nil) .nil))
 .nil .nil) .nil))) (.node (some (.node none
 (.node none
 (.node none
 (.node (some ⟨[⟨0, .pa, 0, [3]⟩, ⟨0, .pa, 0, [0]⟩, ⟨0, .pa, 0, [5]⟩, ⟨6, .pa, 0, [32, 33]⟩, ⟨14, .pa, 0, [34]⟩, ⟨30, .r, 0, [35]⟩, ⟨62, .e, 0, [36]⟩, ⟨0, .pa, 1, [6]⟩, ⟨0, .pa, 1, [0]⟩, ⟨0, .pa, 1, [5]⟩, ⟨768, .pa, 1, [39, 40]⟩, ⟨1792, .pa, 1, [41]⟩, ⟨3840, .r, 1, [42]⟩, ⟨8191, .e, 1, [31, 37, 38, 43]⟩, ⟨16383, .pa, 2, [44]⟩, ⟨32767, .pa, 2, [30]⟩, ⟨32767, .pa, 2, [30]⟩, ⟨0, .pa, 2, []⟩, ⟨196607, .e, 2, [7, 45]⟩, ⟨524287, .pa, 3, [46]⟩], 3, [(5, [0]), (12, [0, 1])]⟩)
 .nil .nil) .nil) .nil) .nil))
 (.node none
 (.node (some (.node none
 (.node none
 .nil (.node none
 (.node none
 (.node (some ⟨[⟨0, .r, 0, [1]⟩, ⟨0, .r, 0, [5]⟩, ⟨0, .pa, 0, [5]⟩, ⟨4, .r, 0, [65]⟩, ⟨0, .pa, 0, [6]⟩, ⟨28, .pa, 0, [66, 67]⟩, ⟨60, .r, 0, [68]⟩, ⟨127, .e, 0, [63, 64, 69]⟩, ⟨255, .pa, 1, [70]⟩], 1, [(0, [0]), (1, [0]), (3, [0]), (6, [0])]⟩)
 .nil .nil) .nil) .nil)) (.node none
 .nil (.node (some ⟨[⟨0, .r, 0, [1]⟩, ⟨0, .pa, 0, [1]⟩, ⟨2, .r, 0, [27]⟩, ⟨0, .pa, 0, [3]⟩, ⟨14, .pa, 0, [28, 29]⟩, ⟨30, .r, 0, [30]⟩, ⟨63, .e, 0, [26, 31]⟩, ⟨127, .pa, 1, [32]⟩], 1, [(0, [0]), (2, [0]), (5, [0])]⟩)
 .nil .nil))))
 .nil .nil) (.node none
 (.node (some (.node none
 .nil (.node (some ⟨[⟨0, .r, 0, [0]⟩, ⟨1, .pa, 0, [6]⟩, ⟨3, .pa, 0, [7]⟩, ⟨7, .r, 0, [8]⟩, ⟨15, .pa, 0, [9]⟩, ⟨31, .pa, 0, [10]⟩, ⟨63, .r, 0, [11]⟩, ⟨0, .pa, 0, [3]⟩, ⟨128, .e, 0, [13]⟩, ⟨511, .pa, 1, [12]⟩, ⟨1023, .pa, 1, [14]⟩], 1, [(0, [0, 1]), (3, [0, 1]), (6, [0, 1])]⟩)
 .nil .nil)))
 .nil .nil) .nil)) (.node none
 (.node none
 (.node none
 (.node (some (.node none
 (.node (some ⟨[⟨0, .pa, 0, [3]⟩, ⟨1, .r, 0, [6]⟩, ⟨0, .pa, 0, [0]⟩, ⟨4, .pa, 0, [8]⟩, ⟨12, .pa, 0, [9]⟩, ⟨28, .r, 0, [10]⟩, ⟨0, .pa, 0, [3]⟩, ⟨64, .r, 0, [12]⟩, ⟨252, .r, 0, [11, 13]⟩, ⟨0, .pa, 0, [0]⟩, ⟨0, .pa, 0, [3]⟩, ⟨1024, .r, 0, [16]⟩, ⟨3584, .e, 0, [15, 17]⟩, ⟨8191, .pa, 1, [7, 14, 18]⟩, ⟨0, .pa, 1, []⟩, ⟨32767, .e, 1, [4, 19]⟩], 2, [(1, [0, 1]), (5, [0, 1]), (7, [0, 1]), (8, [0, 1]), (11, [0])]⟩)
 .nil .nil) .nil))
 .nil .nil) .nil) (.node (some (.node none
 .nil (.node (some ⟨[⟨0, .pa, 0, [0]⟩, ⟨1, .pa, 0, [6]⟩, ⟨3, .pa, 0, [7]⟩, ⟨7, .pa, 0, [8]⟩, ⟨15, .r, 0, [9]⟩, ⟨0, .pa, 0, [3]⟩, ⟨0, .pa, 0, [0]⟩, ⟨64, .pa, 0, [12]⟩, ⟨192, .pa, 0, [13]⟩, ⟨448, .pa, 0, [14]⟩, ⟨960, .r, 0, [15]⟩, ⟨2016, .e, 0, [11, 16]⟩, ⟨4064, .pa, 1, [17]⟩, ⟨8160, .pa, 1, [18]⟩, ⟨16383, .pa, 1, [10, 19]⟩, ⟨0, .pa, 1, []⟩, ⟨65535, .e, 1, [4, 20]⟩], 2, [(4, [0, 1]), (10, [0])]⟩)
 .nil .nil)))
 .nil .nil)) .nil))) (.node none
 (.node (some (.node none
 (.node none
 (.node none
 (.node none
 (.node (some ⟨[⟨0, .r, 0, [10]⟩, ⟨0, .pa, 0, [11]⟩, ⟨0, .pa, 0, [9]⟩, ⟨0, .pa, 0, [1]⟩, ⟨0, .pa, 0, [8]⟩, ⟨24, .pa, 0, [96, 97]⟩, ⟨56, .pa, 0, [98]⟩, ⟨120, .r, 0, [99]⟩, ⟨255, .e, 0, [93, 94, 95, 100]⟩, ⟨511, .pa, 1, [101]⟩], 1, [(0, [0]), (7, [0])]⟩)
 .nil .nil) .nil) .nil) .nil) (.node none
 (.node none
 (.node (some ⟨[⟨0, .pa, 0, [6]⟩, ⟨0, .pa, 0, [1]⟩, ⟨0, .pa, 0, [8]⟩, ⟨6, .pa, 0, [46, 47]⟩, ⟨14, .pa, 0, [48]⟩, ⟨30, .r, 0, [49]⟩, ⟨62, .e, 0, [50]⟩, ⟨0, .pa, 1, [9]⟩, ⟨0, .pa, 1, [1]⟩, ⟨0, .pa, 1, [8]⟩, ⟨768, .pa, 1, [53, 54]⟩, ⟨1792, .pa, 1, [55]⟩, ⟨3840, .r, 1, [56]⟩, ⟨8191, .e, 1, [45, 51, 52, 57]⟩, ⟨16383, .pa, 2, [58]⟩, ⟨32767, .pa, 2, [44]⟩, ⟨32767, .pa, 2, [44]⟩, ⟨0, .pa, 2, []⟩, ⟨196607, .e, 2, [10, 59]⟩, ⟨524287, .pa, 3, [60]⟩], 3, [(5, [0]), (12, [0, 1])]⟩)
 .nil .nil) .nil) (.node none
 (.node (some ⟨[⟨0, .r, 0, [10]⟩, ⟨0, .pa, 0, [11]⟩, ⟨0, .pa, 0, [9]⟩, ⟨0, .pa, 0, [7]⟩, ⟨8, .pa, 0, [64]⟩, ⟨24, .r, 0, [65]⟩, ⟨63, .e, 0, [61, 62, 63, 66]⟩, ⟨127, .pa, 1, [67]⟩], 1, [(0, [0]), (5, [0])]⟩)
 .nil .nil) .nil))))
 (.node (some (.node none
 .nil (.node none
 (.node none
 .nil (.node (some ⟨[⟨0, .pa, 0, [6]⟩, ⟨1, .r, 0, [76]⟩, ⟨0, .pa, 0, [8]⟩, ⟨7, .pa, 0, [77, 78]⟩, ⟨15, .r, 0, [79]⟩, ⟨0, .pa, 0, [7]⟩, ⟨32, .r, 0, [81]⟩, ⟨0, .pa, 0, [8]⟩, ⟨224, .pa, 0, [82, 83]⟩, ⟨480, .r, 0, [84]⟩, ⟨1023, .pa, 0, [80, 85]⟩], 0, [(1, [0]), (4, [0]), (6, [0]), (9, [0])]⟩)
 .nil .nil)) (.node (some ⟨[⟨0, .pa, 0, [0]⟩, ⟨0, .pa, 0, [5]⟩, ⟨3, .pa, 0, [19, 20]⟩, ⟨7, .r, 0, [21]⟩, ⟨0, .pa, 0, [1]⟩, ⟨0, .pa, 0, [5]⟩, ⟨48, .pa, 0, [23, 24]⟩, ⟨112, .r, 0, [25]⟩, ⟨0, .pa, 0, []⟩, ⟨0, .pa, 0, []⟩, ⟨783, .e, 0, [6, 22]⟩, ⟨2047, .e, 1, [7, 26]⟩], 2, [(3, [0]), (7, [0, 1])]⟩)
 .nil .nil))))
 (.node none
 .nil (.node (some (.node none
 (.node (some ⟨[⟨0, .r, 0, [0]⟩, ⟨1, .pa, 0, [3]⟩, ⟨3, .pa, 0, [4]⟩, ⟨7, .pa, 0, [5]⟩, ⟨15, .r, 0, [6]⟩, ⟨0, .r, 0, [0]⟩, ⟨32, .pa, 0, [8]⟩, ⟨96, .pa, 0, [9]⟩, ⟨224, .r, 0, [10]⟩, ⟨480, .pa, 0, [11]⟩, ⟨992, .pa, 0, [12]⟩, ⟨2016, .r, 0, [13]⟩, ⟨0, .r, 0, [0]⟩, ⟨4096, .pa, 0, [15]⟩, ⟨12288, .pa, 0, [16]⟩, ⟨28672, .pa, 0, [17]⟩, ⟨61440, .r, 0, [18]⟩, ⟨131040, .pa, 0, [14, 19]⟩, ⟨262112, .e, 0, [20]⟩, ⟨524287, .pa, 1, [7]⟩, ⟨1048575, .pa, 1, [21]⟩], 1, [(0, [0, 1]), (4, [0, 1]), (5, [0]), (8, [0]), (11, [0]), (12, [0]), (16, [0])]⟩)
 .nil .nil) .nil))
 (.node (some (.node none
 .nil (.node (some ⟨[⟨0, .pa, 0, [0]⟩, ⟨0, .pa, 0, [3]⟩, ⟨2, .r, 0, [10]⟩, ⟨0, .pa, 0, [3]⟩, ⟨8, .r, 0, [12]⟩, ⟨24, .e, 0, [13]⟩, ⟨63, .e, 1, [9, 11, 14]⟩, ⟨127, .pa, 2, [15]⟩], 2, [(2, [0, 1]), (4, [0])]⟩)
 (.node none
 (.node (some ⟨[⟨0, .pa, 0, [0]⟩, ⟨1, .pa, 0, [27]⟩, ⟨3, .pa, 0, [28]⟩, ⟨7, .r, 0, [29]⟩, ⟨0, .pa, 0, [3]⟩, ⟨16, .r, 0, [31]⟩, ⟨63, .e, 0, [30, 32]⟩], 1, [(3, [0]), (5, [0])]⟩)
 .nil .nil) .nil) .nil)))
 .nil .nil) .nil)) (.node none
 (.node (some (.node none
 (.node (some ⟨[⟨0, .r, 0, [0]⟩, ⟨1, .pa, 0, [3]⟩, ⟨3, .pa, 0, [4]⟩, ⟨7, .r, 0, [5]⟩, ⟨15, .pa, 0, [6]⟩, ⟨31, .pa, 0, [7]⟩, ⟨63, .r, 0, [8]⟩, ⟨0, .r, 0, [0]⟩, ⟨128, .pa, 0, [10]⟩, ⟨384, .pa, 0, [11]⟩, ⟨896, .r, 0, [12]⟩, ⟨2047, .pa, 0, [9, 13]⟩], 0, [(0, [0]), (3, [0]), (6, [0]), (7, [0]), (10, [0])]⟩)
 .nil .nil) .nil))
 .nil .nil) .nil)) (.node none
 (.node none
 (.node (some (.node none
 (.node none
 .nil (.node (some ⟨[⟨0, .r, 0, [0]⟩, ⟨1, .pa, 0, [15]⟩, ⟨3, .pa, 0, [16]⟩, ⟨7, .r, 0, [17]⟩, ⟨0, .r, 0, [0]⟩, ⟨16, .pa, 0, [19]⟩, ⟨48, .pa, 0, [20]⟩, ⟨112, .r, 0, [21]⟩, ⟨240, .pa, 0, [22]⟩, ⟨496, .pa, 0, [23]⟩, ⟨1008, .r, 0, [24]⟩, ⟨0, .r, 0, [0]⟩, ⟨2048, .pa, 0, [26]⟩, ⟨6144, .pa, 0, [27]⟩, ⟨14336, .r, 0, [28]⟩, ⟨30720, .pa, 0, [29]⟩, ⟨65520, .e, 0, [25, 30]⟩, ⟨131071, .pa, 1, [18]⟩, ⟨262143, .pa, 1, [32]⟩, ⟨524287, .e, 1, [33, 31]⟩], 2, [(0, [0, 1]), (3, [0, 1]), (4, [0]), (7, [0]), (10, [0]), (11, [0]), (14, [0])]⟩)
 .nil .nil)) .nil))
 .nil .nil) .nil) (.node none
 (.node (some (.node none
 (.node (some ⟨[⟨0, .r, 0, [0]⟩, ⟨1, .pa, 0, [4]⟩, ⟨3, .pa, 0, [5]⟩, ⟨7, .r, 0, [6]⟩, ⟨0, .r, 0, [0]⟩, ⟨16, .pa, 0, [8]⟩, ⟨48, .pa, 0, [9]⟩, ⟨112, .r, 0, [10]⟩, ⟨255, .pa, 0, [7, 11]⟩, ⟨511, .pa, 0, [12]⟩], 0, [(0, [0]), (3, [0]), (4, [0]), (7, [0])]⟩)
 .nil (.node (some ⟨[⟨0, .r, 0, [0]⟩, ⟨1, .pa, 0, [25]⟩, ⟨3, .pa, 0, [26]⟩, ⟨7, .r, 0, [27]⟩, ⟨0, .r, 0, [0]⟩, ⟨16, .pa, 0, [29]⟩, ⟨48, .pa, 0, [30]⟩, ⟨112, .r, 0, [31]⟩, ⟨240, .pa, 0, [32]⟩, ⟨496, .pa, 0, [33]⟩, ⟨1008, .r, 0, [34]⟩, ⟨0, .pa, 0, [0]⟩, ⟨4080, .e, 0, [35, 36]⟩, ⟨0, .r, 1, [0]⟩, ⟨8192, .pa, 1, [38]⟩, ⟨24576, .pa, 1, [39]⟩, ⟨57344, .r, 1, [40]⟩, ⟨122880, .pa, 1, [41]⟩, ⟨262128, .e, 1, [37, 42]⟩, ⟨524287, .pa, 2, [28]⟩, ⟨1048575, .pa, 2, [44]⟩, ⟨2097151, .e, 2, [45, 43]⟩], 3, [(0, [0, 1, 2]), (3, [0, 1, 2]), (4, [0]), (7, [0]), (10, [0]), (13, [0, 1]), (16, [0, 1])]⟩)
 .nil .nil)) (.node (some ⟨[⟨0, .pa, 0, [3]⟩, ⟨1, .pa, 0, [13]⟩, ⟨3, .pa, 0, [14]⟩, ⟨7, .r, 0, [15]⟩, ⟨0, .r, 0, [0]⟩, ⟨16, .pa, 0, [17]⟩, ⟨48, .pa, 0, [18]⟩, ⟨112, .r, 0, [19]⟩, ⟨255, .pa, 0, [16, 20]⟩], 0, [(3, [0]), (4, [0]), (7, [0])]⟩)
 .nil .nil)))
 .nil .nil) (.node none
 (.node (some (.node none
 (.node none
 .nil (.node (some ⟨[⟨0, .pa, 0, [6]⟩, ⟨0, .r, 0, [5]⟩, ⟨0, .r, 0, [0]⟩, ⟨4, .e, 0, [21]⟩, ⟨14, .pa, 1, [20, 22]⟩, ⟨31, .pa, 1, [19, 23]⟩, ⟨63, .e, 1, [5, 24]⟩], 2, [(1, [0, 1]), (2, [0])]⟩)
 .nil .nil)) .nil))
 .nil .nil) .nil)))) (.node (some (.node none
 (.node none
 (.node none
 (.node (some ⟨[⟨0, .r, 0, [2]⟩, ⟨0, .pa, 0, [5]⟩, ⟨0, .pa, 0, [1]⟩, ⟨0, .pa, 0, [6]⟩, ⟨12, .pa, 0, [34, 35]⟩, ⟨28, .pa, 0, [36]⟩, ⟨60, .r, 0, [37]⟩, ⟨0, .pa, 0, [1]⟩, ⟨0, .pa, 0, [6]⟩, ⟨384, .pa, 0, [39, 40]⟩, ⟨896, .pa, 0, [41]⟩, ⟨1920, .r, 0, [42]⟩, ⟨4095, .e, 0, [32, 33, 38, 43]⟩, ⟨8191, .pa, 1, [44]⟩, ⟨16383, .pa, 1, [31]⟩, ⟨16383, .pa, 1, [31]⟩, ⟨16383, .pa, 1, [31]⟩, ⟨0, .pa, 1, []⟩, ⟨163839, .pa, 1, [45]⟩, ⟨458751, .e, 1, [8, 46]⟩, ⟨1048575, .pa, 2, [47]⟩], 2, [(0, [0]), (6, [0]), (11, [0])]⟩)
 .nil .nil) (.node none
 (.node (some ⟨[⟨0, .r, 0, [14]⟩, ⟨0, .r, 0, [8]⟩, ⟨3, .pa, 0, [132, 133]⟩, ⟨7, .pa, 0, [134]⟩, ⟨15, .pa, 0, [135, 15]⟩, ⟨15, .pa, 0, [135, 9]⟩, ⟨63, .pa, 0, [135, 136, 137]⟩, ⟨127, .pa, 0, [135, 138]⟩, ⟨255, .pa, 0, [139]⟩, ⟨511, .pa, 0, [140, 13]⟩, ⟨511, .pa, 0, [140, 8]⟩, ⟨1535, .r, 0, [140, 142]⟩, ⟨511, .pa, 0, [140, 8]⟩, ⟨4607, .r, 0, [140, 144]⟩, ⟨12799, .pa, 0, [140, 145]⟩, ⟨32767, .pa, 0, [140, 141, 143, 146]⟩, ⟨511, .pa, 0, [140, 7]⟩, ⟨511, .pa, 0, [140, 8]⟩, ⟨131583, .r, 0, [140, 149]⟩, ⟨511, .pa, 0, [140, 8]⟩, ⟨524799, .r, 0, [140, 151]⟩, ⟨1573375, .pa, 0, [140, 152]⟩, ⟨4129279, .pa, 0, [140, 148, 150, 153]⟩, ⟨8388607, .e, 0, [140, 147, 154]⟩, ⟨16777215, .pa, 1, [140, 155]⟩, ⟨33554431, .pa, 1, [140, 156]⟩], 1, [(0, [0]), (1, [0]), (11, [0]), (13, [0]), (18, [0]), (20, [0])]⟩)
 .nil .nil) .nil)) (.node none
 .nil (.node (some ⟨[⟨0, .pa, 0, [10]⟩, ⟨0, .pa, 0, [8]⟩, ⟨2, .r, 0, [75]⟩, ⟨7, .pa, 0, [74, 76]⟩, ⟨15, .pa, 0, [77]⟩, ⟨31, .pa, 0, [78, 11]⟩, ⟨63, .pa, 0, [78, 79]⟩, ⟨127, .pa, 0, [78, 80]⟩, ⟨255, .pa, 0, [81]⟩, ⟨511, .pa, 0, [82, 5]⟩, ⟨511, .pa, 0, [82, 10]⟩, ⟨511, .pa, 0, [82, 10]⟩, ⟨2559, .pa, 0, [82, 85]⟩, ⟨8191, .pa, 0, [82, 83, 84, 86]⟩, ⟨511, .pa, 0, [82, 7]⟩, ⟨511, .pa, 0, [82, 10]⟩, ⟨511, .pa, 0, [82, 10]⟩, ⟨66047, .pa, 0, [82, 90]⟩, ⟨246271, .pa, 0, [82, 88, 89, 91]⟩, ⟨524287, .e, 0, [82, 87, 92]⟩, ⟨1048575, .pa, 1, [82, 93]⟩, ⟨2097151, .pa, 1, [82, 94]⟩], 1, [(2, [0])]⟩)
 .nil .nil))) (.node none
 .nil (.node none
 (.node none
 (.node (some ⟨[⟨0, .r, 0, [2]⟩, ⟨0, .pa, 0, [12]⟩, ⟨0, .pa, 0, [1]⟩, ⟨0, .pa, 0, [6]⟩, ⟨12, .pa, 0, [118, 119]⟩, ⟨28, .pa, 0, [120]⟩, ⟨60, .r, 0, [121]⟩, ⟨0, .pa, 0, [1]⟩, ⟨0, .pa, 0, [6]⟩, ⟨384, .pa, 0, [123, 124]⟩, ⟨896, .pa, 0, [125]⟩, ⟨1920, .r, 0, [126]⟩, ⟨4095, .e, 0, [116, 117, 122, 127]⟩, ⟨8191, .pa, 1, [128]⟩, ⟨16383, .pa, 1, [115]⟩, ⟨16383, .pa, 1, [115]⟩, ⟨16383, .pa, 1, [115]⟩, ⟨0, .pa, 1, []⟩, ⟨163839, .pa, 1, [129]⟩, ⟨458751, .e, 1, [14, 130]⟩, ⟨1048575, .pa, 2, [131]⟩], 2, [(0, [0]), (6, [0]), (11, [0])]⟩)
 .nil .nil) .nil) .nil))))
 (.node (some (.node none
 .nil (.node none
 .nil (.node (some ⟨[⟨0, .pa, 0, [2]⟩, ⟨1, .r, 0, [23]⟩, ⟨0, .pa, 0, [5]⟩, ⟨7, .pa, 0, [24, 25]⟩, ⟨15, .r, 0, [26]⟩, ⟨0, .pa, 0, [1]⟩, ⟨0, .pa, 0, [5]⟩, ⟨96, .pa, 0, [28, 29]⟩, ⟨224, .r, 0, [30]⟩, ⟨0, .pa, 0, [2]⟩, ⟨512, .r, 0, [32]⟩, ⟨1536, .r, 0, [33]⟩, ⟨4095, .e, 0, [27, 31, 34]⟩, ⟨8191, .pa, 1, [35]⟩], 1, [(1, [0]), (4, [0]), (8, [0]), (10, [0]), (11, [0])]⟩)
 .nil .nil))))
 (.node (some (.node none
 (.node none
 .nil (.node none
 (.node (some ⟨[⟨0, .pa, 0, [4]⟩, ⟨1, .r, 0, [101]⟩, ⟨0, .pa, 0, [10]⟩, ⟨7, .pa, 0, [102, 103]⟩, ⟨15, .r, 0, [104]⟩, ⟨31, .pa, 0, [105]⟩, ⟨63, .pa, 0, [106]⟩, ⟨127, .pa, 0, [107, 4]⟩, ⟨255, .r, 0, [107, 108]⟩, ⟨127, .pa, 0, [107, 10]⟩, ⟨1023, .pa, 0, [107, 109, 110]⟩, ⟨2047, .r, 0, [107, 111]⟩, ⟨127, .pa, 0, [107, 2]⟩, ⟨8191, .pa, 0, [107, 112, 113]⟩, ⟨16383, .pa, 0, [107, 114]⟩, ⟨32767, .pa, 0, [115]⟩, ⟨65535, .pa, 0, [116, 4]⟩, ⟨131071, .r, 0, [116, 117]⟩, ⟨65535, .pa, 0, [116, 10]⟩, ⟨524287, .pa, 0, [116, 118, 119]⟩, ⟨1048575, .r, 0, [116, 120]⟩, ⟨65535, .pa, 0, [116, 4]⟩, ⟨2162687, .r, 0, [116, 122]⟩, ⟨65535, .pa, 0, [116, 10]⟩, ⟨14745599, .pa, 0, [116, 123, 124]⟩, ⟨33554431, .e, 0, [116, 121, 125]⟩, ⟨67108863, .pa, 1, [116, 126]⟩, ⟨134217727, .pa, 1, [116, 127]⟩], 1, [(1, [0]), (4, [0]), (8, [0]), (11, [0]), (17, [0]), (20, [0]), (22, [0])]⟩)
 .nil .nil) .nil)) .nil))
 .nil .nil) (.node (some (.node none
 (.node (some ⟨[⟨0, .pa, 0, [5]⟩, ⟨1, .r, 0, [9]⟩, ⟨0, .pa, 0, [4]⟩, ⟨4, .r, 0, [11]⟩, ⟨12, .r, 0, [12]⟩, ⟨31, .e, 0, [10, 13]⟩, ⟨0, .pa, 1, [5]⟩, ⟨64, .r, 1, [15]⟩, ⟨0, .pa, 1, [4]⟩, ⟨256, .r, 1, [17]⟩, ⟨768, .r, 1, [18]⟩, ⟨1792, .pa, 1, [19]⟩, ⟨4095, .e, 1, [16, 20]⟩, ⟨8191, .pa, 2, [14]⟩, ⟨16383, .pa, 2, [21]⟩], 2, [(1, [0]), (3, [0]), (4, [0]), (7, [0, 1]), (9, [0, 1]), (10, [0, 1])]⟩)
 .nil .nil) (.node none
 (.node (some ⟨[⟨0, .pa, 0, [5]⟩, ⟨1, .r, 0, [26]⟩, ⟨3, .pa, 0, [27]⟩, ⟨7, .pa, 0, [28]⟩, ⟨15, .pa, 0, [29, 5]⟩, ⟨31, .r, 0, [29, 30]⟩, ⟨63, .pa, 0, [29, 31]⟩, ⟨127, .pa, 0, [29, 32]⟩, ⟨255, .pa, 0, [33]⟩, ⟨511, .pa, 0, [34, 5]⟩, ⟨1023, .r, 0, [34, 35]⟩, ⟨511, .pa, 0, [34, 3]⟩, ⟨2559, .r, 0, [34, 37]⟩, ⟨6655, .r, 0, [34, 38]⟩, ⟨16383, .e, 0, [34, 36, 39]⟩, ⟨32767, .pa, 1, [34, 40]⟩, ⟨65535, .pa, 1, [34, 41]⟩, ⟨131071, .pa, 1, [42]⟩, ⟨262143, .pa, 1, [43, 3]⟩, ⟨524287, .r, 1, [43, 44]⟩, ⟨262143, .pa, 1, [43, 5]⟩, ⟨1310719, .r, 1, [43, 46]⟩, ⟨4194303, .pa, 1, [43, 45, 47]⟩, ⟨8388607, .pa, 1, [43, 48]⟩, ⟨16777215, .r, 1, [43, 49]⟩, ⟨262143, .pa, 1, [43, 5]⟩, ⟨33816575, .r, 1, [43, 51]⟩, ⟨100925439, .e, 1, [43, 52]⟩, ⟨268435455, .pa, 2, [43, 50, 53]⟩, ⟨536870911, .pa, 2, [43, 54]⟩, ⟨1073741823, .pa, 2, [55]⟩, ⟨2147483647, .pa, 2, [56, 5]⟩, ⟨4294967295, .r, 2, [56, 57]⟩, ⟨8589934591, .r, 2, [56, 58]⟩, ⟨2147483647, .pa, 2, [56, 5]⟩, ⟨19327352831, .r, 2, [56, 60]⟩, ⟨53687091199, .e, 2, [56, 61]⟩, ⟨137438953471, .pa, 3, [56, 59, 62]⟩, ⟨274877906943, .pa, 3, [56, 63]⟩, ⟨549755813887, .pa, 3, [64]⟩, ⟨1099511627775, .pa, 3, [65, 5]⟩, ⟨2199023255551, .r, 3, [65, 66]⟩, ⟨4398046511103, .pa, 3, [65, 67]⟩, ⟨8796093022207, .pa, 3, [65, 68]⟩, ⟨17592186044415, .pa, 3, [69, 8]⟩, ⟨35184372088831, .pa, 3, [69, 70]⟩, ⟨70368744177663, .pa, 3, [65, 69, 71]⟩, ⟨140737488355327, .pa, 3, [65, 72]⟩], 3, [(1, [0]), (5, [0]), (10, [0]), (12, [0]), (13, [0]), (19, [1, 2]), (21, [1, 2]), (24, [1, 2]), (26, [1]), (32, [2, 3]), (33, [2, 3]), (35, [2]), (41, [3])]⟩)
 .nil .nil) .nil)))
 .nil (.node (some (.node none
 (.node none
 (.node none
 (.node none
 (.node (some ⟨[⟨0, .pa, 0, [9]⟩, ⟨1, .pa, 0, [61]⟩, ⟨3, .pa, 0, [62]⟩, ⟨7, .pa, 0, [63, 4]⟩, ⟨15, .r, 0, [63, 64]⟩, ⟨31, .pa, 0, [63, 65]⟩, ⟨63, .pa, 0, [63, 66]⟩, ⟨127, .pa, 0, [67]⟩, ⟨255, .pa, 0, [68, 4]⟩, ⟨511, .r, 0, [68, 69]⟩, ⟨255, .pa, 0, [68, 0]⟩, ⟨1279, .pa, 0, [68, 71]⟩, ⟨3327, .pa, 0, [68, 72]⟩, ⟨7423, .r, 0, [68, 73]⟩, ⟨16383, .pa, 0, [68, 70, 74]⟩, ⟨32767, .pa, 0, [68, 75]⟩, ⟨65535, .pa, 0, [76]⟩, ⟨131071, .pa, 0, [77, 4]⟩, ⟨262143, .r, 0, [77, 78]⟩, ⟨524287, .pa, 0, [77, 79]⟩, ⟨1048575, .pa, 0, [77, 80]⟩, ⟨2097151, .pa, 0, [77, 81]⟩, ⟨4194303, .e, 0, [77, 82]⟩, ⟨8388607, .pa, 1, [77, 83]⟩, ⟨16777215, .pa, 1, [84]⟩], 1, [(4, [0]), (9, [0]), (13, [0]), (18, [0])]⟩)
 .nil .nil) .nil) .nil) .nil) .nil))
 .nil .nil))) (.node none
 (.node (some (.node none
 (.node none
 (.node none
 (.node (some ⟨[⟨0, .pa, 0, [5]⟩, ⟨1, .r, 0, [27]⟩, ⟨0, .pa, 0, [4]⟩, ⟨4, .e, 0, [29]⟩, ⟨12, .pa, 1, [30]⟩, ⟨31, .e, 1, [28, 31]⟩, ⟨63, .pa, 2, [5]⟩, ⟨127, .e, 2, [33, 32]⟩], 3, [(1, [0, 1])]⟩)
 .nil .nil) .nil) .nil) (.node none
 .nil (.node none
 .nil (.node (some ⟨[⟨0, .pa, 0, []⟩, ⟨0, .pa, 0, [4]⟩, ⟨2, .pa, 0, [58]⟩, ⟨6, .pa, 0, [59]⟩, ⟨14, .r, 0, [60]⟩, ⟨1, .e, 0, [2, 57]⟩, ⟨63, .e, 1, [3, 61]⟩], 2, [(4, [0, 1])]⟩)
 .nil .nil)))))
 .nil .nil) .nil)))) (.node none
 (.node (some (.node none
 (.node none
 (.node none
 .nil (.node (some ⟨[⟨0, .pa, 0, [10]⟩, ⟨1, .pa, 0, [77]⟩, ⟨3, .pa, 0, [78]⟩, ⟨7, .pa, 0, [79, 9]⟩, ⟨15, .r, 0, [79, 80]⟩, ⟨7, .pa, 0, [79, 1]⟩, ⟨7, .pa, 0, [79, 7]⟩, ⟨103, .pa, 0, [79, 82, 83]⟩, ⟨231, .pa, 0, [79, 84]⟩, ⟨487, .r, 0, [79, 85]⟩, ⟨1023, .pa, 0, [79, 81, 86]⟩, ⟨2047, .pa, 0, [79, 87]⟩, ⟨4095, .pa, 0, [88, 9]⟩, ⟨8191, .r, 0, [88, 89]⟩, ⟨4095, .pa, 0, [88, 1]⟩, ⟨4095, .pa, 0, [88, 7]⟩, ⟨53247, .pa, 0, [88, 91, 92]⟩, ⟨118783, .pa, 0, [88, 93]⟩, ⟨249855, .pa, 0, [88, 94]⟩, ⟨511999, .r, 0, [88, 95]⟩, ⟨1048575, .pa, 0, [88, 90, 96]⟩, ⟨2097151, .pa, 0, [79, 88, 97]⟩, ⟨4194303, .pa, 0, [79, 98]⟩, ⟨8388607, .pa, 0, [99, 9]⟩, ⟨16777215, .r, 0, [99, 100]⟩, ⟨33554431, .pa, 0, [99, 101]⟩, ⟨67108863, .pa, 0, [79, 99, 102]⟩, ⟨134217727, .pa, 0, [79, 103]⟩, ⟨268435455, .pa, 0, [104, 9]⟩, ⟨536870911, .r, 0, [104, 105]⟩, ⟨268435455, .pa, 0, [104, 1]⟩, ⟨268435455, .pa, 0, [104, 7]⟩, ⟨3489660927, .pa, 0, [104, 107, 108]⟩, ⟨7784628223, .pa, 0, [104, 109]⟩, ⟨16374562815, .pa, 0, [104, 110]⟩, ⟨33554431999, .r, 0, [104, 111]⟩, ⟨68719476735, .pa, 0, [104, 106, 112]⟩, ⟨137438953471, .pa, 0, [104, 113]⟩, ⟨274877906943, .pa, 0, [114, 9]⟩, ⟨549755813887, .r, 0, [114, 115]⟩, ⟨1099511627775, .pa, 0, [114, 116]⟩, ⟨2199023255551, .pa, 0, [114, 117]⟩, ⟨4398046511103, .pa, 0, [118, 9]⟩, ⟨8796093022207, .r, 0, [118, 119]⟩, ⟨4398046511103, .pa, 0, [118, 1]⟩, ⟨4398046511103, .pa, 0, [118, 7]⟩, ⟨57174604644351, .pa, 0, [118, 121, 122]⟩, ⟨127543348822015, .pa, 0, [118, 123]⟩, ⟨268280837177343, .pa, 0, [118, 124]⟩, ⟨549755813887999, .r, 0, [118, 125]⟩, ⟨1112705767309311, .pa, 0, [118, 126]⟩, ⟨2251799813685247, .pa, 0, [118, 120, 127]⟩, ⟨4503599627370495, .pa, 0, [114, 118, 128]⟩, ⟨9007199254740991, .pa, 0, [104, 114, 129]⟩, ⟨18014398509481983, .pa, 0, [79, 104, 130]⟩, ⟨36028797018963967, .pa, 0, [79, 131]⟩], 0, [(4, [0]), (9, [0]), (13, [0]), (19, [0]), (24, [0]), (29, [0]), (35, [0]), (39, [0]), (43, [0]), (49, [0])]⟩)
 (.node (some ⟨[⟨0, .pa, 0, [9]⟩, ⟨1, .r, 0, [178]⟩, ⟨3, .pa, 0, [179]⟩, ⟨7, .pa, 0, [180]⟩, ⟨15, .pa, 0, [181, 8]⟩, ⟨15, .pa, 0, [181, 9]⟩, ⟨47, .r, 0, [181, 183]⟩, ⟨127, .pa, 0, [181, 182, 184]⟩, ⟨255, .pa, 0, [181, 185]⟩, ⟨511, .r, 0, [181, 186]⟩, ⟨15, .pa, 0, [181, 9]⟩, ⟨1039, .r, 0, [181, 188]⟩, ⟨4095, .pa, 0, [181, 187, 189]⟩, ⟨8191, .pa, 0, [181, 190]⟩, ⟨16383, .pa, 0, [191, 8]⟩, ⟨16383, .pa, 0, [191, 9]⟩, ⟨49151, .r, 0, [191, 193]⟩, ⟨131071, .pa, 0, [191, 192, 194]⟩, ⟨262143, .pa, 0, [191, 195]⟩, ⟨524287, .r, 0, [191, 196]⟩, ⟨1048575, .r, 0, [191, 197]⟩, ⟨2097151, .pa, 0, [191, 198]⟩, ⟨4194303, .pa, 0, [181, 191, 199]⟩, ⟨8388607, .pa, 0, [181, 200]⟩, ⟨16777215, .pa, 0, [201]⟩], 0, [(1, [0]), (6, [0]), (9, [0]), (11, [0]), (16, [0]), (19, [0]), (20, [0])]⟩)
 .nil .nil) .nil)) .nil) (.node none
 (.node none
 (.node (some ⟨[⟨0, .r, 0, [2]⟩, ⟨0, .pa, 0, [5]⟩, ⟨0, .pa, 0, [1]⟩, ⟨0, .pa, 0, [7]⟩, ⟨12, .pa, 0, [30, 31]⟩, ⟨28, .pa, 0, [32]⟩, ⟨60, .r, 0, [33]⟩, ⟨0, .pa, 0, [1]⟩, ⟨0, .pa, 0, [7]⟩, ⟨384, .pa, 0, [35, 36]⟩, ⟨896, .pa, 0, [37]⟩, ⟨1920, .r, 0, [38]⟩, ⟨4095, .e, 0, [28, 29, 34, 39]⟩, ⟨8191, .pa, 1, [40]⟩, ⟨16383, .pa, 1, [27]⟩, ⟨16383, .pa, 1, [27]⟩, ⟨16383, .pa, 1, [27]⟩, ⟨0, .pa, 1, []⟩, ⟨163839, .pa, 1, [41]⟩, ⟨458751, .e, 1, [9, 42]⟩, ⟨1048575, .pa, 2, [43]⟩], 2, [(0, [0]), (6, [0]), (11, [0])]⟩)
 (.node (some ⟨[⟨0, .pa, 0, [6]⟩, ⟨0, .pa, 0, [9]⟩, ⟨2, .r, 0, [153]⟩, ⟨7, .r, 0, [152, 154]⟩, ⟨15, .r, 0, [155]⟩, ⟨31, .pa, 0, [156]⟩, ⟨63, .pa, 0, [157]⟩, ⟨127, .pa, 0, [158, 6]⟩, ⟨127, .pa, 0, [158, 9]⟩, ⟨383, .r, 0, [158, 160]⟩, ⟨1023, .r, 0, [158, 159, 161]⟩, ⟨2047, .pa, 0, [158, 162]⟩, ⟨4095, .r, 0, [158, 163]⟩, ⟨127, .pa, 0, [158, 9]⟩, ⟨8319, .r, 0, [158, 165]⟩, ⟨32767, .pa, 0, [158, 164, 166]⟩, ⟨65535, .pa, 0, [158, 167]⟩], 0, [(2, [0]), (3, [0]), (4, [0]), (9, [0]), (10, [0]), (12, [0]), (14, [0])]⟩)
 .nil .nil) .nil) .nil) (.node none
 (.node none
 (.node (some ⟨[⟨0, .pa, 0, [6]⟩, ⟨0, .pa, 0, [9]⟩, ⟨2, .r, 0, [170]⟩, ⟨0, .pa, 0, [6]⟩, ⟨0, .pa, 0, [9]⟩, ⟨16, .r, 0, [173]⟩, ⟨56, .r, 0, [172, 174]⟩, ⟨120, .pa, 0, [175]⟩, ⟨255, .e, 0, [169, 171, 176]⟩], 1, [(2, [0]), (5, [0]), (6, [0])]⟩)
 .nil .nil) .nil) (.node (some ⟨[⟨0, .pa, 0, [6]⟩, ⟨0, .pa, 0, [9]⟩, ⟨2, .r, 0, [138]⟩, ⟨0, .pa, 0, [6]⟩, ⟨0, .pa, 0, [9]⟩, ⟨16, .r, 0, [141]⟩, ⟨56, .r, 0, [140, 142]⟩, ⟨0, .pa, 0, [9]⟩, ⟨128, .r, 0, [144]⟩, ⟨384, .pa, 0, [145]⟩, ⟨1016, .e, 0, [143, 146]⟩, ⟨2047, .e, 1, [137, 139, 147]⟩], 2, [(2, [0, 1]), (5, [0]), (6, [0]), (8, [0])]⟩)
 .nil .nil)))))
 (.node none
 (.node none
 (.node none
 (.node (some (.node none
 (.node (some ⟨[⟨0, .pa, 0, [0]⟩, ⟨1, .pa, 0, [3]⟩, ⟨3, .pa, 0, [4]⟩, ⟨7, .r, 0, [5]⟩, ⟨15, .pa, 0, [6]⟩, ⟨31, .pa, 0, [7]⟩, ⟨63, .r, 0, [8]⟩, ⟨0, .pa, 0, [0]⟩, ⟨128, .pa, 0, [10]⟩, ⟨384, .pa, 0, [11]⟩, ⟨896, .r, 0, [12]⟩, ⟨2047, .pa, 0, [9, 13]⟩, ⟨4095, .pa, 0, [14]⟩, ⟨8191, .pa, 0, [15, 0]⟩, ⟨16383, .pa, 0, [15, 16]⟩, ⟨32767, .pa, 0, [15, 17]⟩, ⟨65535, .r, 0, [15, 18]⟩, ⟨131071, .pa, 0, [15, 19]⟩, ⟨262143, .pa, 0, [15, 20]⟩, ⟨524287, .r, 0, [15, 21]⟩, ⟨8191, .pa, 0, [15, 0]⟩, ⟨1056767, .pa, 0, [15, 23]⟩, ⟨3153919, .pa, 0, [15, 24]⟩, ⟨7348223, .r, 0, [15, 25]⟩, ⟨16777215, .e, 0, [15, 22, 26]⟩, ⟨33554431, .pa, 1, [15, 27]⟩, ⟨67108863, .pa, 1, [28]⟩], 1, [(3, [0]), (6, [0]), (10, [0]), (16, [0]), (19, [0]), (23, [0])]⟩)
 .nil .nil) .nil))
 .nil .nil) (.node (some (.node none
 (.node none
 .nil (.node (some ⟨[⟨0, .r, 0, [0]⟩, ⟨1, .pa, 0, [23]⟩, ⟨3, .pa, 0, [24]⟩, ⟨7, .r, 0, [25]⟩, ⟨15, .pa, 0, [26]⟩, ⟨31, .pa, 0, [27]⟩, ⟨63, .r, 0, [28]⟩, ⟨0, .r, 0, [0]⟩, ⟨128, .pa, 0, [30]⟩, ⟨384, .pa, 0, [31]⟩, ⟨896, .r, 0, [32]⟩, ⟨2047, .pa, 0, [29, 33]⟩], 0, [(0, [0]), (3, [0]), (6, [0]), (7, [0]), (10, [0])]⟩)
 .nil .nil)) (.node none
 .nil (.node (some ⟨[⟨0, .r, 0, [0]⟩, ⟨1, .pa, 0, [35]⟩, ⟨3, .pa, 0, [36]⟩, ⟨7, .r, 0, [37]⟩, ⟨0, .r, 0, [0]⟩, ⟨16, .pa, 0, [39]⟩, ⟨48, .pa, 0, [40]⟩, ⟨112, .r, 0, [41]⟩, ⟨0, .pa, 0, [3]⟩, ⟨256, .pa, 0, [43]⟩, ⟨255, .pa, 0, [38]⟩, ⟨1279, .pa, 0, [45]⟩, ⟨3327, .e, 0, [46]⟩, ⟨8191, .pa, 1, [42]⟩, ⟨16383, .pa, 1, [47]⟩, ⟨32767, .e, 1, [48, 44]⟩], 2, [(0, [0]), (3, [0]), (4, [0]), (7, [0])]⟩)
 .nil .nil))))
 .nil .nil)) (.node (some (.node none
 .nil (.node none
 .nil (.node (some ⟨[⟨0, .pa, 0, [9]⟩, ⟨1, .pa, 0, [47]⟩, ⟨3, .pa, 0, [48, 3]⟩, ⟨7, .r, 0, [48, 49]⟩, ⟨3, .pa, 0, [48, 5]⟩, ⟨19, .r, 0, [48, 51]⟩, ⟨63, .pa, 0, [48, 50, 52]⟩, ⟨127, .pa, 0, [48, 53]⟩, ⟨255, .r, 0, [48, 54]⟩, ⟨3, .r, 0, [48, 5]⟩, ⟨3, .pa, 0, [48, 7]⟩, ⟨2047, .e, 0, [48, 55, 56, 57]⟩, ⟨4095, .pa, 1, [48, 58]⟩, ⟨8191, .pa, 1, [59]⟩, ⟨16383, .pa, 1, [60, 5]⟩, ⟨32767, .r, 1, [60, 61]⟩, ⟨65535, .pa, 1, [60, 62]⟩, ⟨131071, .pa, 1, [60, 63]⟩, ⟨262143, .pa, 1, [64, 8]⟩, ⟨524287, .pa, 1, [60, 64, 65]⟩, ⟨1048575, .pa, 1, [60, 66]⟩, ⟨2097151, .pa, 1, [67]⟩], 1, [(3, [0]), (5, [0]), (8, [0]), (9, [0]), (15, [1])]⟩)
 .nil .nil))))
 .nil (.node (some (.node none
 .nil (.node none
 .nil (.node none
 (.node (some ⟨[⟨0, .pa, 0, [3]⟩, ⟨1, .pa, 0, [34]⟩, ⟨3, .pa, 0, [35]⟩, ⟨7, .r, 0, [36]⟩, ⟨0, .pa, 0, [5]⟩, ⟨16, .r, 0, [38]⟩, ⟨0, .pa, 0, [5]⟩, ⟨64, .r, 0, [40]⟩, ⟨255, .e, 0, [37, 39, 41]⟩], 1, [(3, [0]), (5, [0]), (7, [0])]⟩)
 .nil .nil) .nil))))
 (.node (some (.node none
 (.node none
 .nil (.node none
 (.node (some ⟨[⟨0, .pa, 0, [1]⟩, ⟨1, .r, 0, [43]⟩, ⟨3, .pa, 0, [44]⟩, ⟨7, .pa, 0, [45]⟩, ⟨15, .pa, 0, [46, 3]⟩, ⟨31, .pa, 0, [46, 47]⟩, ⟨63, .pa, 0, [46, 48]⟩, ⟨127, .pa, 0, [49]⟩, ⟨255, .pa, 0, [50, 3]⟩, ⟨511, .pa, 0, [50, 51]⟩, ⟨1023, .pa, 0, [50, 52]⟩, ⟨2047, .pa, 0, [53]⟩, ⟨4095, .pa, 0, [54, 3]⟩, ⟨8191, .pa, 0, [54, 55]⟩, ⟨16383, .pa, 0, [54, 4, 56]⟩, ⟨32767, .r, 0, [54, 57]⟩, ⟨4095, .pa, 0, [54, 1]⟩, ⟨69631, .r, 0, [54, 59]⟩, ⟨262143, .e, 0, [54, 58, 60]⟩, ⟨524287, .pa, 1, [54, 61]⟩, ⟨1048575, .pa, 1, [62]⟩], 1, [(1, [0]), (15, [0]), (17, [0])]⟩)
 .nil .nil) .nil)) .nil))
 .nil .nil) .nil))) (.node (some (.node none
 (.node none
 (.node none
 .nil (.node (some ⟨[⟨0, .pa, 0, [11]⟩, ⟨0, .pa, 0, [2]⟩, ⟨0, .pa, 0, [7]⟩, ⟨4, .r, 0, [88]⟩, ⟨0, .pa, 0, [7]⟩, ⟨16, .r, 0, [90]⟩, ⟨0, .pa, 0, [12]⟩, ⟨126, .pa, 0, [87, 89, 91, 92]⟩, ⟨1, .pa, 0, [86]⟩, ⟨511, .e, 0, [9, 93]⟩, ⟨1023, .pa, 1, []⟩], 1, [(3, [0]), (5, [0])]⟩)
 .nil .nil)) (.node none
 (.node (some ⟨[⟨0, .pa, 0, [1]⟩, ⟨1, .e, 0, [75]⟩, ⟨0, .pa, 1, [2]⟩, ⟨0, .pa, 1, [7]⟩, ⟨8, .r, 1, [78]⟩, ⟨0, .pa, 1, [7]⟩, ⟨32, .r, 1, [80]⟩, ⟨96, .pa, 1, [81]⟩, ⟨252, .pa, 1, [77, 79, 82]⟩, ⟨3, .pa, 1, [76]⟩, ⟨1023, .e, 1, [9, 83]⟩, ⟨2047, .pa, 2, []⟩], 2, [(4, [0, 1]), (6, [0, 1])]⟩)
 .nil .nil) .nil)) (.node (some ⟨[⟨0, .r, 0, [4]⟩, ⟨0, .pa, 0, [1]⟩, ⟨3, .e, 0, [16, 17]⟩, ⟨7, .pa, 1, [18]⟩, ⟨15, .pa, 1, [19]⟩, ⟨31, .pa, 1, [20, 2]⟩, ⟨63, .pa, 1, [20, 21]⟩, ⟨127, .pa, 1, [20, 22]⟩, ⟨255, .pa, 1, [23]⟩, ⟨511, .pa, 1, [24, 2]⟩, ⟨511, .pa, 1, [24, 4]⟩, ⟨1535, .r, 1, [24, 26]⟩, ⟨3583, .r, 1, [24, 27]⟩, ⟨8191, .pa, 1, [24, 25, 28]⟩, ⟨16383, .pa, 1, [24, 29]⟩, ⟨32767, .pa, 1, [30]⟩, ⟨65535, .pa, 1, [31, 7]⟩, ⟨131071, .r, 1, [31, 32]⟩, ⟨262143, .pa, 1, [31, 33]⟩, ⟨524287, .pa, 1, [31, 34]⟩, ⟨1048575, .pa, 1, [35]⟩, ⟨2097151, .pa, 1, [36, 7]⟩, ⟨4194303, .r, 1, [36, 37]⟩, ⟨2097151, .pa, 1, [36, 4]⟩, ⟨10485759, .r, 1, [36, 39]⟩, ⟨27262975, .r, 1, [36, 40]⟩, ⟨67108863, .pa, 1, [36, 38, 41]⟩, ⟨134217727, .pa, 1, [36, 42]⟩, ⟨268435455, .pa, 1, [43]⟩, ⟨536870911, .pa, 1, [44, 7]⟩, ⟨1073741823, .r, 1, [44, 45]⟩, ⟨2147483647, .e, 1, [44, 46]⟩, ⟨536870911, .pa, 2, [44, 4]⟩, ⟨4831838207, .r, 2, [44, 48]⟩, ⟨536870911, .pa, 2, [44, 7]⟩, ⟨17716740095, .r, 2, [44, 50]⟩, ⟨64961380351, .pa, 2, [44, 49, 51]⟩, ⟨133680857087, .pa, 2, [44, 52]⟩, ⟨271119810559, .r, 2, [44, 53]⟩, ⟨549755813887, .pa, 2, [44, 47, 54]⟩, ⟨1099511627775, .pa, 2, [44, 55]⟩], 2, [(0, [0]), (11, [1]), (12, [1]), (17, [1]), (22, [1]), (24, [1]), (25, [1]), (30, [1]), (33, [1, 2]), (35, [1, 2]), (38, [1, 2])]⟩)
 (.node none
 .nil (.node (some ⟨[⟨0, .pa, 0, [11]⟩, ⟨0, .pa, 0, [2]⟩, ⟨0, .pa, 0, [7]⟩, ⟨4, .r, 0, [96]⟩, ⟨0, .pa, 0, [7]⟩, ⟨16, .r, 0, [98]⟩, ⟨0, .pa, 0, [12]⟩, ⟨126, .pa, 0, [95, 97, 99, 100]⟩, ⟨1, .pa, 0, [94]⟩, ⟨511, .e, 0, [9, 101]⟩, ⟨1023, .pa, 1, []⟩], 1, [(3, [0]), (5, [0])]⟩)
 .nil .nil)) .nil)))
 (.node none
 (.node (some (.node none
 (.node none
 (.node (some ⟨[⟨0, .r, 0, [0]⟩, ⟨1, .pa, 0, [5]⟩, ⟨3, .pa, 0, [6]⟩, ⟨7, .pa, 0, [7]⟩, ⟨15, .r, 0, [8]⟩, ⟨0, .r, 0, [0]⟩, ⟨32, .pa, 0, [10]⟩, ⟨96, .pa, 0, [11]⟩, ⟨224, .pa, 0, [12]⟩, ⟨480, .r, 0, [13]⟩, ⟨1023, .pa, 0, [9, 14]⟩, ⟨2047, .e, 0, [15]⟩, ⟨4095, .pa, 1, []⟩, ⟨8191, .pa, 1, [16]⟩], 1, [(0, [0]), (4, [0]), (5, [0]), (9, [0])]⟩)
 .nil .nil) .nil) .nil))
 (.node (some (.node none
 (.node (some ⟨[⟨0, .pa, 0, [0]⟩, ⟨1, .pa, 0, [9]⟩, ⟨3, .pa, 0, [10]⟩, ⟨7, .r, 0, [11]⟩, ⟨0, .pa, 0, [3]⟩, ⟨16, .r, 0, [13]⟩, ⟨63, .r, 0, [12, 14]⟩, ⟨127, .pa, 0, [15]⟩, ⟨255, .pa, 0, [8]⟩, ⟨255, .pa, 0, [8]⟩, ⟨511, .pa, 0, [16]⟩, ⟨2047, .pa, 0, [17]⟩], 0, [(3, [0]), (5, [0]), (6, [0])]⟩)
 .nil .nil) .nil))
 .nil .nil) .nil) .nil) (.node none
 (.node (some (.node none
 .nil (.node none
 (.node (some ⟨[⟨0, .r, 0, [0]⟩, ⟨1, .pa, 0, [22]⟩, ⟨3, .pa, 0, [23]⟩, ⟨7, .r, 0, [24]⟩, ⟨0, .r, 0, [0]⟩, ⟨16, .pa, 0, [26]⟩, ⟨48, .pa, 0, [27]⟩, ⟨112, .r, 0, [28]⟩, ⟨240, .pa, 0, [29]⟩, ⟨496, .pa, 0, [30]⟩, ⟨1008, .r, 0, [31]⟩, ⟨2032, .pa, 0, [32]⟩, ⟨4095, .pa, 0, [25]⟩, ⟨8191, .pa, 0, [34]⟩, ⟨16383, .e, 0, [35, 33]⟩], 1, [(0, [0]), (3, [0]), (4, [0]), (7, [0]), (10, [0])]⟩)
 .nil .nil) .nil)))
 (.node (some (.node none
 (.node (some ⟨[⟨0, .r, 0, [0]⟩, ⟨0, .pa, 0, [2]⟩, ⟨3, .e, 0, [8, 9]⟩], 1, [(0, [0])]⟩)
 .nil .nil) (.node (some ⟨[⟨0, .pa, 0, [2]⟩, ⟨0, .r, 0, [0]⟩, ⟨2, .pa, 0, [12]⟩, ⟨6, .pa, 0, [13]⟩, ⟨14, .pa, 0, [14]⟩, ⟨30, .r, 0, [15]⟩, ⟨63, .e, 0, [11, 16]⟩, ⟨127, .pa, 1, [17]⟩, ⟨255, .pa, 1, [18]⟩, ⟨127, .pa, 1, [1]⟩, ⟨639, .e, 1, [20]⟩, ⟨2047, .pa, 2, [1]⟩, ⟨4095, .e, 2, [21, 19]⟩], 3, [(1, [0]), (5, [0])]⟩)
 .nil .nil)))
 .nil .nil) .nil) .nil))) (.node (some (.node none
 .nil (.node none
 .nil (.node none
 (.node none
 .nil (.node none
 (.node (some ⟨[⟨0, .pa, 0, [5]⟩, ⟨1, .pa, 0, [195]⟩, ⟨3, .r, 0, [196]⟩, ⟨7, .pa, 0, [197]⟩, ⟨0, .pa, 0, [5]⟩, ⟨16, .pa, 0, [199]⟩, ⟨15, .pa, 0, [198]⟩, ⟨127, .pa, 0, [200]⟩], 0, [(2, [0])]⟩)
 .nil .nil) .nil)) .nil))))
 (.node (some (.node none
 .nil (.node none
 .nil (.node (some ⟨[⟨0, .pa, 0, [2]⟩, ⟨1, .r, 0, [25]⟩, ⟨0, .pa, 0, [5]⟩, ⟨7, .pa, 0, [26, 27]⟩, ⟨15, .r, 0, [28]⟩, ⟨0, .r, 0, [6]⟩, ⟨0, .pa, 0, [2]⟩, ⟨64, .r, 0, [31]⟩, ⟨192, .r, 0, [32]⟩, ⟨511, .e, 0, [29, 30, 33]⟩, ⟨1023, .pa, 1, [34]⟩], 1, [(1, [0]), (4, [0]), (5, [0]), (7, [0]), (8, [0])]⟩)
 .nil .nil))))
 (.node none
 (.node (some (.node none
 (.node (some ⟨[⟨0, .pa, 0, [0]⟩, ⟨1, .pa, 0, [3]⟩, ⟨3, .pa, 0, [4]⟩, ⟨7, .r, 0, [5]⟩, ⟨15, .pa, 0, [6]⟩, ⟨31, .pa, 0, [7]⟩, ⟨63, .r, 0, [8]⟩, ⟨0, .pa, 0, [0]⟩, ⟨128, .pa, 0, [10]⟩, ⟨384, .pa, 0, [11]⟩, ⟨896, .r, 0, [12]⟩, ⟨2047, .pa, 0, [9, 13]⟩], 0, [(3, [0]), (6, [0]), (10, [0])]⟩)
 .nil .nil) .nil))
 .nil .nil) .nil) (.node none
 (.node none
 (.node (some (.node none
 (.node (some ⟨[⟨0, .pa, 0, [0]⟩, ⟨0, .pa, 0, [1]⟩, ⟨0, .pa, 0, [2]⟩, ⟨6, .pa, 0, [11, 12]⟩, ⟨1, .pa, 0, [10]⟩, ⟨31, .pa, 0, [14, 13]⟩, ⟨63, .r, 0, [15]⟩, ⟨127, .pa, 0, [16]⟩], 0, [(6, [0])]⟩)
 .nil .nil) (.node none
 (.node none
 (.node (some ⟨[⟨0, .pa, 0, [8]⟩, ⟨0, .pa, 0, [1]⟩, ⟨2, .r, 0, [39]⟩, ⟨7, .pa, 0, [38, 40]⟩, ⟨15, .pa, 0, [41]⟩, ⟨31, .pa, 0, [42, 0]⟩, ⟨31, .pa, 0, [42, 1]⟩, ⟨31, .pa, 0, [42, 8]⟩, ⟨223, .pa, 0, [42, 44, 45]⟩, ⟨63, .pa, 0, [42, 43]⟩, ⟨1023, .pa, 0, [42, 47, 46]⟩, ⟨2047, .r, 0, [42, 48]⟩, ⟨4095, .pa, 0, [42, 49]⟩, ⟨8191, .pa, 0, [42, 50]⟩, ⟨16383, .pa, 0, [51, 0]⟩, ⟨16383, .pa, 0, [51, 1]⟩, ⟨16383, .pa, 0, [51, 8]⟩, ⟨114687, .pa, 0, [51, 53, 54]⟩, ⟨32767, .pa, 0, [51, 52]⟩, ⟨524287, .pa, 0, [51, 56, 55]⟩, ⟨1048575, .r, 0, [51, 57]⟩, ⟨2097151, .pa, 0, [51, 58]⟩, ⟨4194303, .pa, 0, [51, 59]⟩, ⟨8388607, .pa, 0, [60, 7]⟩, ⟨16777215, .pa, 0, [60, 61]⟩, ⟨33554431, .pa, 0, [51, 60, 62]⟩, ⟨67108863, .pa, 0, [42, 51, 63]⟩, ⟨134217727, .pa, 0, [42, 64]⟩], 0, [(2, [0]), (11, [0]), (20, [0])]⟩)
 .nil .nil) .nil) .nil)))
 .nil .nil) .nil) .nil)) (.node (some (.node none
 (.node (some ⟨[⟨0, .pa, 0, [0]⟩, ⟨1, .pa, 0, [16]⟩, ⟨3, .pa, 0, [17]⟩, ⟨7, .r, 0, [18]⟩, ⟨0, .pa, 0, [0]⟩, ⟨16, .pa, 0, [20]⟩, ⟨48, .pa, 0, [21]⟩, ⟨112, .r, 0, [22]⟩, ⟨0, .pa, 0, [1]⟩, ⟨0, .pa, 0, [2]⟩, ⟨0, .pa, 0, [3]⟩, ⟨0, .pa, 0, [4]⟩, ⟨3584, .pa, 0, [25, 26, 27]⟩, ⟨8191, .e, 0, [19, 23, 24, 28]⟩, ⟨16383, .pa, 1, [29]⟩, ⟨32767, .pa, 1, [15]⟩, ⟨32767, .pa, 1, [15]⟩, ⟨32767, .pa, 1, [15]⟩, ⟨0, .pa, 1, []⟩, ⟨327679, .pa, 1, [30]⟩, ⟨917503, .e, 1, [13, 31]⟩, ⟨2097151, .pa, 2, [32]⟩], 2, [(3, [0]), (7, [0])]⟩)
 .nil .nil) .nil))
 (.node (some (.node none
 (.node none
 (.node (some ⟨[⟨0, .pa, 0, [10]⟩, ⟨1, .pa, 0, [27]⟩, ⟨3, .pa, 0, [28]⟩, ⟨7, .r, 0, [29]⟩, ⟨0, .pa, 0, [2]⟩, ⟨31, .pa, 0, [30, 31]⟩, ⟨0, .pa, 0, [10]⟩, ⟨64, .pa, 0, [33]⟩, ⟨192, .pa, 0, [34]⟩, ⟨448, .r, 0, [35]⟩, ⟨960, .pa, 0, [36]⟩, ⟨63, .pa, 0, [32]⟩, ⟨4095, .pa, 0, [37]⟩], 0, [(3, [0]), (9, [0])]⟩)
 .nil (.node none
 .nil (.node none
 .nil (.node (some ⟨[⟨0, .pa, 0, [10]⟩, ⟨0, .pa, 0, [10]⟩, ⟨2, .pa, 0, [183]⟩, ⟨6, .pa, 0, [184]⟩, ⟨14, .r, 0, [185]⟩, ⟨0, .pa, 0, [7]⟩, ⟨32, .r, 0, [187]⟩, ⟨96, .pa, 0, [188]⟩, ⟨254, .e, 0, [186, 189]⟩, ⟨511, .pa, 1, [182]⟩, ⟨1023, .pa, 1, [191]⟩, ⟨2047, .e, 1, [192, 190]⟩], 2, [(4, [0]), (6, [0])]⟩)
 .nil .nil)))) .nil) .nil))
 (.node (some (.node none
 (.node none
 .nil (.node (some ⟨[⟨0, .pa, 0, [0]⟩, ⟨0, .pa, 0, [1]⟩, ⟨3, .pa, 0, [20, 21]⟩, ⟨0, .pa, 0, [0]⟩, ⟨0, .pa, 0, [2]⟩, ⟨24, .pa, 0, [23, 24]⟩, ⟨63, .e, 0, [22, 25]⟩, ⟨127, .pa, 1, [26]⟩], 1, []⟩)
 .nil .nil)) .nil))
 .nil .nil) .nil) (.node none
 (.node (some (.node none
 .nil (.node none
 (.node (some ⟨[⟨0, .r, 0, [0]⟩, ⟨1, .pa, 0, [22]⟩, ⟨3, .pa, 0, [23]⟩, ⟨7, .r, 0, [24]⟩, ⟨0, .r, 0, [0]⟩, ⟨16, .pa, 0, [26]⟩, ⟨48, .pa, 0, [27]⟩, ⟨112, .r, 0, [28]⟩, ⟨240, .pa, 0, [29]⟩, ⟨496, .pa, 0, [30]⟩, ⟨1008, .r, 0, [31]⟩, ⟨2032, .pa, 0, [32]⟩, ⟨4095, .pa, 0, [25]⟩, ⟨8191, .pa, 0, [34]⟩, ⟨16383, .e, 0, [35, 33]⟩], 1, [(0, [0]), (3, [0]), (4, [0]), (7, [0]), (10, [0])]⟩)
 .nil .nil) .nil)))
 .nil .nil) (.node (some (.node none
 (.node none
 .nil (.node none
 (.node none
 .nil (.node (some ⟨[⟨0, .pa, 0, []⟩, ⟨0, .pa, 0, [7]⟩, ⟨2, .r, 0, [87]⟩, ⟨6, .pa, 0, [88]⟩, ⟨1, .e, 0, [4, 86]⟩, ⟨31, .e, 1, [5, 89]⟩], 2, [(2, [0, 1])]⟩)
 .nil .nil)) .nil)) .nil))
 .nil .nil))))) (.node none
 (.node none
 (.node none
 (.node (some (.node none
 .nil (.node none
 .nil (.node none
 .nil (.node (some ⟨[⟨0, .r, 0, [1]⟩, ⟨0, .r, 0, [7]⟩, ⟨0, .pa, 0, [7]⟩, ⟨4, .r, 0, [67]⟩, ⟨0, .pa, 0, [8]⟩, ⟨28, .pa, 0, [68, 69]⟩, ⟨60, .r, 0, [70]⟩, ⟨127, .e, 0, [65, 66, 71]⟩, ⟨255, .pa, 1, [72]⟩, ⟨511, .pa, 1, [73]⟩, ⟨1023, .pa, 1, [74, 7]⟩, ⟨2047, .r, 1, [74, 75]⟩, ⟨1023, .pa, 1, [74, 8]⟩, ⟨8191, .pa, 1, [74, 76, 77]⟩, ⟨16383, .pa, 1, [74, 78]⟩, ⟨32767, .r, 1, [74, 79]⟩, ⟨1023, .pa, 1, [74, 7]⟩, ⟨131071, .e, 1, [74, 80, 81]⟩, ⟨262143, .pa, 2, [74, 82]⟩, ⟨524287, .pa, 2, [83]⟩], 2, [(0, [0]), (1, [0]), (3, [0]), (6, [0]), (11, [1]), (15, [1])]⟩)
 .nil .nil)))))
 (.node (some (.node none
 (.node none
 (.node (some ⟨[⟨0, .pa, 0, [0]⟩, ⟨1, .pa, 0, [11]⟩, ⟨3, .pa, 0, [12]⟩, ⟨7, .r, 0, [13]⟩, ⟨0, .pa, 0, [0]⟩, ⟨16, .pa, 0, [15]⟩, ⟨48, .pa, 0, [16]⟩, ⟨112, .r, 0, [17]⟩, ⟨255, .pa, 0, [14]⟩, ⟨511, .pa, 0, [19]⟩, ⟨1023, .e, 0, [20, 18]⟩], 1, [(3, [0]), (7, [0])]⟩)
 .nil .nil) .nil) .nil))
 .nil .nil) (.node (some (.node none
 (.node none
 (.node (some ⟨[⟨0, .r, 0, [0]⟩, ⟨1, .pa, 0, [12]⟩, ⟨3, .pa, 0, [13]⟩, ⟨7, .r, 0, [14]⟩, ⟨15, .pa, 0, [15]⟩, ⟨31, .pa, 0, [16]⟩, ⟨63, .r, 0, [17]⟩, ⟨0, .r, 0, [0]⟩, ⟨128, .pa, 0, [19]⟩, ⟨384, .pa, 0, [20]⟩, ⟨896, .r, 0, [21]⟩, ⟨2047, .pa, 0, [18, 22]⟩, ⟨4095, .pa, 0, [23]⟩], 0, [(0, [0]), (3, [0]), (6, [0]), (7, [0]), (10, [0])]⟩)
 .nil .nil) .nil) .nil))
 (.node (some (.node (some ⟨[⟨0, .r, 0, [0]⟩, ⟨1, .pa, 0, [2]⟩, ⟨3, .pa, 0, [3]⟩, ⟨7, .pa, 0, [4]⟩, ⟨15, .r, 0, [5]⟩, ⟨0, .r, 0, [1]⟩, ⟨0, .r, 0, [0]⟩, ⟨64, .e, 0, [8]⟩, ⟨255, .pa, 1, [6, 7]⟩, ⟨511, .pa, 1, [10]⟩, ⟨1023, .e, 1, [11, 9]⟩], 2, [(0, [0, 1]), (4, [0, 1]), (5, [0, 1]), (6, [0])]⟩)
 .nil .nil))
 .nil .nil) .nil)) (.node none
 (.node (some (.node none
 (.node (some ⟨[⟨0, .r, 0, [0]⟩, ⟨1, .pa, 0, [3]⟩, ⟨3, .pa, 0, [4]⟩, ⟨7, .pa, 0, [5]⟩, ⟨15, .r, 0, [6]⟩, ⟨0, .r, 0, [0]⟩, ⟨32, .pa, 0, [8]⟩, ⟨96, .pa, 0, [9]⟩, ⟨224, .r, 0, [10]⟩, ⟨480, .pa, 0, [11]⟩, ⟨992, .pa, 0, [12]⟩, ⟨2016, .r, 0, [13]⟩, ⟨4064, .pa, 0, [14]⟩, ⟨8191, .pa, 0, [7, 15]⟩, ⟨16383, .pa, 0, [16]⟩, ⟨32767, .r, 0, [17, 0]⟩, ⟨65535, .pa, 0, [17, 18]⟩, ⟨131071, .pa, 0, [17, 19]⟩, ⟨262143, .pa, 0, [17, 20]⟩, ⟨524287, .r, 0, [17, 21]⟩, ⟨32767, .r, 0, [17, 0]⟩, ⟨1081343, .pa, 0, [17, 23]⟩, ⟨3178495, .pa, 0, [17, 24]⟩, ⟨7372799, .r, 0, [17, 25]⟩, ⟨15761407, .pa, 0, [17, 26]⟩, ⟨32538623, .pa, 0, [17, 27]⟩, ⟨66093055, .r, 0, [17, 28]⟩, ⟨133201919, .pa, 0, [17, 29]⟩, ⟨268435455, .pa, 0, [17, 22, 30]⟩, ⟨536870911, .pa, 0, [17, 31]⟩], 0, [(0, [0]), (4, [0]), (5, [0]), (8, [0]), (11, [0]), (15, [0]), (19, [0]), (20, [0]), (23, [0]), (26, [0])]⟩)
 (.node (some ⟨[⟨0, .r, 0, [0]⟩, ⟨1, .pa, 0, [33]⟩, ⟨3, .pa, 0, [34]⟩, ⟨7, .r, 0, [35]⟩, ⟨15, .pa, 0, [36]⟩, ⟨31, .pa, 0, [37]⟩, ⟨63, .r, 0, [38]⟩, ⟨0, .r, 0, [0]⟩, ⟨128, .pa, 0, [40]⟩, ⟨384, .pa, 0, [41]⟩, ⟨896, .pa, 0, [42]⟩, ⟨1920, .r, 0, [43]⟩, ⟨4095, .pa, 0, [39, 44]⟩, ⟨8191, .pa, 0, [36]⟩, ⟨16383, .pa, 0, [46]⟩, ⟨32767, .e, 0, [47, 45]⟩], 1, [(0, [0]), (3, [0]), (6, [0]), (7, [0]), (11, [0])]⟩)
 .nil .nil) .nil) .nil))
 (.node (some (.node none
 .nil (.node (some ⟨[⟨0, .pa, 0, [0]⟩, ⟨0, .pa, 0, [1]⟩, ⟨0, .pa, 0, [2]⟩, ⟨6, .pa, 0, [13, 14]⟩, ⟨1, .pa, 0, [12]⟩, ⟨31, .pa, 0, [16, 15]⟩, ⟨63, .r, 0, [17]⟩], 0, [(6, [0])]⟩)
 .nil .nil)))
 .nil .nil) .nil) (.node none
 (.node (some (.node none
 .nil (.node none
 (.node (some ⟨[⟨0, .pa, 0, [6]⟩, ⟨1, .r, 0, [13]⟩, ⟨3, .pa, 0, [14]⟩, ⟨7, .pa, 0, [15]⟩, ⟨15, .pa, 0, [16, 0]⟩, ⟨31, .pa, 0, [16, 17]⟩, ⟨63, .pa, 0, [16, 18]⟩, ⟨127, .r, 0, [16, 19]⟩, ⟨15, .pa, 0, [16, 6]⟩, ⟨271, .r, 0, [16, 21]⟩, ⟨1023, .r, 0, [16, 20, 22]⟩, ⟨2047, .pa, 0, [16, 23]⟩, ⟨4095, .pa, 0, [16, 24]⟩, ⟨8191, .pa, 0, [25]⟩, ⟨16383, .pa, 0, [26, 0]⟩, ⟨16383, .pa, 0, [26, 6]⟩, ⟨49151, .r, 0, [26, 28]⟩, ⟨131071, .e, 0, [26, 27, 29]⟩, ⟨262143, .pa, 1, [26, 30]⟩, ⟨524287, .pa, 1, [26, 31]⟩], 1, [(1, [0]), (7, [0]), (9, [0]), (10, [0]), (16, [0])]⟩)
 .nil .nil) .nil)))
 .nil .nil) .nil))) (.node (some (.node none
 .nil (.node (some ⟨[⟨0, .r, 0, [3]⟩, ⟨0, .r, 0, [3]⟩, ⟨2, .e, 0, [8]⟩, ⟨7, .pa, 1, [7, 9]⟩, ⟨15, .pa, 1, [10]⟩, ⟨31, .pa, 1, [11]⟩], 1, [(0, [0, 1]), (1, [0])]⟩)
 .nil .nil)))
 (.node none
 (.node (some (.node none
 (.node (some ⟨[⟨0, .r, 0, [0]⟩, ⟨1, .pa, 0, [4]⟩, ⟨3, .pa, 0, [5]⟩, ⟨7, .r, 0, [6]⟩, ⟨15, .pa, 0, [7]⟩, ⟨31, .pa, 0, [8]⟩, ⟨63, .r, 0, [9]⟩, ⟨0, .r, 0, [0]⟩, ⟨128, .pa, 0, [11]⟩, ⟨384, .pa, 0, [12]⟩, ⟨896, .r, 0, [13]⟩, ⟨2047, .e, 0, [10, 14]⟩, ⟨4095, .pa, 1, [15]⟩], 1, [(0, [0]), (3, [0]), (6, [0]), (7, [0]), (10, [0])]⟩)
 .nil .nil) (.node none
 (.node (some ⟨[⟨0, .r, 0, [0]⟩, ⟨1, .pa, 0, [18]⟩, ⟨3, .pa, 0, [19]⟩, ⟨7, .r, 0, [20]⟩, ⟨0, .r, 0, [0]⟩, ⟨16, .pa, 0, [22]⟩, ⟨48, .pa, 0, [23]⟩, ⟨112, .r, 0, [24]⟩, ⟨240, .pa, 0, [25]⟩, ⟨496, .pa, 0, [26]⟩, ⟨1008, .r, 0, [27]⟩, ⟨0, .pa, 0, [3]⟩, ⟨0, .pa, 0, [3]⟩, ⟨4096, .pa, 0, [30]⟩, ⟨16368, .e, 0, [28, 29, 31]⟩, ⟨32767, .pa, 1, [21]⟩, ⟨65535, .pa, 1, [33]⟩, ⟨131071, .e, 1, [34, 32]⟩], 2, [(0, [0, 1]), (3, [0, 1]), (4, [0]), (7, [0]), (10, [0])]⟩)
 .nil .nil) .nil)))
 (.node (some (.node none
 (.node none
 .nil (.node (some ⟨[⟨0, .pa, 0, [5]⟩, ⟨1, .r, 0, [13]⟩, ⟨3, .e, 0, [14]⟩, ⟨0, .pa, 1, [5]⟩, ⟨8, .r, 1, [16]⟩, ⟨31, .e, 1, [17]⟩, ⟨63, .pa, 2, [15, 18]⟩, ⟨127, .pa, 2, [19]⟩], 2, [(1, [0]), (4, [0, 1])]⟩)
 .nil .nil)) .nil))
 .nil .nil) .nil) .nil) (.node none
 (.node none
 (.node (some .nil)
 .nil .nil) .nil) .nil))) (.node (some (.node none
 (.node none
 .nil (.node (some ⟨[⟨0, .pa, 0, [3]⟩, ⟨0, .pa, 0, [1]⟩, ⟨2, .r, 0, [22]⟩, ⟨0, .pa, 0, [4]⟩, ⟨14, .pa, 0, [23, 24]⟩, ⟨30, .pa, 0, [25]⟩, ⟨62, .r, 0, [26]⟩, ⟨126, .r, 0, [27]⟩, ⟨0, .pa, 0, [1]⟩, ⟨256, .r, 0, [29]⟩, ⟨0, .pa, 0, [4]⟩, ⟨1792, .pa, 0, [30, 31]⟩, ⟨3840, .pa, 0, [32]⟩, ⟨7936, .r, 0, [33]⟩, ⟨16128, .r, 0, [34]⟩, ⟨32766, .pa, 0, [28, 35]⟩, ⟨65535, .pa, 0, [21, 36]⟩, ⟨131071, .pa, 0, [37]⟩], 0, [(2, [0]), (6, [0]), (7, [0]), (9, [0]), (13, [0]), (14, [0])]⟩)
 .nil .nil)) .nil))
 (.node none
 (.node (some (.node none
 (.node none
 .nil (.node (some ⟨[⟨0, .pa, 0, [0]⟩, ⟨0, .pa, 0, [3]⟩, ⟨0, .pa, 0, [0]⟩, ⟨0, .pa, 0, [3]⟩, ⟨0, .pa, 0, [0]⟩, ⟨0, .pa, 0, [3]⟩, ⟨48, .pa, 0, [15, 16]⟩, ⟨112, .pa, 0, [17]⟩, ⟨240, .r, 0, [18]⟩, ⟨496, .e, 0, [19]⟩, ⟨0, .pa, 1, [0]⟩, ⟨0, .pa, 1, [3]⟩, ⟨3072, .pa, 1, [21, 22]⟩, ⟨7168, .pa, 1, [23]⟩, ⟨15360, .r, 1, [24]⟩, ⟨32752, .e, 1, [25]⟩, ⟨65523, .pa, 2, [11, 12]⟩, ⟨131059, .pa, 2, [27]⟩, ⟨262131, .e, 2, [28, 20]⟩, ⟨524287, .pa, 3, [13, 14]⟩, ⟨1048575, .pa, 3, [29]⟩, ⟨2097151, .e, 3, [30, 26]⟩], 4, [(8, [0]), (14, [0, 1])]⟩)
 .nil .nil)) .nil))
 .nil (.node (some (.node none
 (.node none
 (.node none
 .nil (.node none
 (.node none
 .nil (.node (some ⟨[⟨0, .pa, 0, [10]⟩, ⟨0, .pa, 0, [10]⟩, ⟨2, .pa, 0, [217]⟩, ⟨6, .pa, 0, [218]⟩, ⟨14, .r, 0, [219]⟩, ⟨0, .pa, 0, [7]⟩, ⟨32, .r, 0, [221]⟩, ⟨126, .pa, 0, [220, 222]⟩, ⟨255, .pa, 0, [216]⟩, ⟨511, .pa, 0, [224]⟩, ⟨1023, .e, 0, [225, 223]⟩], 1, [(4, [0]), (6, [0])]⟩)
 .nil .nil)) .nil)) (.node none
 (.node none
 (.node none
 (.node (some ⟨[⟨0, .pa, 0, [10]⟩, ⟨1, .pa, 0, [142]⟩, ⟨3, .pa, 0, [143]⟩, ⟨7, .r, 0, [144]⟩, ⟨0, .pa, 0, [7]⟩, ⟨16, .r, 0, [146]⟩, ⟨63, .pa, 0, [145, 147]⟩], 0, [(3, [0]), (5, [0])]⟩)
 .nil .nil) (.node (some ⟨[⟨0, .pa, 0, [7]⟩, ⟨1, .r, 0, [188]⟩, ⟨3, .pa, 0, [189]⟩, ⟨7, .pa, 0, [190]⟩, ⟨15, .pa, 0, [191, 7]⟩, ⟨31, .r, 0, [191, 192]⟩, ⟨63, .pa, 0, [191, 193]⟩, ⟨127, .pa, 0, [191, 194]⟩, ⟨255, .pa, 0, [195]⟩, ⟨511, .pa, 0, [196, 10]⟩, ⟨1023, .pa, 0, [196, 197]⟩, ⟨2047, .pa, 0, [196, 198]⟩, ⟨4095, .r, 0, [196, 199]⟩, ⟨511, .pa, 0, [196, 7]⟩, ⟨8703, .r, 0, [196, 201]⟩, ⟨32767, .pa, 0, [196, 200, 202]⟩, ⟨65535, .pa, 0, [196, 203]⟩, ⟨131071, .pa, 0, [196, 204]⟩, ⟨262143, .pa, 0, [205]⟩, ⟨524287, .pa, 0, [206, 10]⟩, ⟨1048575, .pa, 0, [206, 207]⟩, ⟨2097151, .pa, 0, [206, 208]⟩, ⟨4194303, .r, 0, [206, 209]⟩, ⟨524287, .pa, 0, [206, 7]⟩, ⟨8912895, .r, 0, [206, 211]⟩, ⟨33554431, .pa, 0, [206, 210, 212]⟩, ⟨67108863, .pa, 0, [206, 213]⟩, ⟨134217727, .pa, 0, [206, 214]⟩], 0, [(1, [0]), (5, [0]), (12, [0]), (14, [0]), (22, [0]), (24, [0])]⟩)
 .nil .nil)) .nil) .nil)) .nil))
 .nil .nil)) (.node none
 (.node (some (.node none
 (.node (some ⟨[⟨0, .r, 0, [0]⟩, ⟨1, .pa, 0, [3]⟩, ⟨3, .pa, 0, [4]⟩, ⟨7, .r, 0, [5]⟩, ⟨0, .r, 0, [0]⟩, ⟨16, .pa, 0, [7]⟩, ⟨48, .pa, 0, [8]⟩, ⟨112, .pa, 0, [9]⟩, ⟨240, .r, 0, [10]⟩, ⟨511, .pa, 0, [6]⟩, ⟨1023, .pa, 0, [12]⟩, ⟨2047, .e, 0, [13, 11]⟩], 1, [(0, [0]), (3, [0]), (4, [0]), (8, [0])]⟩)
 .nil .nil) .nil))
 .nil .nil) .nil)) (.node none
 (.node (some (.node none
 (.node none
 (.node (some ⟨[⟨0, .pa, 0, []⟩, ⟨0, .r, 0, [4]⟩, ⟨1, .e, 0, [2, 17]⟩, ⟨7, .e, 1, [3, 18]⟩], 2, [(1, [0, 1])]⟩)
 .nil .nil) (.node none
 .nil (.node none
 (.node (some ⟨[⟨0, .pa, 0, [5]⟩, ⟨1, .r, 0, [78]⟩, ⟨0, .pa, 0, [11]⟩, ⟨4, .pa, 0, [80]⟩, ⟨12, .pa, 0, [81]⟩, ⟨28, .r, 0, [82]⟩, ⟨60, .pa, 0, [83]⟩, ⟨127, .e, 0, [79, 84]⟩, ⟨255, .pa, 1, [5]⟩, ⟨511, .e, 1, [86, 85]⟩], 2, [(1, [0]), (5, [0])]⟩)
 .nil .nil) .nil))) .nil))
 (.node none
 (.node (some (.node none
 .nil (.node (some ⟨[⟨0, .r, 0, [2]⟩, ⟨0, .r, 0, [2]⟩, ⟨2, .pa, 0, [9]⟩, ⟨6, .pa, 0, [10]⟩, ⟨14, .pa, 0, [11]⟩, ⟨30, .r, 0, [12]⟩, ⟨0, .r, 0, [3]⟩, ⟨64, .pa, 0, [14]⟩, ⟨254, .e, 0, [13, 15]⟩, ⟨511, .pa, 1, [8]⟩, ⟨1023, .pa, 1, [17]⟩, ⟨2047, .pa, 1, [18]⟩, ⟨4095, .e, 1, [19, 16]⟩], 2, [(0, [0, 1]), (1, [0]), (5, [0]), (6, [0])]⟩)
 .nil .nil)))
 .nil .nil) .nil) .nil) (.node none
 (.node (some (.node none
 (.node (some ⟨[⟨0, .r, 0, [0]⟩, ⟨1, .pa, 0, [4]⟩, ⟨3, .pa, 0, [5]⟩, ⟨7, .r, 0, [6]⟩, ⟨0, .r, 0, [0]⟩, ⟨16, .pa, 0, [8]⟩, ⟨48, .pa, 0, [9]⟩, ⟨112, .r, 0, [10]⟩, ⟨255, .pa, 0, [7, 11]⟩, ⟨511, .pa, 0, [12]⟩], 0, [(0, [0]), (3, [0]), (4, [0]), (7, [0])]⟩)
 .nil .nil) (.node (some ⟨[⟨0, .r, 0, [0]⟩, ⟨1, .pa, 0, [13]⟩, ⟨3, .pa, 0, [14]⟩, ⟨7, .r, 0, [15]⟩, ⟨15, .pa, 0, [16]⟩, ⟨31, .pa, 0, [17]⟩, ⟨63, .r, 0, [18]⟩, ⟨0, .r, 0, [0]⟩, ⟨128, .pa, 0, [20]⟩, ⟨384, .pa, 0, [21]⟩, ⟨896, .r, 0, [22]⟩, ⟨2047, .e, 0, [19, 23]⟩, ⟨4095, .pa, 1, [24]⟩, ⟨8191, .pa, 1, [25, 3]⟩, ⟨16383, .pa, 1, [25, 26]⟩, ⟨32767, .pa, 1, [25, 27]⟩, ⟨65535, .r, 1, [25, 28]⟩, ⟨131071, .pa, 1, [25, 29]⟩, ⟨262143, .pa, 1, [25, 30]⟩], 1, [(0, [0]), (3, [0]), (6, [0]), (7, [0]), (10, [0]), (16, [1])]⟩)
 .nil .nil)))
 (.node (some (.node none
 .nil (.node none
 (.node (some ⟨[⟨0, .pa, 0, [1]⟩, ⟨1, .r, 0, [15]⟩, ⟨3, .pa, 0, [16]⟩, ⟨7, .pa, 0, [17]⟩, ⟨15, .pa, 0, [18, 1]⟩, ⟨31, .r, 0, [18, 19]⟩, ⟨63, .pa, 0, [18, 20]⟩, ⟨127, .pa, 0, [18, 21]⟩, ⟨255, .pa, 0, [22]⟩, ⟨511, .pa, 0, [23, 1]⟩, ⟨1023, .r, 0, [23, 24]⟩, ⟨2047, .e, 0, [23, 25]⟩, ⟨4095, .pa, 1, [23, 26]⟩, ⟨8191, .pa, 1, [23, 27]⟩, ⟨16383, .pa, 1, [28]⟩, ⟨32767, .pa, 1, [29, 1]⟩, ⟨65535, .r, 1, [29, 30]⟩, ⟨131071, .pa, 1, [29, 31]⟩, ⟨262143, .pa, 1, [29, 32]⟩, ⟨524287, .pa, 1, [33]⟩, ⟨1048575, .pa, 1, [34, 1]⟩, ⟨2097151, .r, 1, [34, 35]⟩, ⟨4194303, .r, 1, [34, 36]⟩, ⟨1048575, .pa, 1, [34, 1]⟩, ⟨9437183, .r, 1, [34, 38]⟩, ⟨26214399, .e, 1, [34, 39]⟩, ⟨67108863, .pa, 2, [34, 37, 40]⟩, ⟨134217727, .pa, 2, [34, 41]⟩, ⟨268435455, .pa, 2, [42]⟩, ⟨536870911, .pa, 2, [43, 1]⟩, ⟨1073741823, .r, 2, [43, 44]⟩, ⟨2147483647, .r, 2, [43, 45]⟩, ⟨4294967295, .pa, 2, [43, 46]⟩, ⟨8589934591, .pa, 2, [43, 47]⟩, ⟨17179869183, .pa, 2, [48]⟩, ⟨34359738367, .pa, 2, [49, 3]⟩, ⟨68719476735, .pa, 2, [49, 50]⟩, ⟨137438953471, .pa, 2, [49, 51]⟩, ⟨274877906943, .pa, 2, [52, 1]⟩, ⟨549755813887, .r, 2, [52, 53]⟩, ⟨1099511627775, .pa, 2, [52, 54]⟩, ⟨2199023255551, .pa, 2, [49, 52, 55]⟩, ⟨4398046511103, .pa, 2, [49, 56]⟩], 2, [(1, [0]), (5, [0]), (10, [0]), (16, [1]), (21, [1, 2]), (22, [1, 2]), (24, [1]), (30, [2]), (31, [2]), (39, [2])]⟩)
 .nil .nil) .nil)))
 .nil .nil) .nil) .nil))))))
-- types 262 funcs 225
end Go.As.Try
