import Derived.Test.YtppmloolcbpkgaaGreatDoorAsDraw13
import Derived.Test.YtppmloolcbpkgaaGreatDoorAsSeat
import Derived.KernelRfl
import Derived.Test.YtppmloolcbpkgaaGreatDoorProg
/-
  AS: the tables of the program, laid by program.
-/
namespace Go.As.Try
open Go hiding Stat
open Go.As Go.Proofs
set_option maxRecDepth 100000
def tab : Tr TI := (.node none
 (.node (some ⟨.func, 1, 8, [.nilf], false⟩)
 (.node (some ⟨.int .i64, 1, 8, [.int .i64 (.lit (0))], false⟩)
 (.node (some ⟨.struct [(0, 2, 1), (1, 3, 1), (2, 4, 1), (3, 6, 1)], 4, 24, [.int .i64 (.lit (0)), .int .i64 (.lit (0)), .bool (.lit false), .int .u8 (.lit (0))], true⟩)
 (.node (some ⟨.pointer 372, 1, 8, [.nilp], false⟩)
 (.node (some ⟨.struct [(0, 3, 1), (1, 30, 1), (2, 3, 1), (3, 2, 1), (4, 2, 1)], 5, 40, [.int .i64 (.lit (0)), .int .u8 (.lit (0)), .int .i64 (.lit (0)), .int .i64 (.lit (0)), .int .i64 (.lit (0))], true⟩)
 (.node (some ⟨.func, 1, 8, [.nilf], false⟩)
 (.node (some ⟨.struct [(0, 42, 2), (2, 33, 1)], 3, 72, [.nils, .nils, .nils], false⟩)
 (.node (some ⟨.func, 1, 8, [.nilf], false⟩)
 .nil .nil) .nil) (.node (some ⟨.func, 1, 8, [.nilf], false⟩)
 (.node (some ⟨.func, 1, 8, [.nilf], false⟩)
 .nil .nil) .nil)) (.node none
 (.node (some ⟨.struct [(0, 158, 1), (1, 9, 1), (2, 2, 1), (3, 3, 1), (4, 3, 1), (5, 3, 1)], 6, 56, [.int .u8 (.lit (0)), .str [], .int .i64 (.lit (0)), .int .i64 (.lit (0)), .int .i64 (.lit (0)), .int .i64 (.lit (0))], true⟩)
 (.node (some ⟨.int .u8, 1, 1, [.int .u8 (.lit (0))], false⟩)
 .nil .nil) .nil) (.node none
 (.node (some ⟨.func, 1, 8, [.nilf], false⟩)
 .nil .nil) .nil))) (.node (some ⟨.struct [(0, 3, 1), (1, 2, 1), (2, 4, 1), (3, 2, 1), (4, 33, 1), (5, 46, 1)], 6, 80, [.int .i64 (.lit (0)), .int .i64 (.lit (0)), .bool (.lit false), .int .i64 (.lit (0)), .nils, .nils], false⟩)
 (.node none
 (.node (some ⟨.func, 1, 8, [.nilf], false⟩)
 (.node (some ⟨.int .u32, 1, 4, [.int .u32 (.lit (0))], false⟩)
 .nil .nil) .nil) (.node (some ⟨.func, 1, 8, [.nilf], false⟩)
 (.node (some ⟨.map 9 2, 1, 8, [.nilm], false⟩)
 .nil .nil) .nil)) (.node (some ⟨.struct [(0, 30, 1), (1, 3, 1), (2, 2, 1), (3, 2, 1)], 4, 32, [.int .u8 (.lit (0)), .int .i64 (.lit (0)), .int .i64 (.lit (0)), .int .i64 (.lit (0))], true⟩)
 (.node (some ⟨.struct [(0, 3, 1), (1, 4, 1), (2, 4, 1)], 3, 16, [.int .i64 (.lit (0)), .bool (.lit false), .bool (.lit false)], true⟩)
 (.node (some ⟨.func, 1, 8, [.nilf], false⟩)
 .nil .nil) .nil) (.node (some ⟨.func, 1, 8, [.nilf], false⟩)
 (.node (some ⟨.array 64 5, 64, 64, (repeatL [.int .u8 (.lit (0))] 64), false⟩)
 .nil .nil) .nil)))) (.node (some ⟨.slice 139, 1, 24, [.nils], false⟩)
 (.node (some ⟨.slice 48, 1, 24, [.nils], false⟩)
 (.node (some ⟨.array 12 70, 144, 144, (repeatL [.bool (.lit false)] 144), false⟩)
 (.node (some ⟨.struct [(0, 26, 2), (2, 133, 1)], 3, 56, [.nils, .nils, .nilm], false⟩)
 (.node (some ⟨.int .i64, 1, 8, [.int .i64 (.lit (0))], false⟩)
 .nil .nil) .nil) (.node (some ⟨.struct [(0, 197, 1), (1, 30, 1), (2, 3, 1), (3, 3, 1), (4, 3, 1), (5, 2, 1), (6, 198, 1)], 7, 64, [.int .u8 (.lit (0)), .int .u8 (.lit (0)), .int .i64 (.lit (0)), .int .i64 (.lit (0)), .int .i64 (.lit (0)), .int .i64 (.lit (0)), .nils], false⟩)
 (.node (some ⟨.int .u64, 1, 8, [.int .u64 (.lit (0))], false⟩)
 .nil .nil) .nil)) (.node (some ⟨.func, 1, 8, [.nilf], false⟩)
 (.node (some ⟨.func, 1, 8, [.nilf], false⟩)
 (.node (some ⟨.struct [(0, 293, 1), (1, 59, 1)], 2, 32, [.nilp, .nils], false⟩)
 .nil .nil) .nil) (.node (some ⟨.func, 1, 8, [.nilf], false⟩)
 (.node (some ⟨.func, 1, 8, [.nilf], false⟩)
 .nil .nil) .nil))) (.node (some ⟨.func, 1, 8, [.nilf], false⟩)
 (.node (some ⟨.struct [(0, 23, 1), (1, 85, 1)], 2, 48, [.nils, .nils], false⟩)
 (.node (some ⟨.func, 1, 8, [.nilf], false⟩)
 (.node (some ⟨.func, 1, 8, [.nilf], false⟩)
 .nil .nil) .nil) (.node (some ⟨.func, 1, 8, [.nilf], false⟩)
 (.node (some ⟨.func, 1, 8, [.nilf], false⟩)
 .nil .nil) .nil)) (.node (some ⟨.pointer 123, 1, 8, [.nilp], false⟩)
 (.node (some ⟨.func, 1, 8, [.nilf], false⟩)
 (.node (some ⟨.func, 1, 8, [.nilf], false⟩)
 .nil .nil) .nil) (.node (some ⟨.func, 1, 8, [.nilf], false⟩)
 (.node (some ⟨.struct [(0, 373, 0)], 0, 0, [], false⟩)
 .nil .nil) .nil))))) (.node (some ⟨.string, 1, 16, [.str []], false⟩)
 (.node (some ⟨.struct [(0, 17, 1)], 1, 8, [.nilp], false⟩)
 (.node (some ⟨.func, 1, 8, [.nilf], false⟩)
 (.node (some ⟨.func, 1, 8, [.nilf], false⟩)
 (.node (some ⟨.func, 1, 8, [.nilf], false⟩)
 (.node (some ⟨.func, 1, 8, [.nilf], false⟩)
 .nil .nil) .nil) (.node (some ⟨.func, 1, 8, [.nilf], false⟩)
 (.node (some ⟨.func, 1, 8, [.nilf], false⟩)
 .nil .nil) .nil)) (.node (some ⟨.struct [(0, 33, 1), (1, 3, 1), (2, 4, 1), (3, 4, 1)], 4, 40, [.nils, .int .i64 (.lit (0)), .bool (.lit false), .bool (.lit false)], false⟩)
 (.node (some ⟨.func, 1, 8, [.nilf], false⟩)
 .nil .nil) (.node (some ⟨.func, 1, 8, [.nilf], false⟩)
 (.node (some ⟨.func, 1, 8, [.nilf], false⟩)
 .nil .nil) .nil))) (.node none
 (.node (some ⟨.func, 1, 8, [.nilf], false⟩)
 (.node (some ⟨.func, 1, 8, [.nilf], false⟩)
 (.node (some ⟨.func, 1, 8, [.nilf], false⟩)
 .nil .nil) .nil) (.node (some ⟨.func, 1, 8, [.nilf], false⟩)
 (.node (some ⟨.func, 1, 8, [.nilf], false⟩)
 .nil .nil) .nil)) (.node (some ⟨.func, 1, 8, [.nilf], false⟩)
 (.node (some ⟨.pointer 181, 1, 8, [.nilp], false⟩)
 (.node (some ⟨.pointer 304, 1, 8, [.nilp], false⟩)
 .nil .nil) .nil) (.node (some ⟨.struct [(0, 241, 1), (1, 30, 1), (2, 9, 1), (3, 9, 1), (4, 2, 1), (5, 198, 1), (6, 168, 1), (7, 168, 1), (8, 3, 1)], 9, 128, [.int .u8 (.lit (0)), .int .u8 (.lit (0)), .str [], .str [], .int .i64 (.lit (0)), .nils, .nils, .nils, .int .i64 (.lit (0))], false⟩)
 (.node (some ⟨.struct [(0, 17, 1), (1, 17, 1), (2, 17, 1), (3, 9, 1)], 4, 40, [.nilp, .nilp, .nilp, .str []], false⟩)
 .nil .nil) .nil)))) (.node (some ⟨.func, 1, 8, [.nilf], false⟩)
 (.node (some ⟨.int .i64, 1, 8, [.int .i64 (.lit (0))], false⟩)
 (.node (some ⟨.slice 33, 1, 24, [.nils], false⟩)
 (.node (some ⟨.struct [(0, 136, 1), (1, 9, 1), (2, 2, 1), (3, 9, 1), (4, 3, 1)], 5, 56, [.int .u8 (.lit (0)), .str [], .int .i64 (.lit (0)), .str [], .int .i64 (.lit (0))], true⟩)
 (.node (some ⟨.func, 1, 8, [.nilf], false⟩)
 .nil .nil) .nil) (.node (some ⟨.struct [(0, 202, 1), (1, 9, 1), (2, 2, 1), (3, 198, 1)], 4, 56, [.int .u8 (.lit (0)), .str [], .int .i64 (.lit (0)), .nils], false⟩)
 (.node (some ⟨.pointer 3, 1, 8, [.nilp], false⟩)
 .nil .nil) .nil)) (.node (some ⟨.slice 200, 1, 24, [.nils], false⟩)
 (.node (some ⟨.func, 1, 8, [.nilf], false⟩)
 (.node (some ⟨.func, 1, 8, [.nilf], false⟩)
 .nil .nil) .nil) (.node (some ⟨.func, 1, 8, [.nilf], false⟩)
 (.node (some ⟨.func, 1, 8, [.nilf], false⟩)
 .nil .nil) .nil))) (.node (some ⟨.slice 5, 1, 24, [.nils], false⟩)
 (.node (some ⟨.func, 1, 8, [.nilf], false⟩)
 (.node (some ⟨.func, 1, 8, [.nilf], false⟩)
 (.node (some ⟨.func, 1, 8, [.nilf], false⟩)
 .nil .nil) .nil) (.node (some ⟨.func, 1, 8, [.nilf], false⟩)
 (.node (some ⟨.func, 1, 8, [.nilf], false⟩)
 .nil .nil) .nil)) (.node (some ⟨.struct [(0, 121, 1), (1, 120, 1)], 2, 32, [.nils, .nilm], false⟩)
 (.node (some ⟨.map 261 3, 1, 8, [.nilm], false⟩)
 (.node (some ⟨.func, 1, 8, [.nilf], false⟩)
 .nil .nil) .nil) (.node (some ⟨.struct [(0, 249, 1), (1, 120, 1)], 2, 16, [.nilm, .nilm], false⟩)
 (.node (some ⟨.int .i32, 1, 4, [.int .i32 (.lit (0))], false⟩)
 .nil .nil) .nil)))))) (.node (some ⟨.int .u8, 1, 1, [.int .u8 (.lit (0))], false⟩)
 (.node (some ⟨.string, 1, 16, [.str []], false⟩)
 (.node (some ⟨.pointer 382, 1, 8, [.nilp], false⟩)
 (.node (some ⟨.slice 3, 1, 24, [.nils], false⟩)
 (.node none
 (.node (some ⟨.pointer 61, 1, 8, [.nilp], false⟩)
 (.node (some ⟨.func, 1, 8, [.nilf], false⟩)
 .nil .nil) .nil) (.node (some ⟨.func, 1, 8, [.nilf], false⟩)
 .nil .nil)) (.node (some ⟨.func, 1, 8, [.nilf], false⟩)
 (.node (some ⟨.struct [(0, 9, 1), (1, 160, 6), (7, 89, 2), (9, 3, 1)], 10, 96, [.str [], .int .u8 (.lit (0)), .str [], .int .i64 (.lit (0)), .int .i64 (.lit (0)), .int .i64 (.lit (0)), .int .i64 (.lit (0)), .int .i64 (.lit (0)), .int .i64 (.lit (0)), .int .i64 (.lit (0))], false⟩)
 (.node (some ⟨.array 24 5, 24, 24, (repeatL [.int .u8 (.lit (0))] 24), false⟩)
 .nil .nil) .nil) (.node (some ⟨.func, 1, 8, [.nilf], false⟩)
 (.node (some ⟨.func, 1, 8, [.nilf], false⟩)
 .nil .nil) .nil))) (.node (some ⟨.func, 1, 8, [.nilf], false⟩)
 (.node (some ⟨.func, 1, 8, [.nilf], false⟩)
 (.node (some ⟨.func, 1, 8, [.nilf], false⟩)
 (.node (some ⟨.int .u64, 1, 8, [.int .u64 (.lit (0))], false⟩)
 .nil .nil) .nil) (.node (some ⟨.pointer 48, 1, 8, [.nilp], false⟩)
 (.node (some ⟨.func, 1, 8, [.nilf], false⟩)
 .nil .nil) .nil)) (.node none
 (.node (some ⟨.func, 1, 8, [.nilf], false⟩)
 (.node (some ⟨.func, 1, 8, [.nilf], false⟩)
 .nil .nil) .nil) (.node (some ⟨.int .u8, 1, 1, [.int .u8 (.lit (0))], false⟩)
 .nil .nil)))) (.node (some ⟨.struct [(0, 23, 1), (1, 24, 1)], 2, 48, [.nils, .nils], false⟩)
 (.node (some ⟨.struct [(0, 39, 1), (1, 40, 1)], 2, 48, [.nils, .nils], false⟩)
 (.node (some ⟨.array 2 3, 2, 16, [.int .i64 (.lit (0)), .int .i64 (.lit (0))], false⟩)
 (.node (some ⟨.func, 1, 8, [.nilf], false⟩)
 (.node (some ⟨.func, 1, 8, [.nilf], false⟩)
 .nil .nil) .nil) (.node (some ⟨.func, 1, 8, [.nilf], false⟩)
 (.node (some ⟨.func, 1, 8, [.nilf], false⟩)
 .nil .nil) .nil)) (.node (some ⟨.func, 1, 8, [.nilf], false⟩)
 (.node (some ⟨.struct [(0, 9, 1), (1, 168, 1), (2, 3, 1)], 3, 48, [.str [], .nils, .int .i64 (.lit (0))], false⟩)
 (.node (some ⟨.iface false, 1, 16, [.nili], false⟩)
 .nil .nil) .nil) (.node (some ⟨.func, 1, 8, [.nilf], false⟩)
 (.node (some ⟨.func, 1, 8, [.nilf], false⟩)
 .nil .nil) .nil))) (.node (some ⟨.func, 1, 8, [.nilf], false⟩)
 (.node (some ⟨.struct [(0, 43, 1), (1, 3, 1)], 2, 16, [.int .i64 (.lit (0)), .int .i64 (.lit (0))], true⟩)
 (.node (some ⟨.func, 1, 8, [.nilf], false⟩)
 (.node (some ⟨.struct [(0, 3, 1), (1, 209, 1), (2, 2, 1), (3, 39, 1), (4, 112, 4)], 8, 80, [.int .i64 (.lit (0)), .nilp, .int .i64 (.lit (0)), .nils, .int .u8 (.lit (0)), .int .i64 (.lit (0)), .int .i64 (.lit (0)), .int .i64 (.lit (0))], false⟩)
 .nil .nil) .nil) (.node (some ⟨.func, 1, 8, [.nilf], false⟩)
 (.node (some ⟨.func, 1, 8, [.nilf], false⟩)
 .nil .nil) .nil)) (.node (some ⟨.slice 128, 1, 24, [.nils], false⟩)
 (.node (some ⟨.func, 1, 8, [.nilf], false⟩)
 (.node (some ⟨.array 23 9, 23, 368, (repeatL [.str []] 23), false⟩)
 .nil .nil) .nil) (.node (some ⟨.map 9 136, 1, 8, [.nilm], false⟩)
 (.node (some ⟨.int .u8, 1, 1, [.int .u8 (.lit (0))], false⟩)
 .nil .nil) .nil))))) (.node (some ⟨.struct [(0, 9, 1), (1, 12, 1)], 2, 24, [.str [], .int .u64 (.lit (0))], false⟩)
 (.node (some ⟨.int .i32, 1, 4, [.int .i32 (.lit (0))], false⟩)
 (.node (some ⟨.func, 1, 8, [.nilf], false⟩)
 (.node (some ⟨.slice 73, 1, 24, [.nils], false⟩)
 (.node (some ⟨.map 3 144, 1, 8, [.nilm], false⟩)
 (.node (some ⟨.struct [(0, 3, 1), (1, 3, 1)], 2, 16, [.int .i64 (.lit (0)), .int .i64 (.lit (0))], true⟩)
 .nil .nil) .nil) (.node (some ⟨.int .u8, 1, 1, [.int .u8 (.lit (0))], false⟩)
 (.node (some ⟨.func, 1, 8, [.nilf], false⟩)
 .nil .nil) .nil)) (.node (some ⟨.func, 1, 8, [.nilf], false⟩)
 (.node (some ⟨.func, 1, 8, [.nilf], false⟩)
 (.node (some ⟨.pointer 295, 1, 8, [.nilp], false⟩)
 .nil .nil) .nil) (.node (some ⟨.func, 1, 8, [.nilf], false⟩)
 (.node (some ⟨.pointer 327, 1, 8, [.nilp], false⟩)
 .nil .nil) .nil))) (.node (some ⟨.struct [(0, 3, 1), (1, 46, 1), (2, 30, 1), (3, 3, 1), (4, 2, 1), (5, 2, 1)], 6, 64, [.int .i64 (.lit (0)), .nils, .int .u8 (.lit (0)), .int .i64 (.lit (0)), .int .i64 (.lit (0)), .int .i64 (.lit (0))], false⟩)
 (.node (some ⟨.slice 170, 1, 24, [.nils], false⟩)
 (.node (some ⟨.func, 1, 8, [.nilf], false⟩)
 (.node (some ⟨.struct [(0, 3, 1), (1, 3, 1)], 2, 16, [.int .i64 (.lit (0)), .int .i64 (.lit (0))], true⟩)
 .nil .nil) .nil) (.node (some ⟨.map 197 1, 1, 8, [.nilm], false⟩)
 (.node (some ⟨.array 65 5, 65, 65, (repeatL [.int .u8 (.lit (0))] 65), false⟩)
 .nil .nil) .nil)) (.node none
 (.node (some ⟨.struct [(0, 120, 1), (1, 109, 3), (4, 3, 1)], 5, 80, [.nilm, .str [], .nils, .nils, .int .i64 (.lit (0))], false⟩)
 .nil .nil) (.node (some ⟨.func, 1, 8, [.nilf], false⟩)
 (.node (some ⟨.array 0 16, 0, 0, [], false⟩)
 .nil .nil) .nil)))) (.node (some ⟨.array 2 22, 4, 4, [.bool (.lit false), .bool (.lit false), .bool (.lit false), .bool (.lit false)], false⟩)
 (.node (some ⟨.func, 1, 8, [.nilf], false⟩)
 (.node (some ⟨.func, 1, 8, [.nilf], false⟩)
 (.node none
 (.node (some ⟨.func, 1, 8, [.nilf], false⟩)
 .nil .nil) .nil) (.node (some ⟨.func, 1, 8, [.nilf], false⟩)
 (.node (some ⟨.struct [(0, 4, 1)], 1, 1, [.bool (.lit false)], true⟩)
 .nil .nil) .nil)) (.node (some ⟨.struct [(0, 9, 1), (1, 106, 1), (2, 107, 1)], 3, 64, [.str [], .nils, .nils], false⟩)
 (.node (some ⟨.func, 1, 8, [.nilf], false⟩)
 (.node (some ⟨.func, 1, 8, [.nilf], false⟩)
 .nil .nil) .nil) (.node (some ⟨.func, 1, 8, [.nilf], false⟩)
 (.node (some ⟨.array 2 106, 2, 48, [.nils, .nils], false⟩)
 .nil .nil) .nil))) (.node (some ⟨.struct [(0, 3, 1), (1, 4, 1), (2, 33, 1), (3, 4, 1), (4, 33, 1), (5, 4, 1)], 6, 80, [.int .i64 (.lit (0)), .bool (.lit false), .nils, .bool (.lit false), .nils, .bool (.lit false)], false⟩)
 (.node (some ⟨.func, 1, 8, [.nilf], false⟩)
 (.node (some ⟨.pointer 162, 1, 8, [.nilp], false⟩)
 (.node (some ⟨.map 30 283, 1, 8, [.nilm], false⟩)
 .nil .nil) .nil) (.node (some ⟨.struct [(0, 3, 1), (1, 74, 1), (2, 2, 1), (3, 2, 1), (4, 4, 1), (5, 46, 1)], 6, 64, [.int .i64 (.lit (0)), .nilm, .int .i64 (.lit (0)), .int .i64 (.lit (0)), .bool (.lit false), .nils], false⟩)
 (.node (some ⟨.func, 1, 8, [.nilf], false⟩)
 .nil .nil) .nil)) (.node (some ⟨.func, 1, 8, [.nilf], false⟩)
 (.node (some ⟨.struct [(0, 26, 2), (2, 187, 1)], 3, 56, [.nils, .nils, .nilm], false⟩)
 (.node (some ⟨.func, 1, 8, [.nilf], false⟩)
 .nil .nil) .nil) (.node (some ⟨.func, 1, 8, [.nilf], false⟩)
 (.node (some ⟨.struct [(0, 12, 1), (1, 12, 1), (2, 271, 1), (3, 376, 1), (4, 5, 1), (5, 5, 1), (6, 377, 1), (7, 378, 1), (8, 342, 1), (9, 379, 1), (10, 380, 1)], 11, 48, [.int .u64 (.lit (0)), .int .u64 (.lit (0)), .int .u32 (.lit (0)), .int .u8 (.lit (0)), .int .u8 (.lit (0)), .int .u8 (.lit (0)), .int .u8 (.lit (0)), .nilf, .nilp, .int .i32 (.lit (0)), .int .i32 (.lit (0))], false⟩)
 .nil .nil) .nil))))))) (.node (some ⟨.int .i64, 1, 8, [.int .i64 (.lit (0))], false⟩)
 (.node (some ⟨.bool, 1, 1, [.bool (.lit false)], false⟩)
 (.node (some ⟨.struct [(0, 2, 1), (1, 3, 1), (2, 4, 1), (3, 6, 1)], 4, 24, [.int .i64 (.lit (0)), .int .i64 (.lit (0)), .bool (.lit false), .int .u8 (.lit (0))], true⟩)
 (.node (some ⟨.pointer 375, 1, 8, [.nilp], false⟩)
 (.node (some ⟨.struct [(0, 3, 1), (1, 30, 1), (2, 3, 1), (3, 2, 1), (4, 2, 1)], 5, 40, [.int .i64 (.lit (0)), .int .u8 (.lit (0)), .int .i64 (.lit (0)), .int .i64 (.lit (0)), .int .i64 (.lit (0))], true⟩)
 (.node (some ⟨.func, 1, 8, [.nilf], false⟩)
 (.node (some ⟨.struct [(0, 42, 2), (2, 33, 1)], 3, 72, [.nils, .nils, .nils], false⟩)
 (.node (some ⟨.func, 1, 8, [.nilf], false⟩)
 .nil .nil) .nil) (.node (some ⟨.func, 1, 8, [.nilf], false⟩)
 (.node (some ⟨.func, 1, 8, [.nilf], false⟩)
 .nil .nil) .nil)) (.node (some ⟨.map 3 94, 1, 8, [.nilm], false⟩)
 (.node (some ⟨.struct [(0, 158, 1), (1, 9, 1), (2, 2, 1), (3, 3, 1), (4, 3, 1), (5, 3, 1)], 6, 56, [.int .u8 (.lit (0)), .str [], .int .i64 (.lit (0)), .int .i64 (.lit (0)), .int .i64 (.lit (0)), .int .i64 (.lit (0))], true⟩)
 .nil .nil) (.node (some ⟨.func, 1, 8, [.nilf], false⟩)
 (.node (some ⟨.func, 1, 8, [.nilf], false⟩)
 .nil .nil) .nil))) (.node (some ⟨.struct [(0, 3, 1), (1, 2, 1), (2, 4, 1), (3, 2, 1), (4, 33, 1), (5, 46, 1)], 6, 80, [.int .i64 (.lit (0)), .int .i64 (.lit (0)), .bool (.lit false), .int .i64 (.lit (0)), .nils, .nils], false⟩)
 (.node (some ⟨.func, 1, 8, [.nilf], false⟩)
 (.node (some ⟨.pointer 221, 1, 8, [.nilp], false⟩)
 (.node (some ⟨.func, 1, 8, [.nilf], false⟩)
 .nil .nil) .nil) (.node (some ⟨.func, 1, 8, [.nilf], false⟩)
 (.node (some ⟨.array 27 136, 27, 27, (repeatL [.int .u8 (.lit (0))] 27), false⟩)
 .nil .nil) .nil)) (.node (some ⟨.struct [(0, 30, 1), (1, 3, 1), (2, 2, 1), (3, 2, 1)], 4, 32, [.int .u8 (.lit (0)), .int .i64 (.lit (0)), .int .i64 (.lit (0)), .int .i64 (.lit (0))], true⟩)
 (.node (some ⟨.struct [(0, 3, 1), (1, 4, 1), (2, 4, 1)], 3, 16, [.int .i64 (.lit (0)), .bool (.lit false), .bool (.lit false)], true⟩)
 (.node (some ⟨.array 256 5, 256, 256, (repeatL [.int .u8 (.lit (0))] 256), false⟩)
 .nil .nil) .nil) (.node (some ⟨.func, 1, 8, [.nilf], false⟩)
 (.node (some ⟨.func, 1, 8, [.nilf], false⟩)
 .nil .nil) .nil)))) (.node (some ⟨.slice 109, 1, 24, [.nils], false⟩)
 (.node (some ⟨.slice 54, 1, 24, [.nils], false⟩)
 (.node (some ⟨.func, 1, 8, [.nilf], false⟩)
 (.node (some ⟨.int .u8, 1, 1, [.int .u8 (.lit (0))], false⟩)
 .nil .nil) (.node (some ⟨.struct [(0, 197, 1), (1, 30, 1), (2, 3, 1), (3, 3, 1), (4, 3, 1), (5, 2, 1), (6, 198, 1)], 7, 64, [.int .u8 (.lit (0)), .int .u8 (.lit (0)), .int .i64 (.lit (0)), .int .i64 (.lit (0)), .int .i64 (.lit (0)), .int .i64 (.lit (0)), .nils], false⟩)
 (.node (some ⟨.func, 1, 8, [.nilf], false⟩)
 .nil .nil) .nil)) (.node (some ⟨.func, 1, 8, [.nilf], false⟩)
 (.node (some ⟨.slice 243, 1, 24, [.nils], false⟩)
 (.node (some ⟨.iface false, 1, 16, [.nili], false⟩)
 .nil .nil) .nil) .nil)) (.node (some ⟨.func, 1, 8, [.nilf], false⟩)
 (.node (some ⟨.struct [(0, 43, 1), (1, 3, 1)], 2, 16, [.int .i64 (.lit (0)), .int .i64 (.lit (0))], true⟩)
 (.node (some ⟨.map 3 33, 1, 8, [.nilm], false⟩)
 (.node (some ⟨.pointer 282, 1, 8, [.nilp], false⟩)
 .nil .nil) .nil) (.node (some ⟨.func, 1, 8, [.nilf], false⟩)
 (.node (some ⟨.func, 1, 8, [.nilf], false⟩)
 .nil .nil) .nil)) (.node (some ⟨.map 9 3, 1, 8, [.nilm], false⟩)
 (.node (some ⟨.func, 1, 8, [.nilf], false⟩)
 (.node (some ⟨.func, 1, 8, [.nilf], false⟩)
 .nil .nil) .nil) (.node (some ⟨.pointer 251, 1, 8, [.nilp], false⟩)
 (.node (some ⟨.int .u8, 1, 1, [.int .u8 (.lit (0))], false⟩)
 .nil .nil) .nil))))) (.node (some ⟨.int .u64, 1, 8, [.int .u64 (.lit (0))], false⟩)
 (.node (some ⟨.iface true, 1, 16, [.nili], false⟩)
 (.node (some ⟨.func, 1, 8, [.nilf], false⟩)
 (.node (some ⟨.func, 1, 8, [.nilf], false⟩)
 (.node (some ⟨.pointer 135, 1, 8, [.nilp], false⟩)
 (.node (some ⟨.struct [(0, 3, 1), (1, 3, 1)], 2, 16, [.int .i64 (.lit (0)), .int .i64 (.lit (0))], true⟩)
 .nil .nil) .nil) (.node (some ⟨.func, 1, 8, [.nilf], false⟩)
 (.node (some ⟨.array 2 168, 2, 48, [.nils, .nils], false⟩)
 .nil .nil) .nil)) (.node (some ⟨.struct [(0, 33, 1), (1, 3, 1), (2, 4, 1), (3, 4, 1)], 4, 40, [.nils, .int .i64 (.lit (0)), .bool (.lit false), .bool (.lit false)], false⟩)
 (.node (some ⟨.array 9 9, 9, 144, [.str [], .str [], .str [], .str [], .str [], .str [], .str [], .str [], .str []], false⟩)
 (.node (some ⟨.func, 1, 8, [.nilf], false⟩)
 .nil .nil) .nil) (.node (some ⟨.func, 1, 8, [.nilf], false⟩)
 (.node (some ⟨.func, 1, 8, [.nilf], false⟩)
 .nil .nil) .nil))) (.node (some ⟨.func, 1, 8, [.nilf], false⟩)
 (.node (some ⟨.func, 1, 8, [.nilf], false⟩)
 (.node (some ⟨.func, 1, 8, [.nilf], false⟩)
 (.node (some ⟨.pointer 278, 1, 8, [.nilp], false⟩)
 .nil .nil) .nil) (.node (some ⟨.pointer 54, 1, 8, [.nilp], false⟩)
 (.node (some ⟨.array 20 273, 20, 160, (repeatL [.int .u64 (.lit (0))] 20), false⟩)
 .nil .nil) .nil)) (.node (some ⟨.pointer 42, 1, 8, [.nilp], false⟩)
 (.node (some ⟨.struct [(0, 120, 1), (1, 109, 3), (4, 3, 1)], 5, 80, [.nilm, .str [], .nils, .nils, .int .i64 (.lit (0))], false⟩)
 (.node (some ⟨.func, 1, 8, [.nilf], false⟩)
 .nil .nil) .nil) (.node (some ⟨.func, 1, 8, [.nilf], false⟩)
 (.node (some ⟨.struct [(0, 17, 1), (1, 17, 1), (2, 17, 1), (3, 9, 1)], 4, 40, [.nilp, .nilp, .nilp, .str []], false⟩)
 .nil .nil) .nil)))) (.node (some ⟨.slice 32, 1, 24, [.nils], false⟩)
 (.node none
 (.node (some ⟨.func, 1, 8, [.nilf], false⟩)
 (.node (some ⟨.func, 1, 8, [.nilf], false⟩)
 (.node (some ⟨.func, 1, 8, [.nilf], false⟩)
 .nil .nil) .nil) (.node (some ⟨.struct [(0, 202, 1), (1, 9, 1), (2, 2, 1), (3, 198, 1)], 4, 56, [.int .u8 (.lit (0)), .str [], .int .i64 (.lit (0)), .nils], false⟩)
 (.node (some ⟨.func, 1, 8, [.nilf], false⟩)
 .nil .nil) .nil)) (.node (some ⟨.struct [(0, 9, 1), (1, 106, 1), (2, 107, 1)], 3, 64, [.str [], .nils, .nils], false⟩)
 (.node (some ⟨.func, 1, 8, [.nilf], false⟩)
 (.node (some ⟨.func, 1, 8, [.nilf], false⟩)
 .nil .nil) .nil) (.node (some ⟨.func, 1, 8, [.nilf], false⟩)
 (.node (some ⟨.func, 1, 8, [.nilf], false⟩)
 .nil .nil) .nil))) (.node (some ⟨.struct [(0, 3, 1), (1, 4, 1), (2, 33, 1), (3, 4, 1), (4, 33, 1), (5, 4, 1)], 6, 80, [.int .i64 (.lit (0)), .bool (.lit false), .nils, .bool (.lit false), .nils, .bool (.lit false)], false⟩)
 (.node none
 (.node (some ⟨.func, 1, 8, [.nilf], false⟩)
 .nil .nil) (.node (some ⟨.struct [(0, 3, 1), (1, 74, 1), (2, 2, 1), (3, 2, 1), (4, 4, 1), (5, 46, 1)], 6, 64, [.int .i64 (.lit (0)), .nilm, .int .i64 (.lit (0)), .int .i64 (.lit (0)), .bool (.lit false), .nils], false⟩)
 (.node (some ⟨.slice 136, 1, 24, [.nils], false⟩)
 .nil .nil) .nil)) (.node (some ⟨.func, 1, 8, [.nilf], false⟩)
 (.node (some ⟨.struct [(0, 26, 2), (2, 187, 1)], 3, 56, [.nils, .nils, .nilm], false⟩)
 (.node (some ⟨.pointer 243, 1, 8, [.nilp], false⟩)
 .nil .nil) .nil) (.node (some ⟨.func, 1, 8, [.nilf], false⟩)
 (.node (some ⟨.int .i32, 1, 4, [.int .i32 (.lit (0))], false⟩)
 .nil .nil) .nil)))))) (.node (some ⟨.int .u8, 1, 1, [.int .u8 (.lit (0))], false⟩)
 (.node (some ⟨.string, 1, 16, [.str []], false⟩)
 (.node (some ⟨.struct [(0, 17, 1)], 1, 8, [.nilp], false⟩)
 (.node none
 (.node (some ⟨.func, 1, 8, [.nilf], false⟩)
 (.node none
 (.node (some ⟨.func, 1, 8, [.nilf], false⟩)
 .nil .nil) .nil) (.node (some ⟨.int .u64, 1, 8, [.int .u64 (.lit (0))], false⟩)
 (.node (some ⟨.func, 1, 8, [.nilf], false⟩)
 .nil .nil) .nil)) (.node (some ⟨.func, 1, 8, [.nilf], false⟩)
 (.node (some ⟨.struct [(0, 9, 1), (1, 160, 6), (7, 89, 2), (9, 3, 1)], 10, 96, [.str [], .int .u8 (.lit (0)), .str [], .int .i64 (.lit (0)), .int .i64 (.lit (0)), .int .i64 (.lit (0)), .int .i64 (.lit (0)), .int .i64 (.lit (0)), .int .i64 (.lit (0)), .int .i64 (.lit (0))], false⟩)
 (.node (some ⟨.func, 1, 8, [.nilf], false⟩)
 .nil .nil) .nil) (.node (some ⟨.func, 1, 8, [.nilf], false⟩)
 (.node (some ⟨.func, 1, 8, [.nilf], false⟩)
 .nil .nil) .nil))) (.node (some ⟨.int .u8, 1, 1, [.int .u8 (.lit (0))], false⟩)
 (.node (some ⟨.func, 1, 8, [.nilf], false⟩)
 (.node (some ⟨.map 3 74, 1, 8, [.nilm], false⟩)
 (.node (some ⟨.func, 1, 8, [.nilf], false⟩)
 .nil .nil) .nil) (.node (some ⟨.func, 1, 8, [.nilf], false⟩)
 (.node (some ⟨.func, 1, 8, [.nilf], false⟩)
 .nil .nil) .nil)) (.node (some ⟨.func, 1, 8, [.nilf], false⟩)
 (.node (some ⟨.func, 1, 8, [.nilf], false⟩)
 (.node (some ⟨.func, 1, 8, [.nilf], false⟩)
 .nil .nil) .nil) (.node (some ⟨.struct [(0, 241, 1), (1, 30, 1), (2, 9, 1), (3, 9, 1), (4, 2, 1), (5, 198, 1), (6, 168, 1), (7, 168, 1), (8, 3, 1)], 9, 128, [.int .u8 (.lit (0)), .int .u8 (.lit (0)), .str [], .str [], .int .i64 (.lit (0)), .nils, .nils, .nils, .int .i64 (.lit (0))], false⟩)
 (.node (some ⟨.func, 1, 8, [.nilf], false⟩)
 .nil .nil) .nil)))) (.node (some ⟨.struct [(0, 23, 1), (1, 24, 1)], 2, 48, [.nils, .nils], false⟩)
 (.node (some ⟨.struct [(0, 39, 1), (1, 40, 1)], 2, 48, [.nils, .nils], false⟩)
 (.node (some ⟨.map 3 3, 1, 8, [.nilm], false⟩)
 (.node (some ⟨.struct [(0, 136, 1), (1, 9, 1), (2, 2, 1), (3, 9, 1), (4, 3, 1)], 5, 56, [.int .u8 (.lit (0)), .str [], .int .i64 (.lit (0)), .str [], .int .i64 (.lit (0))], true⟩)
 (.node (some ⟨.func, 1, 8, [.nilf], false⟩)
 .nil .nil) .nil) (.node (some ⟨.int .u8, 1, 1, [.int .u8 (.lit (0))], false⟩)
 (.node (some ⟨.func, 1, 8, [.nilf], false⟩)
 .nil .nil) .nil)) (.node (some ⟨.slice 9, 1, 24, [.nils], false⟩)
 (.node (some ⟨.struct [(0, 9, 1), (1, 168, 1), (2, 3, 1)], 3, 48, [.str [], .nils, .int .i64 (.lit (0))], false⟩)
 .nil .nil) (.node (some ⟨.func, 1, 8, [.nilf], false⟩)
 (.node (some ⟨.func, 1, 8, [.nilf], false⟩)
 .nil .nil) .nil))) (.node (some ⟨.array 3 5, 3, 3, [.int .u8 (.lit (0)), .int .u8 (.lit (0)), .int .u8 (.lit (0))], false⟩)
 (.node none
 (.node (some ⟨.func, 1, 8, [.nilf], false⟩)
 (.node (some ⟨.struct [(0, 3, 1), (1, 209, 1), (2, 2, 1), (3, 39, 1), (4, 112, 4)], 8, 80, [.int .i64 (.lit (0)), .nilp, .int .i64 (.lit (0)), .nils, .int .u8 (.lit (0)), .int .i64 (.lit (0)), .int .i64 (.lit (0)), .int .i64 (.lit (0))], false⟩)
 .nil .nil) .nil) (.node (some ⟨.func, 1, 8, [.nilf], false⟩)
 (.node (some ⟨.func, 1, 8, [.nilf], false⟩)
 .nil .nil) .nil)) (.node (some ⟨.struct [(0, 121, 1), (1, 120, 1)], 2, 32, [.nils, .nilm], false⟩)
 (.node (some ⟨.pointer 189, 1, 8, [.nilp], false⟩)
 (.node (some ⟨.func, 1, 8, [.nilf], false⟩)
 .nil .nil) .nil) (.node (some ⟨.struct [(0, 249, 1), (1, 120, 1)], 2, 16, [.nilm, .nilm], false⟩)
 (.node (some ⟨.func, 1, 8, [.nilf], false⟩)
 .nil .nil) .nil))))) (.node (some ⟨.struct [(0, 9, 1), (1, 12, 1)], 2, 24, [.str [], .int .u64 (.lit (0))], false⟩)
 (.node (some ⟨.array 2 4, 2, 2, [.bool (.lit false), .bool (.lit false)], false⟩)
 (.node (some ⟨.func, 1, 8, [.nilf], false⟩)
 (.node (some ⟨.array 12 4, 12, 12, [.bool (.lit false), .bool (.lit false), .bool (.lit false), .bool (.lit false), .bool (.lit false), .bool (.lit false), .bool (.lit false), .bool (.lit false), .bool (.lit false), .bool (.lit false), .bool (.lit false), .bool (.lit false)], false⟩)
 (.node (some ⟨.struct [(0, 26, 2), (2, 133, 1)], 3, 56, [.nils, .nils, .nilm], false⟩)
 (.node (some ⟨.func, 1, 8, [.nilf], false⟩)
 .nil .nil) .nil) (.node (some ⟨.slice 204, 1, 24, [.nils], false⟩)
 (.node (some ⟨.func, 1, 8, [.nilf], false⟩)
 .nil .nil) .nil)) (.node (some ⟨.func, 1, 8, [.nilf], false⟩)
 (.node (some ⟨.func, 1, 8, [.nilf], false⟩)
 (.node (some ⟨.struct [(0, 293, 1), (1, 59, 1)], 2, 32, [.nilp, .nils], false⟩)
 .nil .nil) .nil) (.node (some ⟨.func, 1, 8, [.nilf], false⟩)
 .nil .nil))) (.node (some ⟨.struct [(0, 3, 1), (1, 46, 1), (2, 30, 1), (3, 3, 1), (4, 2, 1), (5, 2, 1)], 6, 64, [.int .i64 (.lit (0)), .nils, .int .u8 (.lit (0)), .int .i64 (.lit (0)), .int .i64 (.lit (0)), .int .i64 (.lit (0))], false⟩)
 (.node (some ⟨.struct [(0, 23, 1), (1, 85, 1)], 2, 48, [.nils, .nils], false⟩)
 (.node (some ⟨.func, 1, 8, [.nilf], false⟩)
 (.node (some ⟨.struct [(0, 3, 1), (1, 3, 1)], 2, 16, [.int .i64 (.lit (0)), .int .i64 (.lit (0))], true⟩)
 .nil .nil) .nil) (.node none
 (.node (some ⟨.pointer 5, 1, 8, [.nilp], false⟩)
 .nil .nil) .nil)) (.node (some ⟨.func, 1, 8, [.nilf], false⟩)
 (.node (some ⟨.func, 1, 8, [.nilf], false⟩)
 (.node (some ⟨.func, 1, 8, [.nilf], false⟩)
 .nil .nil) .nil) (.node (some ⟨.func, 1, 8, [.nilf], false⟩)
 (.node (some ⟨.struct [(0, 373, 0)], 0, 0, [], false⟩)
 .nil .nil) .nil)))) (.node (some ⟨.int .u8, 1, 1, [.int .u8 (.lit (0))], false⟩)
 (.node (some ⟨.slice 2, 1, 24, [.nils], false⟩)
 (.node (some ⟨.func, 1, 8, [.nilf], false⟩)
 (.node (some ⟨.map 30 140, 1, 8, [.nilm], false⟩)
 (.node (some ⟨.func, 1, 8, [.nilf], false⟩)
 .nil .nil) .nil) (.node (some ⟨.func, 1, 8, [.nilf], false⟩)
 (.node (some ⟨.map 9 333, 1, 8, [.nilm], false⟩)
 .nil .nil) .nil)) (.node (some ⟨.func, 1, 8, [.nilf], false⟩)
 (.node (some ⟨.pointer 176, 1, 8, [.nilp], false⟩)
 (.node (some ⟨.func, 1, 8, [.nilf], false⟩)
 .nil .nil) .nil) (.node none
 (.node (some ⟨.array 32 5, 32, 32, (repeatL [.int .u8 (.lit (0))] 32), false⟩)
 .nil .nil) .nil))) (.node none
 (.node (some ⟨.pointer 100, 1, 8, [.nilp], false⟩)
 (.node (some ⟨.int .u8, 1, 1, [.int .u8 (.lit (0))], false⟩)
 (.node (some ⟨.func, 1, 8, [.nilf], false⟩)
 .nil .nil) .nil) (.node none
 (.node (some ⟨.func, 1, 8, [.nilf], false⟩)
 .nil .nil) .nil)) (.node (some ⟨.func, 1, 8, [.nilf], false⟩)
 (.node (some ⟨.func, 1, 8, [.nilf], false⟩)
 (.node (some ⟨.func, 1, 8, [.nilf], false⟩)
 .nil .nil) .nil) (.node (some ⟨.func, 1, 8, [.nilf], false⟩)
 (.node (some ⟨.struct [(0, 12, 1), (1, 12, 1), (2, 271, 1), (3, 376, 1), (4, 5, 1), (5, 5, 1), (6, 377, 1), (7, 378, 1), (8, 342, 1), (9, 379, 1), (10, 380, 1)], 11, 48, [.int .u64 (.lit (0)), .int .u64 (.lit (0)), .int .u32 (.lit (0)), .int .u8 (.lit (0)), .int .u8 (.lit (0)), .int .u8 (.lit (0)), .int .u8 (.lit (0)), .nilf, .nilp, .int .i32 (.lit (0)), .int .i32 (.lit (0))], false⟩)
 .nil .nil) .nil))))))))
noncomputable def ftab : Tr Func := (.node (some Tryz.f0)
 (.node (some Tryz.f1)
 (.node (some Tryz.f3)
 (.node (some Tryz.f7)
 (.node (some Tryz.f15)
 (.node (some Tryz.f31)
 (.node (some Tryz.f63)
 (.node (some Tryz.f127)
 (.node (some Tryz.f255)
 .nil .nil) .nil) (.node (some Tryz.f191)
 (.node (some Tryz.f319)
 .nil .nil) .nil)) (.node (some Tryz.f95)
 (.node (some Tryz.f159)
 (.node (some Tryz.f287)
 .nil .nil) .nil) (.node (some Tryz.f223)
 .nil .nil))) (.node (some Tryz.f47)
 (.node (some Tryz.f79)
 (.node (some Tryz.f143)
 (.node (some Tryz.f271)
 .nil .nil) .nil) (.node (some Tryz.f207)
 (.node (some Tryz.f335)
 .nil .nil) .nil)) (.node (some Tryz.f111)
 (.node (some Tryz.f175)
 (.node (some Tryz.f303)
 .nil .nil) .nil) (.node (some Tryz.f239)
 .nil .nil)))) (.node (some Tryz.f23)
 (.node (some Tryz.f39)
 (.node (some Tryz.f71)
 (.node (some Tryz.f135)
 (.node (some Tryz.f263)
 .nil .nil) .nil) (.node (some Tryz.f199)
 (.node (some Tryz.f327)
 .nil .nil) .nil)) (.node (some Tryz.f103)
 (.node (some Tryz.f167)
 (.node (some Tryz.f295)
 .nil .nil) .nil) (.node (some Tryz.f231)
 .nil .nil))) (.node (some Tryz.f55)
 (.node (some Tryz.f87)
 (.node (some Tryz.f151)
 (.node (some Tryz.f279)
 .nil .nil) .nil) (.node (some Tryz.f215)
 .nil .nil)) (.node (some Tryz.f119)
 (.node (some Tryz.f183)
 (.node (some Tryz.f311)
 .nil .nil) .nil) (.node (some Tryz.f247)
 .nil .nil))))) (.node (some Tryz.f11)
 (.node (some Tryz.f19)
 (.node (some Tryz.f35)
 (.node (some Tryz.f67)
 (.node (some Tryz.f131)
 (.node (some Tryz.f259)
 .nil .nil) .nil) (.node (some Tryz.f195)
 (.node (some Tryz.f323)
 .nil .nil) .nil)) (.node (some Tryz.f99)
 (.node (some Tryz.f163)
 (.node (some Tryz.f291)
 .nil .nil) .nil) (.node (some Tryz.f227)
 .nil .nil))) (.node (some Tryz.f51)
 (.node (some Tryz.f83)
 (.node (some Tryz.f147)
 (.node (some Tryz.f275)
 .nil .nil) .nil) (.node (some Tryz.f211)
 .nil .nil)) (.node (some Tryz.f115)
 (.node (some Tryz.f179)
 (.node (some Tryz.f307)
 .nil .nil) .nil) (.node (some Tryz.f243)
 .nil .nil)))) (.node (some Tryz.f27)
 (.node (some Tryz.f43)
 (.node (some Tryz.f75)
 (.node (some Tryz.f139)
 (.node (some Tryz.f267)
 .nil .nil) .nil) (.node (some Tryz.f203)
 (.node (some Tryz.f331)
 .nil .nil) .nil)) (.node (some Tryz.f107)
 (.node (some Tryz.f171)
 (.node (some Tryz.f299)
 .nil .nil) .nil) (.node (some Tryz.f235)
 .nil .nil))) (.node (some Tryz.f59)
 (.node (some Tryz.f91)
 (.node (some Tryz.f155)
 (.node (some Tryz.f283)
 .nil .nil) .nil) (.node (some Tryz.f219)
 .nil .nil)) (.node (some Tryz.f123)
 (.node (some Tryz.f187)
 (.node (some Tryz.f315)
 .nil .nil) .nil) (.node (some Tryz.f251)
 .nil .nil)))))) (.node (some Tryz.f5)
 (.node (some Tryz.f9)
 (.node (some Tryz.f17)
 (.node (some Tryz.f33)
 (.node (some Tryz.f65)
 (.node (some Tryz.f129)
 (.node (some Tryz.f257)
 .nil .nil) .nil) (.node (some Tryz.f193)
 (.node (some Tryz.f321)
 .nil .nil) .nil)) (.node (some Tryz.f97)
 (.node (some Tryz.f161)
 (.node (some Tryz.f289)
 .nil .nil) .nil) (.node (some Tryz.f225)
 .nil .nil))) (.node (some Tryz.f49)
 (.node (some Tryz.f81)
 (.node (some Tryz.f145)
 (.node (some Tryz.f273)
 .nil .nil) .nil) (.node (some Tryz.f209)
 (.node (some Tryz.f337)
 .nil .nil) .nil)) (.node (some Tryz.f113)
 (.node (some Tryz.f177)
 (.node (some Tryz.f305)
 .nil .nil) .nil) (.node (some Tryz.f241)
 .nil .nil)))) (.node (some Tryz.f25)
 (.node (some Tryz.f41)
 (.node (some Tryz.f73)
 (.node (some Tryz.f137)
 (.node (some Tryz.f265)
 .nil .nil) .nil) (.node (some Tryz.f201)
 (.node (some Tryz.f329)
 .nil .nil) .nil)) (.node (some Tryz.f105)
 (.node (some Tryz.f169)
 (.node (some Tryz.f297)
 .nil .nil) .nil) (.node (some Tryz.f233)
 .nil .nil))) (.node (some Tryz.f57)
 (.node (some Tryz.f89)
 (.node (some Tryz.f153)
 (.node (some Tryz.f281)
 .nil .nil) .nil) (.node (some Tryz.f217)
 .nil .nil)) (.node (some Tryz.f121)
 (.node (some Tryz.f185)
 (.node (some Tryz.f313)
 .nil .nil) .nil) (.node (some Tryz.f249)
 .nil .nil))))) (.node (some Tryz.f13)
 (.node (some Tryz.f21)
 (.node (some Tryz.f37)
 (.node (some Tryz.f69)
 (.node (some Tryz.f133)
 (.node (some Tryz.f261)
 .nil .nil) .nil) (.node (some Tryz.f197)
 (.node (some Tryz.f325)
 .nil .nil) .nil)) (.node (some Tryz.f101)
 (.node (some Tryz.f165)
 (.node (some Tryz.f293)
 .nil .nil) .nil) (.node (some Tryz.f229)
 .nil .nil))) (.node (some Tryz.f53)
 (.node (some Tryz.f85)
 (.node (some Tryz.f149)
 (.node (some Tryz.f277)
 .nil .nil) .nil) (.node (some Tryz.f213)
 .nil .nil)) (.node (some Tryz.f117)
 (.node (some Tryz.f181)
 (.node (some Tryz.f309)
 .nil .nil) .nil) (.node (some Tryz.f245)
 .nil .nil)))) (.node (some Tryz.f29)
 (.node (some Tryz.f45)
 (.node (some Tryz.f77)
 (.node (some Tryz.f141)
 (.node (some Tryz.f269)
 .nil .nil) .nil) (.node (some Tryz.f205)
 (.node (some Tryz.f333)
 .nil .nil) .nil)) (.node (some Tryz.f109)
 (.node (some Tryz.f173)
 (.node (some Tryz.f301)
 .nil .nil) .nil) (.node (some Tryz.f237)
 .nil .nil))) (.node (some Tryz.f61)
 (.node (some Tryz.f93)
 (.node (some Tryz.f157)
 (.node (some Tryz.f285)
 .nil .nil) .nil) (.node (some Tryz.f221)
 .nil .nil)) (.node (some Tryz.f125)
 (.node (some Tryz.f189)
 (.node (some Tryz.f317)
 .nil .nil) .nil) (.node (some Tryz.f253)
 .nil .nil))))))) (.node (some Tryz.f2)
 (.node (some Tryz.f4)
 (.node (some Tryz.f8)
 (.node (some Tryz.f16)
 (.node (some Tryz.f32)
 (.node (some Tryz.f64)
 (.node (some Tryz.f128)
 (.node (some Tryz.f256)
 .nil .nil) .nil) (.node (some Tryz.f192)
 (.node (some Tryz.f320)
 .nil .nil) .nil)) (.node (some Tryz.f96)
 (.node (some Tryz.f160)
 (.node (some Tryz.f288)
 .nil .nil) .nil) (.node (some Tryz.f224)
 .nil .nil))) (.node (some Tryz.f48)
 (.node (some Tryz.f80)
 (.node (some Tryz.f144)
 (.node (some Tryz.f272)
 .nil .nil) .nil) (.node (some Tryz.f208)
 (.node (some Tryz.f336)
 .nil .nil) .nil)) (.node (some Tryz.f112)
 (.node (some Tryz.f176)
 (.node (some Tryz.f304)
 .nil .nil) .nil) (.node (some Tryz.f240)
 .nil .nil)))) (.node (some Tryz.f24)
 (.node (some Tryz.f40)
 (.node (some Tryz.f72)
 (.node (some Tryz.f136)
 (.node (some Tryz.f264)
 .nil .nil) .nil) (.node (some Tryz.f200)
 (.node (some Tryz.f328)
 .nil .nil) .nil)) (.node (some Tryz.f104)
 (.node (some Tryz.f168)
 (.node (some Tryz.f296)
 .nil .nil) .nil) (.node (some Tryz.f232)
 .nil .nil))) (.node (some Tryz.f56)
 (.node (some Tryz.f88)
 (.node (some Tryz.f152)
 (.node (some Tryz.f280)
 .nil .nil) .nil) (.node (some Tryz.f216)
 .nil .nil)) (.node (some Tryz.f120)
 (.node (some Tryz.f184)
 (.node (some Tryz.f312)
 .nil .nil) .nil) (.node (some Tryz.f248)
 .nil .nil))))) (.node (some Tryz.f12)
 (.node (some Tryz.f20)
 (.node (some Tryz.f36)
 (.node (some Tryz.f68)
 (.node (some Tryz.f132)
 (.node (some Tryz.f260)
 .nil .nil) .nil) (.node (some Tryz.f196)
 (.node (some Tryz.f324)
 .nil .nil) .nil)) (.node (some Tryz.f100)
 (.node (some Tryz.f164)
 (.node (some Tryz.f292)
 .nil .nil) .nil) (.node (some Tryz.f228)
 .nil .nil))) (.node (some Tryz.f52)
 (.node (some Tryz.f84)
 (.node (some Tryz.f148)
 (.node (some Tryz.f276)
 .nil .nil) .nil) (.node (some Tryz.f212)
 .nil .nil)) (.node (some Tryz.f116)
 (.node (some Tryz.f180)
 (.node (some Tryz.f308)
 .nil .nil) .nil) (.node (some Tryz.f244)
 .nil .nil)))) (.node (some Tryz.f28)
 (.node (some Tryz.f44)
 (.node (some Tryz.f76)
 (.node (some Tryz.f140)
 (.node (some Tryz.f268)
 .nil .nil) .nil) (.node (some Tryz.f204)
 (.node (some Tryz.f332)
 .nil .nil) .nil)) (.node (some Tryz.f108)
 (.node (some Tryz.f172)
 (.node (some Tryz.f300)
 .nil .nil) .nil) (.node (some Tryz.f236)
 .nil .nil))) (.node (some Tryz.f60)
 (.node (some Tryz.f92)
 (.node (some Tryz.f156)
 (.node (some Tryz.f284)
 .nil .nil) .nil) (.node (some Tryz.f220)
 .nil .nil)) (.node (some Tryz.f124)
 (.node (some Tryz.f188)
 (.node (some Tryz.f316)
 .nil .nil) .nil) (.node (some Tryz.f252)
 .nil .nil)))))) (.node (some Tryz.f6)
 (.node (some Tryz.f10)
 (.node (some Tryz.f18)
 (.node (some Tryz.f34)
 (.node (some Tryz.f66)
 (.node (some Tryz.f130)
 (.node (some Tryz.f258)
 .nil .nil) .nil) (.node (some Tryz.f194)
 (.node (some Tryz.f322)
 .nil .nil) .nil)) (.node (some Tryz.f98)
 (.node (some Tryz.f162)
 (.node (some Tryz.f290)
 .nil .nil) .nil) (.node (some Tryz.f226)
 .nil .nil))) (.node (some Tryz.f50)
 (.node (some Tryz.f82)
 (.node (some Tryz.f146)
 (.node (some Tryz.f274)
 .nil .nil) .nil) (.node (some Tryz.f210)
 .nil .nil)) (.node (some Tryz.f114)
 (.node (some Tryz.f178)
 (.node (some Tryz.f306)
 .nil .nil) .nil) (.node (some Tryz.f242)
 .nil .nil)))) (.node (some Tryz.f26)
 (.node (some Tryz.f42)
 (.node (some Tryz.f74)
 (.node (some Tryz.f138)
 (.node (some Tryz.f266)
 .nil .nil) .nil) (.node (some Tryz.f202)
 (.node (some Tryz.f330)
 .nil .nil) .nil)) (.node (some Tryz.f106)
 (.node (some Tryz.f170)
 (.node (some Tryz.f298)
 .nil .nil) .nil) (.node (some Tryz.f234)
 .nil .nil))) (.node (some Tryz.f58)
 (.node (some Tryz.f90)
 (.node (some Tryz.f154)
 (.node (some Tryz.f282)
 .nil .nil) .nil) (.node (some Tryz.f218)
 .nil .nil)) (.node (some Tryz.f122)
 (.node (some Tryz.f186)
 (.node (some Tryz.f314)
 .nil .nil) .nil) (.node (some Tryz.f250)
 .nil .nil))))) (.node (some Tryz.f14)
 (.node (some Tryz.f22)
 (.node (some Tryz.f38)
 (.node (some Tryz.f70)
 (.node (some Tryz.f134)
 (.node (some Tryz.f262)
 .nil .nil) .nil) (.node (some Tryz.f198)
 (.node (some Tryz.f326)
 .nil .nil) .nil)) (.node (some Tryz.f102)
 (.node (some Tryz.f166)
 (.node (some Tryz.f294)
 .nil .nil) .nil) (.node (some Tryz.f230)
 .nil .nil))) (.node (some Tryz.f54)
 (.node (some Tryz.f86)
 (.node (some Tryz.f150)
 (.node (some Tryz.f278)
 .nil .nil) .nil) (.node (some Tryz.f214)
 .nil .nil)) (.node (some Tryz.f118)
 (.node (some Tryz.f182)
 (.node (some Tryz.f310)
 .nil .nil) .nil) (.node (some Tryz.f246)
 .nil .nil)))) (.node (some Tryz.f30)
 (.node (some Tryz.f46)
 (.node (some Tryz.f78)
 (.node (some Tryz.f142)
 (.node (some Tryz.f270)
 .nil .nil) .nil) (.node (some Tryz.f206)
 (.node (some Tryz.f334)
 .nil .nil) .nil)) (.node (some Tryz.f110)
 (.node (some Tryz.f174)
 (.node (some Tryz.f302)
 .nil .nil) .nil) (.node (some Tryz.f238)
 .nil .nil))) (.node (some Tryz.f62)
 (.node (some Tryz.f94)
 (.node (some Tryz.f158)
 (.node (some Tryz.f286)
 .nil .nil) .nil) (.node (some Tryz.f222)
 .nil .nil)) (.node (some Tryz.f126)
 (.node (some Tryz.f190)
 (.node (some Tryz.f318)
 .nil .nil) .nil) (.node (some Tryz.f254)
 .nil .nil))))))))
def htab : Tr (Tr QHint) := (.node none
 (.node none
 (.node none
 (.node none
 (.node (some (.node none
 .nil (.node none
 (.node none
 (.node (some ⟨[], 0, ⟨[⟨0, .pa, 0, [5]⟩, ⟨1, .r, 0, [24]⟩, ⟨0, .pa, 0, [7]⟩, ⟨4, .r, 0, [26]⟩, ⟨12, .r, 0, [27]⟩, ⟨28, .pa, 0, [28, 28]⟩, ⟨60, .pa, 0, [29]⟩, ⟨124, .pa, 0, [30]⟩, ⟨255, .e, 0, [25, 31]⟩, ⟨511, .pa, 1, [5]⟩, ⟨1023, .e, 1, [33, 32]⟩], 2, [(1, [0]), (3, [0]), (4, [0])]⟩⟩)
 .nil .nil) .nil) .nil)))
 (.node none
 (.node (some (.node none
 .nil (.node none
 .nil (.node (some ⟨[], 0, ⟨[⟨0, .r, 0, [2]⟩, ⟨0, .pa, 0, [1]⟩, ⟨0, .pa, 0, [7]⟩, ⟨6, .pa, 0, [22, 23]⟩, ⟨14, .r, 0, [24]⟩, ⟨31, .e, 0, [21, 25]⟩, ⟨63, .pa, 1, [26]⟩, ⟨127, .pa, 1, [20]⟩, ⟨127, .pa, 1, [20]⟩, ⟨255, .pa, 1, [27]⟩, ⟨1023, .pa, 1, [28]⟩], 1, [(0, [0]), (4, [0])]⟩⟩)
 .nil .nil))))
 .nil .nil) (.node none
 .nil (.node (some (.node none
 (.node none
 .nil (.node (some ⟨[], 0, ⟨[⟨0, .pa, 0, [0]⟩, ⟨1, .pa, 0, [29]⟩, ⟨3, .pa, 0, [30]⟩, ⟨7, .r, 0, [31]⟩, ⟨0, .r, 0, [8]⟩, ⟨0, .pa, 0, [9]⟩, ⟨63, .e, 0, [32, 33, 34]⟩], 1, [(3, [0]), (4, [0])]⟩⟩)
 .nil .nil)) (.node (some ⟨[], 0, ⟨[⟨0, .pa, 0, [3]⟩, ⟨0, .pa, 0, [0]⟩, ⟨2, .pa, 0, [15]⟩, ⟨6, .pa, 0, [16]⟩, ⟨14, .r, 0, [17]⟩, ⟨0, .r, 0, [8]⟩, ⟨62, .r, 0, [18, 19]⟩, ⟨127, .e, 0, [14, 20]⟩, ⟨255, .pa, 1, [21]⟩], 1, [(4, [0]), (5, [0]), (6, [0])]⟩⟩)
 (.node (some ⟨[], 0, ⟨[⟨0, .pa, 0, [0]⟩, ⟨1, .pa, 0, [24]⟩, ⟨3, .pa, 0, [25]⟩, ⟨7, .r, 0, [26]⟩, ⟨0, .r, 0, [8]⟩, ⟨31, .e, 0, [27, 28]⟩], 1, [(3, [0]), (4, [0])]⟩⟩)
 .nil .nil) .nil)))
 .nil .nil))) (.node (some (.node none
 (.node (some ⟨[], 0, ⟨[⟨0, .pa, 0, [1]⟩, ⟨1, .r, 0, [6]⟩, ⟨3, .e, 0, [7]⟩, ⟨0, .pa, 1, [1]⟩, ⟨8, .r, 1, [9]⟩, ⟨31, .e, 1, [10]⟩, ⟨31, .pa, 2, [1]⟩, ⟨127, .e, 2, [12, 8]⟩, ⟨255, .pa, 3, [1]⟩, ⟨511, .e, 3, [13, 11]⟩], 4, [(1, [0]), (4, [0, 1])]⟩⟩)
 (.node none
 .nil (.node (some ⟨[], 0, ⟨[⟨0, .pa, 0, [1]⟩, ⟨1, .r, 0, [47]⟩, ⟨0, .pa, 0, [5]⟩, ⟨0, .pa, 0, [1]⟩, ⟨8, .r, 0, [50]⟩, ⟨0, .pa, 0, [5]⟩, ⟨56, .pa, 0, [51, 52]⟩, ⟨120, .pa, 0, [53]⟩, ⟨248, .r, 0, [54]⟩, ⟨504, .e, 0, [55]⟩, ⟨1023, .pa, 1, [48, 49]⟩, ⟨2047, .pa, 1, [57]⟩, ⟨4095, .e, 1, [58, 56]⟩], 2, [(1, [0, 1]), (4, [0]), (8, [0])]⟩⟩)
 .nil .nil)) .nil) (.node none
 .nil (.node (some ⟨[], 0, ⟨[⟨0, .pa, 0, [4]⟩, ⟨0, .pa, 0, [4]⟩, ⟨0, .pa, 0, [4]⟩, ⟨4, .pa, 0, [26]⟩, ⟨12, .pa, 0, [27]⟩, ⟨28, .r, 0, [28]⟩, ⟨60, .e, 0, [29]⟩, ⟨0, .pa, 1, [4]⟩, ⟨128, .pa, 1, [31]⟩, ⟨384, .pa, 1, [32]⟩, ⟨896, .r, 1, [33]⟩, ⟨2044, .e, 1, [34]⟩, ⟨4093, .pa, 2, [24]⟩, ⟨8189, .pa, 2, [36]⟩, ⟨16381, .e, 2, [37, 30]⟩, ⟨32767, .pa, 3, [25]⟩, ⟨65535, .pa, 3, [38]⟩, ⟨131071, .e, 3, [39, 35]⟩], 4, [(5, [0]), (10, [0, 1])]⟩⟩)
 .nil .nil))))
 .nil (.node (some (.node none
 (.node (some ⟨[], 0, ⟨[⟨0, .pa, 0, []⟩, ⟨0, .pa, 0, [0]⟩, ⟨2, .r, 0, [4]⟩, ⟨7, .e, 0, [3, 5]⟩, ⟨0, .r, 1, [1]⟩, ⟨16, .pa, 1, [7]⟩, ⟨63, .e, 1, [6, 8]⟩, ⟨127, .pa, 2, [9]⟩], 2, [(2, [0]), (4, [0, 1])]⟩⟩)
 .nil .nil) .nil))
 (.node (some (.node none
 .nil (.node none
 .nil (.node none
 (.node (some ⟨[], 0, ⟨[⟨0, .pa, 0, [0]⟩, ⟨0, .pa, 0, [9]⟩, ⟨0, .pa, 0, [0]⟩, ⟨0, .pa, 0, [1]⟩, ⟨0, .pa, 0, [10]⟩, ⟨24, .pa, 0, [50, 51]⟩, ⟨0, .pa, 0, [0]⟩, ⟨0, .pa, 0, [1]⟩, ⟨0, .pa, 0, [10]⟩, ⟨384, .pa, 0, [54, 55]⟩, ⟨960, .pa, 0, [53, 56]⟩, ⟨1984, .r, 0, [57]⟩, ⟨0, .pa, 0, [0]⟩, ⟨0, .pa, 0, [9]⟩, ⟨12288, .pa, 0, [59, 60]⟩, ⟨28672, .r, 0, [61]⟩, ⟨65475, .pa, 0, [47, 48]⟩, ⟨131011, .e, 0, [63, 58]⟩, ⟨262143, .pa, 1, [49, 52]⟩, ⟨524287, .e, 1, [64, 62]⟩], 2, [(11, [0]), (15, [0])]⟩⟩)
 .nil .nil) .nil))))
 .nil .nil) .nil))) (.node (some (.node none
 .nil (.node none
 (.node none
 .nil (.node (some ⟨[], 0, ⟨[⟨0, .pa, 0, [5]⟩, ⟨0, .r, 0, [7]⟩, ⟨3, .e, 0, [62, 63]⟩, ⟨0, .pa, 1, [7]⟩, ⟨8, .r, 1, [65]⟩, ⟨31, .r, 1, [64, 66]⟩, ⟨63, .pa, 1, [67]⟩, ⟨127, .pa, 1, [61]⟩, ⟨127, .pa, 1, [61]⟩, ⟨255, .pa, 1, [68]⟩, ⟨1023, .pa, 1, [69]⟩], 1, [(1, [0]), (4, [0, 1]), (5, [1])]⟩⟩)
 .nil .nil)) (.node none
 (.node (some ⟨[], 0, ⟨[⟨0, .pa, 0, [7]⟩, ⟨1, .r, 0, [50]⟩, ⟨3, .e, 0, [51]⟩, ⟨0, .pa, 1, [2]⟩, ⟨8, .r, 1, [53]⟩, ⟨0, .pa, 1, [7]⟩, ⟨32, .r, 1, [55]⟩, ⟨120, .pa, 1, [54, 56]⟩, ⟨248, .pa, 1, [57]⟩, ⟨504, .r, 1, [58]⟩, ⟨1023, .pa, 1, [52, 59]⟩], 1, [(1, [0]), (4, [0, 1]), (6, [0, 1]), (9, [0, 1])]⟩⟩)
 .nil .nil) (.node (some ⟨[], 0, ⟨[⟨0, .pa, 0, [5]⟩, ⟨0, .r, 0, [7]⟩, ⟨3, .e, 0, [72, 73]⟩, ⟨0, .pa, 1, [7]⟩, ⟨8, .r, 1, [75]⟩, ⟨31, .r, 1, [74, 76]⟩, ⟨63, .pa, 1, [77]⟩], 1, [(1, [0]), (4, [0, 1]), (5, [1])]⟩⟩)
 .nil .nil)))))
 (.node none
 .nil (.node (some (.node (some ⟨[], 0, ⟨[⟨0, .pa, 0, [0]⟩, ⟨1, .r, 0, [2]⟩, ⟨3, .pa, 0, [3]⟩, ⟨7, .r, 0, [4]⟩, ⟨0, .r, 0, [1]⟩, ⟨16, .pa, 0, [6]⟩, ⟨48, .pa, 0, [7]⟩, ⟨112, .r, 0, [8]⟩, ⟨255, .e, 0, [5, 9]⟩, ⟨511, .pa, 1, [10]⟩], 1, [(1, [0]), (3, [0]), (4, [0]), (7, [0])]⟩⟩)
 .nil .nil))
 .nil (.node (some (.node none
 (.node (some ⟨[], 0, ⟨[⟨0, .pa, 0, [0]⟩, ⟨1, .pa, 0, [3]⟩, ⟨3, .r, 0, [4]⟩, ⟨0, .pa, 0, [0]⟩, ⟨8, .pa, 0, [6]⟩, ⟨24, .r, 0, [7]⟩, ⟨56, .pa, 0, [8]⟩, ⟨127, .pa, 0, [5, 9]⟩, ⟨255, .pa, 0, [3]⟩, ⟨511, .e, 0, [11, 10]⟩], 1, [(2, [0]), (5, [0])]⟩⟩)
 (.node (some ⟨[], 0, ⟨[⟨0, .pa, 0, [0]⟩, ⟨1, .pa, 0, [21]⟩, ⟨3, .r, 0, [22]⟩, ⟨0, .pa, 0, [0]⟩, ⟨8, .pa, 0, [24]⟩, ⟨24, .r, 0, [25]⟩, ⟨56, .pa, 0, [26]⟩, ⟨127, .pa, 0, [23, 27]⟩, ⟨255, .pa, 0, [21]⟩, ⟨511, .e, 0, [29, 28]⟩], 1, [(2, [0]), (5, [0])]⟩⟩)
 .nil .nil) .nil) (.node (some ⟨[], 0, ⟨[⟨0, .pa, 0, [0]⟩, ⟨1, .pa, 0, [12]⟩, ⟨3, .r, 0, [13]⟩, ⟨0, .pa, 0, [0]⟩, ⟨8, .pa, 0, [15]⟩, ⟨24, .r, 0, [16]⟩, ⟨56, .pa, 0, [17]⟩, ⟨127, .pa, 0, [14, 18]⟩, ⟨255, .pa, 0, [12]⟩, ⟨511, .e, 0, [20, 19]⟩], 1, [(2, [0]), (5, [0])]⟩⟩)
 .nil .nil)))
 .nil .nil))) (.node none
 (.node none
 (.node (some (.node none
 (.node none
 .nil (.node none
 (.node none
 .nil (.node (some ⟨[], 0, ⟨[⟨0, .pa, 0, []⟩, ⟨0, .pa, 0, [7]⟩, ⟨2, .r, 0, [87]⟩, ⟨6, .pa, 0, [88]⟩, ⟨1, .e, 0, [4, 86]⟩, ⟨31, .e, 1, [5, 89]⟩], 2, [(2, [0, 1])]⟩⟩)
 .nil .nil)) .nil)) .nil))
 (.node (some (.node none
 (.node none
 (.node none
 (.node none
 .nil (.node (some ⟨[], 0, ⟨[⟨0, .pa, 0, [0]⟩, ⟨0, .pa, 0, [12]⟩, ⟨0, .pa, 0, [0]⟩, ⟨0, .pa, 0, [12]⟩, ⟨8, .pa, 0, [128]⟩, ⟨0, .pa, 0, [0]⟩, ⟨0, .pa, 0, [12]⟩, ⟨64, .pa, 0, [131]⟩, ⟨224, .pa, 0, [130, 132]⟩, ⟨480, .r, 0, [133]⟩, ⟨0, .pa, 0, [0]⟩, ⟨0, .pa, 0, [12]⟩, ⟨3072, .pa, 0, [135, 136]⟩, ⟨7168, .r, 0, [137]⟩, ⟨16355, .pa, 0, [125, 126]⟩, ⟨32739, .e, 0, [139, 134]⟩, ⟨65535, .pa, 1, [127, 129]⟩, ⟨131071, .e, 1, [140, 138]⟩], 2, [(9, [0]), (13, [0])]⟩⟩)
 .nil .nil)) (.node (some ⟨[], 0, ⟨[⟨0, .pa, 0, [0]⟩, ⟨0, .pa, 0, [9]⟩, ⟨0, .pa, 0, [0]⟩, ⟨0, .pa, 0, [9]⟩, ⟨8, .pa, 0, [49]⟩, ⟨0, .pa, 0, [0]⟩, ⟨0, .pa, 0, [9]⟩, ⟨64, .pa, 0, [52]⟩, ⟨224, .pa, 0, [51, 53]⟩, ⟨480, .r, 0, [54]⟩, ⟨0, .pa, 0, [0]⟩, ⟨0, .pa, 0, [9]⟩, ⟨3072, .pa, 0, [56, 57]⟩, ⟨7168, .r, 0, [58]⟩, ⟨16355, .pa, 0, [46, 47]⟩, ⟨32739, .e, 0, [60, 55]⟩, ⟨65535, .pa, 1, [48, 50]⟩, ⟨131071, .e, 1, [61, 59]⟩], 2, [(9, [0]), (13, [0])]⟩⟩)
 .nil .nil)) (.node (some ⟨[], 0, ⟨[⟨0, .pa, 0, [9]⟩, ⟨0, .pa, 0, [2]⟩, ⟨3, .pa, 0, [19, 20]⟩, ⟨7, .pa, 0, [21]⟩, ⟨15, .pa, 0, [22, 3]⟩, ⟨15, .pa, 0, [22, 0]⟩, ⟨15, .pa, 0, [22, 9]⟩, ⟨111, .pa, 0, [22, 24, 25]⟩, ⟨239, .r, 0, [22, 26]⟩, ⟨15, .pa, 0, [22, 0]⟩, ⟨15, .pa, 0, [22, 9]⟩, ⟨1039, .pa, 0, [22, 29]⟩, ⟨3599, .pa, 0, [22, 28, 30]⟩, ⟨7695, .r, 0, [22, 31]⟩, ⟨16383, .e, 0, [22, 23, 27, 32]⟩, ⟨32767, .pa, 1, [22, 33]⟩, ⟨65535, .pa, 1, [22, 34]⟩, ⟨131071, .pa, 1, [22, 35]⟩], 1, [(8, [0]), (13, [0])]⟩⟩)
 (.node none
 (.node (some ⟨[], 0, ⟨[⟨0, .pa, 0, [0]⟩, ⟨0, .pa, 0, [11]⟩, ⟨0, .pa, 0, [0]⟩, ⟨0, .pa, 0, [11]⟩, ⟨8, .pa, 0, [88]⟩, ⟨0, .pa, 0, [0]⟩, ⟨0, .pa, 0, [11]⟩, ⟨64, .pa, 0, [91]⟩, ⟨224, .pa, 0, [90, 92]⟩, ⟨480, .r, 0, [93]⟩, ⟨0, .pa, 0, [0]⟩, ⟨0, .pa, 0, [11]⟩, ⟨3072, .pa, 0, [95, 96]⟩, ⟨7168, .r, 0, [97]⟩, ⟨16355, .pa, 0, [85, 86]⟩, ⟨32739, .e, 0, [99, 94]⟩, ⟨65535, .pa, 1, [87, 89]⟩, ⟨131071, .e, 1, [100, 98]⟩], 2, [(9, [0]), (13, [0])]⟩⟩)
 .nil .nil) .nil) .nil)) (.node none
 (.node none
 (.node none
 (.node (some ⟨[], 0, ⟨[⟨0, .pa, 0, [3]⟩, ⟨0, .pa, 0, [0]⟩, ⟨0, .pa, 0, [11]⟩, ⟨6, .pa, 0, [73, 74]⟩, ⟨14, .r, 0, [75]⟩, ⟨0, .pa, 0, [0]⟩, ⟨0, .pa, 0, [11]⟩, ⟨64, .pa, 0, [78]⟩, ⟨224, .pa, 0, [77, 79]⟩, ⟨480, .r, 0, [80]⟩, ⟨1023, .e, 0, [72, 76, 81]⟩, ⟨2047, .pa, 1, [82]⟩, ⟨4095, .pa, 1, [83]⟩], 1, [(4, [0]), (9, [0])]⟩⟩)
 .nil .nil) .nil) .nil) (.node none
 .nil (.node none
 (.node (some ⟨[], 0, ⟨[⟨0, .pa, 0, [3]⟩, ⟨0, .pa, 0, [0]⟩, ⟨0, .pa, 0, [12]⟩, ⟨6, .pa, 0, [113, 114]⟩, ⟨14, .r, 0, [115]⟩, ⟨0, .pa, 0, [0]⟩, ⟨0, .pa, 0, [12]⟩, ⟨64, .pa, 0, [118]⟩, ⟨224, .pa, 0, [117, 119]⟩, ⟨480, .r, 0, [120]⟩, ⟨1023, .e, 0, [112, 116, 121]⟩, ⟨2047, .pa, 1, [122]⟩, ⟨4095, .pa, 1, [123]⟩], 1, [(4, [0]), (9, [0])]⟩⟩)
 .nil .nil) .nil)))))
 .nil .nil) .nil) .nil) (.node (some (.node none
 (.node (some ⟨[], 0, ⟨[⟨0, .r, 0, [1]⟩, ⟨1, .e, 0, [5]⟩, ⟨0, .pa, 1, [2]⟩, ⟨4, .r, 1, [7]⟩, ⟨15, .e, 1, [6, 8]⟩, ⟨31, .pa, 2, [9]⟩], 2, [(0, [0]), (3, [0, 1])]⟩⟩)
 .nil .nil) .nil))
 .nil (.node (some (.node none
 (.node none
 .nil (.node (some ⟨[], 0, ⟨[⟨0, .pa, 0, [0]⟩, ⟨0, .pa, 0, [1]⟩, ⟨3, .pa, 0, [20, 21]⟩, ⟨0, .pa, 0, [0]⟩, ⟨0, .pa, 0, [2]⟩, ⟨24, .pa, 0, [23, 24]⟩, ⟨63, .e, 0, [22, 25]⟩, ⟨127, .pa, 1, [26]⟩], 1, []⟩⟩)
 .nil .nil)) .nil))
 .nil .nil))))) (.node none
 (.node none
 (.node (some (.node none
 (.node none
 (.node (some ⟨[], 0, ⟨[⟨0, .pa, 0, []⟩, ⟨0, .r, 0, [4]⟩, ⟨1, .e, 0, [2, 17]⟩, ⟨7, .e, 1, [3, 18]⟩], 2, [(1, [0, 1])]⟩⟩)
 .nil .nil) (.node none
 .nil (.node none
 (.node (some ⟨[], 0, ⟨[⟨0, .pa, 0, [5]⟩, ⟨1, .r, 0, [78]⟩, ⟨0, .pa, 0, [11]⟩, ⟨4, .pa, 0, [80]⟩, ⟨12, .pa, 0, [81]⟩, ⟨28, .r, 0, [82]⟩, ⟨60, .pa, 0, [83]⟩, ⟨127, .e, 0, [79, 84]⟩, ⟨255, .pa, 1, [5]⟩, ⟨511, .e, 1, [86, 85]⟩], 2, [(1, [0]), (5, [0])]⟩⟩)
 .nil .nil) .nil))) .nil))
 (.node (some (.node none
 .nil (.node none
 .nil (.node (some ⟨[], 0, ⟨[⟨0, .r, 0, [2]⟩, ⟨0, .pa, 0, [2]⟩, ⟨2, .r, 0, [30]⟩, ⟨0, .pa, 0, [5]⟩, ⟨14, .pa, 0, [31, 32]⟩, ⟨30, .r, 0, [33]⟩, ⟨0, .r, 0, [6]⟩, ⟨127, .e, 0, [29, 34, 35]⟩, ⟨255, .pa, 1, [36]⟩], 1, [(0, [0]), (2, [0]), (5, [0]), (6, [0])]⟩⟩)
 .nil .nil))))
 (.node none
 (.node (some (.node none
 .nil (.node none
 (.node (some ⟨[], 0, ⟨[⟨0, .r, 0, [0]⟩, ⟨1, .pa, 0, [22]⟩, ⟨3, .pa, 0, [23]⟩, ⟨7, .r, 0, [24]⟩, ⟨0, .r, 0, [0]⟩, ⟨16, .pa, 0, [26]⟩, ⟨48, .pa, 0, [27]⟩, ⟨112, .r, 0, [28]⟩, ⟨240, .pa, 0, [29]⟩, ⟨496, .pa, 0, [30]⟩, ⟨1008, .r, 0, [31]⟩, ⟨2032, .pa, 0, [32]⟩, ⟨4095, .pa, 0, [25]⟩, ⟨8191, .pa, 0, [34]⟩, ⟨16383, .e, 0, [35, 33]⟩], 1, [(0, [0]), (3, [0]), (4, [0]), (7, [0]), (10, [0])]⟩⟩)
 .nil .nil) .nil)))
 .nil .nil) .nil) .nil) (.node none
 (.node (some (.node none
 (.node (some ⟨[], 0, ⟨[⟨0, .pa, 0, [0]⟩, ⟨1, .pa, 0, [9]⟩, ⟨3, .pa, 0, [10]⟩, ⟨7, .r, 0, [11]⟩, ⟨0, .pa, 0, [3]⟩, ⟨16, .r, 0, [13]⟩, ⟨63, .r, 0, [12, 14]⟩, ⟨127, .pa, 0, [15]⟩, ⟨255, .pa, 0, [8]⟩, ⟨255, .pa, 0, [8]⟩, ⟨511, .pa, 0, [16]⟩, ⟨2047, .pa, 0, [17]⟩], 0, [(3, [0]), (5, [0]), (6, [0])]⟩⟩)
 .nil .nil) .nil))
 .nil .nil) .nil)) (.node none
 (.node (some (.node none
 .nil (.node none
 .nil (.node none
 (.node (some ⟨[], 0, ⟨[⟨0, .pa, 0, [3]⟩, ⟨1, .pa, 0, [34]⟩, ⟨3, .pa, 0, [35]⟩, ⟨7, .r, 0, [36]⟩, ⟨0, .pa, 0, [5]⟩, ⟨16, .r, 0, [38]⟩, ⟨0, .pa, 0, [5]⟩, ⟨64, .r, 0, [40]⟩, ⟨255, .e, 0, [37, 39, 41]⟩], 1, [(3, [0]), (5, [0]), (7, [0])]⟩⟩)
 .nil .nil) .nil))))
 (.node (some (.node none
 .nil (.node none
 .nil (.node (some ⟨[], 0, ⟨[⟨0, .pa, 0, [2]⟩, ⟨1, .r, 0, [25]⟩, ⟨0, .pa, 0, [5]⟩, ⟨7, .pa, 0, [26, 27]⟩, ⟨15, .r, 0, [28]⟩, ⟨0, .r, 0, [6]⟩, ⟨0, .pa, 0, [2]⟩, ⟨64, .r, 0, [31]⟩, ⟨192, .r, 0, [32]⟩, ⟨511, .e, 0, [29, 30, 33]⟩, ⟨1023, .pa, 1, [34]⟩], 1, [(1, [0]), (4, [0]), (5, [0]), (7, [0]), (8, [0])]⟩⟩)
 .nil .nil))))
 (.node (some (.node none
 .nil (.node none
 .nil (.node none
 (.node (some ⟨[], 0, ⟨[⟨0, .pa, 0, [0]⟩, ⟨0, .pa, 0, [8]⟩, ⟨0, .pa, 0, [0]⟩, ⟨0, .pa, 0, [8]⟩, ⟨0, .pa, 0, [12]⟩, ⟨24, .pa, 0, [39, 40]⟩, ⟨0, .pa, 0, [0]⟩, ⟨0, .pa, 0, [8]⟩, ⟨0, .pa, 0, [12]⟩, ⟨384, .pa, 0, [43, 44]⟩, ⟨960, .pa, 0, [42, 45]⟩, ⟨1984, .r, 0, [46]⟩, ⟨0, .pa, 0, [0]⟩, ⟨0, .pa, 0, [8]⟩, ⟨12288, .pa, 0, [48, 49]⟩, ⟨28672, .r, 0, [50]⟩, ⟨65475, .pa, 0, [36, 37]⟩, ⟨131011, .e, 0, [52, 47]⟩, ⟨262143, .pa, 1, [38, 41]⟩, ⟨524287, .e, 1, [53, 51]⟩], 2, [(11, [0]), (15, [0])]⟩⟩)
 .nil .nil) .nil))))
 .nil .nil) .nil) .nil) (.node none
 (.node none
 (.node (some (.node none
 (.node none
 .nil (.node (some ⟨[], 0, ⟨[⟨0, .pa, 0, [6]⟩, ⟨0, .r, 0, [5]⟩, ⟨0, .r, 0, [0]⟩, ⟨4, .e, 0, [21]⟩, ⟨14, .pa, 1, [20, 22]⟩, ⟨31, .pa, 1, [19, 23]⟩, ⟨63, .e, 1, [5, 24]⟩], 2, [(1, [0, 1]), (2, [0])]⟩⟩)
 .nil .nil)) .nil))
 .nil .nil) .nil) .nil))) (.node (some (.node none
 (.node none
 (.node (some ⟨[], 0, ⟨[⟨0, .r, 0, [1]⟩, ⟨0, .pa, 0, [2]⟩, ⟨2, .pa, 0, [12]⟩, ⟨7, .e, 0, [11, 13]⟩, ⟨0, .pa, 1, []⟩, ⟨16, .pa, 1, [15]⟩, ⟨63, .e, 1, [14, 16]⟩, ⟨127, .pa, 2, [17]⟩, ⟨255, .r, 2, [18, 1]⟩, ⟨255, .pa, 2, [18, 2]⟩, ⟨767, .pa, 2, [18, 20]⟩, ⟨2047, .e, 2, [18, 19, 21]⟩, ⟨4095, .r, 3, [18, 22]⟩, ⟨8191, .pa, 3, [18, 23]⟩, ⟨16383, .pa, 3, [18, 24]⟩, ⟨32767, .pa, 3, [25]⟩, ⟨65535, .r, 3, [26, 1]⟩, ⟨65535, .pa, 3, [26, 2]⟩, ⟨262143, .e, 3, [26, 27, 28]⟩, ⟨65535, .pa, 4, [26]⟩, ⟨65535, .pa, 4, [26]⟩, ⟨1638399, .pa, 4, [26, 30, 31]⟩, ⟨4194303, .e, 4, [26, 29, 32]⟩, ⟨8388607, .pa, 5, [26, 33]⟩, ⟨16777215, .pa, 5, [34]⟩, ⟨33554431, .r, 5, [35, 1]⟩, ⟨33554431, .pa, 5, [35, 2]⟩, ⟨134217727, .e, 5, [35, 36, 37]⟩, ⟨33554431, .pa, 6, [35]⟩, ⟨301989887, .pa, 6, [35, 39]⟩, ⟨1073741823, .e, 6, [35, 38, 40]⟩, ⟨2147483647, .pa, 7, [35, 41]⟩, ⟨4294967295, .pa, 7, [42]⟩, ⟨8589934591, .pa, 7, [43]⟩, ⟨8589934591, .pa, 7, [43]⟩, ⟨8589934591, .pa, 7, [43]⟩, ⟨8589934591, .pa, 7, [43]⟩, ⟨8589934591, .pa, 7, [43]⟩, ⟨274877906943, .pa, 7, [43, 44, 45, 46, 47, 48]⟩, ⟨549755813887, .e, 7, [43, 49]⟩, ⟨8589934591, .pa, 8, [43]⟩, ⟨8589934591, .pa, 8, [43]⟩, ⟨3307124817919, .pa, 8, [43, 51, 52]⟩, ⟨8796093022207, .e, 8, [43, 50, 53]⟩, ⟨17592186044415, .pa, 9, [43, 54]⟩, ⟨35184372088831, .pa, 9, [55]⟩], 9, [(0, [0]), (8, [2]), (12, [3]), (16, [3]), (25, [5])]⟩⟩)
 .nil .nil) .nil) .nil))
 (.node (some (.node none
 .nil (.node none
 .nil (.node none
 .nil (.node (some ⟨[], 0, ⟨[⟨0, .r, 0, [1]⟩, ⟨0, .r, 0, [7]⟩, ⟨0, .pa, 0, [7]⟩, ⟨4, .r, 0, [67]⟩, ⟨0, .pa, 0, [8]⟩, ⟨28, .pa, 0, [68, 69]⟩, ⟨60, .r, 0, [70]⟩, ⟨127, .e, 0, [65, 66, 71]⟩, ⟨255, .pa, 1, [72]⟩, ⟨511, .pa, 1, [73]⟩, ⟨1023, .pa, 1, [74, 7]⟩, ⟨2047, .r, 1, [74, 75]⟩, ⟨1023, .pa, 1, [74, 8]⟩, ⟨8191, .pa, 1, [74, 76, 77]⟩, ⟨16383, .pa, 1, [74, 78]⟩, ⟨32767, .r, 1, [74, 79]⟩, ⟨1023, .pa, 1, [74, 7]⟩, ⟨131071, .e, 1, [74, 80, 81]⟩, ⟨262143, .pa, 2, [74, 82]⟩, ⟨524287, .pa, 2, [83]⟩], 2, [(0, [0]), (1, [0]), (3, [0]), (6, [0]), (11, [1]), (15, [1])]⟩⟩)
 .nil .nil)))))
 (.node none
 (.node none
 (.node (some (.node none
 (.node none
 (.node (some ⟨[], 0, ⟨[⟨0, .r, 0, [0]⟩, ⟨1, .pa, 0, [12]⟩, ⟨3, .pa, 0, [13]⟩, ⟨7, .r, 0, [14]⟩, ⟨15, .pa, 0, [15]⟩, ⟨31, .pa, 0, [16]⟩, ⟨63, .r, 0, [17]⟩, ⟨0, .r, 0, [0]⟩, ⟨128, .pa, 0, [19]⟩, ⟨384, .pa, 0, [20]⟩, ⟨896, .r, 0, [21]⟩, ⟨2047, .pa, 0, [18, 22]⟩, ⟨4095, .pa, 0, [23]⟩], 0, [(0, [0]), (3, [0]), (6, [0]), (7, [0]), (10, [0])]⟩⟩)
 .nil .nil) .nil) .nil))
 .nil .nil) .nil) .nil) (.node (some (.node none
 (.node none
 (.node none
 (.node (some ⟨[], 0, ⟨[⟨0, .pa, 0, [12]⟩, ⟨1, .e, 0, [89]⟩, ⟨0, .pa, 1, [7]⟩, ⟨4, .r, 1, [91]⟩, ⟨15, .r, 1, [90, 92]⟩, ⟨31, .pa, 1, [93]⟩, ⟨63, .pa, 1, [88]⟩, ⟨63, .pa, 1, [88]⟩, ⟨127, .pa, 1, [94]⟩, ⟨511, .pa, 1, [95]⟩], 1, [(3, [0, 1]), (4, [1])]⟩⟩)
 .nil .nil) (.node none
 (.node (some ⟨[], 0, ⟨[⟨0, .pa, 0, [11]⟩, ⟨0, .r, 0, [17]⟩, ⟨1, .pa, 0, [136]⟩, ⟨7, .e, 0, [9, 137]⟩, ⟨15, .pa, 1, []⟩], 1, [(1, [0])]⟩⟩)
 .nil .nil) .nil)) (.node (some ⟨[], 0, ⟨[⟨0, .pa, 0, [12]⟩, ⟨1, .e, 0, [79]⟩, ⟨0, .pa, 1, [7]⟩, ⟨4, .r, 1, [81]⟩, ⟨15, .r, 1, [80, 82]⟩, ⟨31, .pa, 1, [83]⟩, ⟨63, .pa, 1, [78]⟩, ⟨63, .pa, 1, [78]⟩, ⟨127, .pa, 1, [84]⟩, ⟨511, .pa, 1, [85]⟩], 1, [(3, [0, 1]), (4, [1])]⟩⟩)
 (.node (some ⟨[], 0, ⟨[⟨0, .pa, 0, [12]⟩, ⟨1, .e, 0, [98]⟩, ⟨0, .pa, 1, [7]⟩, ⟨4, .r, 1, [100]⟩, ⟨15, .r, 1, [99, 101]⟩, ⟨31, .pa, 1, [102]⟩], 1, [(3, [0, 1]), (4, [1])]⟩⟩)
 .nil .nil) .nil)) (.node (some ⟨[], 0, ⟨[⟨0, .r, 0, [4]⟩, ⟨0, .pa, 0, [1]⟩, ⟨3, .e, 0, [20, 21]⟩, ⟨7, .pa, 1, [22]⟩, ⟨15, .pa, 1, [23]⟩, ⟨31, .pa, 1, [24, 2]⟩, ⟨63, .pa, 1, [24, 25]⟩, ⟨127, .pa, 1, [24, 26]⟩, ⟨255, .pa, 1, [27]⟩, ⟨511, .pa, 1, [28, 2]⟩, ⟨511, .pa, 1, [28, 4]⟩, ⟨1535, .r, 1, [28, 30]⟩, ⟨3583, .r, 1, [28, 31]⟩, ⟨8191, .pa, 1, [28, 29, 32]⟩, ⟨16383, .pa, 1, [28, 33]⟩, ⟨32767, .pa, 1, [34]⟩, ⟨65535, .pa, 1, [35, 7]⟩, ⟨131071, .r, 1, [35, 36]⟩, ⟨262143, .pa, 1, [35, 37]⟩, ⟨524287, .pa, 1, [35, 38]⟩, ⟨1048575, .pa, 1, [39]⟩, ⟨2097151, .pa, 1, [40, 7]⟩, ⟨4194303, .r, 1, [40, 41]⟩, ⟨2097151, .pa, 1, [40, 11]⟩, ⟨10485759, .r, 1, [40, 43]⟩, ⟨33554431, .pa, 1, [40, 42, 44]⟩, ⟨67108863, .pa, 1, [40, 45]⟩, ⟨134217727, .pa, 1, [46]⟩, ⟨268435455, .pa, 1, [47, 7]⟩, ⟨536870911, .r, 1, [47, 48]⟩, ⟨1073741823, .e, 1, [47, 49]⟩, ⟨268435455, .pa, 2, [47, 4]⟩, ⟨2415919103, .r, 2, [47, 51]⟩, ⟨268435455, .pa, 2, [47, 7]⟩, ⟨8858370047, .r, 2, [47, 53]⟩, ⟨32480690175, .pa, 2, [47, 52, 54]⟩, ⟨66840428543, .pa, 2, [47, 55]⟩, ⟨135559905279, .r, 2, [47, 56]⟩, ⟨274877906943, .pa, 2, [47, 50, 57]⟩, ⟨549755813887, .pa, 2, [47, 58]⟩], 2, [(0, [0]), (11, [1]), (12, [1]), (17, [1]), (22, [1]), (24, [1]), (29, [1]), (32, [1, 2]), (34, [1, 2]), (37, [1, 2])]⟩⟩)
 (.node (some ⟨[], 0, ⟨[⟨0, .pa, 0, [2]⟩, ⟨0, .pa, 0, [11]⟩, ⟨0, .pa, 0, [7]⟩, ⟨4, .r, 0, [64]⟩, ⟨14, .pa, 0, [63, 65]⟩, ⟨0, .pa, 0, [4]⟩, ⟨32, .r, 0, [67]⟩, ⟨0, .pa, 0, [7]⟩, ⟨128, .r, 0, [69]⟩, ⟨480, .pa, 0, [68, 70]⟩, ⟨992, .pa, 0, [71]⟩, ⟨2016, .r, 0, [72]⟩, ⟨0, .pa, 0, [11]⟩, ⟨0, .r, 0, [7]⟩, ⟨16383, .pa, 0, [62, 66, 73, 74, 75]⟩, ⟨32767, .pa, 0, [76]⟩, ⟨65535, .pa, 0, [77]⟩], 0, [(3, [0]), (6, [0]), (8, [0]), (11, [0]), (13, [0])]⟩⟩)
 (.node none
 (.node (some ⟨[], 0, ⟨[⟨0, .pa, 0, [1]⟩, ⟨1, .e, 0, [123]⟩, ⟨0, .pa, 1, [2]⟩, ⟨0, .pa, 1, [7]⟩, ⟨8, .r, 1, [126]⟩, ⟨0, .pa, 1, [7]⟩, ⟨32, .r, 1, [128]⟩, ⟨96, .pa, 1, [129]⟩, ⟨252, .pa, 1, [125, 127, 130]⟩, ⟨3, .pa, 1, [124]⟩, ⟨1023, .e, 1, [9, 131]⟩, ⟨2047, .pa, 2, []⟩], 2, [(4, [0, 1]), (6, [0, 1])]⟩⟩)
 .nil .nil) .nil) .nil) (.node none
 (.node none
 (.node (some ⟨[], 0, ⟨[⟨0, .pa, 0, [11]⟩, ⟨0, .r, 0, [17]⟩, ⟨1, .pa, 0, [134]⟩, ⟨7, .e, 0, [9, 135]⟩, ⟨15, .pa, 1, []⟩], 1, [(1, [0])]⟩⟩)
 .nil .nil) .nil) .nil))))
 (.node (some (.node none
 (.node (some ⟨[], 0, ⟨[⟨0, .pa, 0, [0]⟩, ⟨1, .pa, 0, [5]⟩, ⟨3, .pa, 0, [6]⟩, ⟨7, .pa, 0, [7]⟩, ⟨15, .r, 0, [8]⟩, ⟨0, .pa, 0, [3]⟩, ⟨32, .r, 0, [10]⟩, ⟨127, .pa, 0, [9, 11]⟩, ⟨255, .r, 0, [12]⟩, ⟨0, .pa, 0, []⟩, ⟨1023, .e, 0, [4, 13]⟩], 1, [(4, [0]), (6, [0]), (8, [0])]⟩⟩)
 .nil .nil) .nil))
 .nil .nil) .nil)) (.node (some (.node none
 (.node (some ⟨[], 0, ⟨[⟨0, .pa, 0, [0]⟩, ⟨1, .pa, 0, [6]⟩, ⟨3, .pa, 0, [7]⟩, ⟨7, .pa, 0, [8]⟩, ⟨15, .r, 0, [9]⟩, ⟨0, .pa, 0, [3]⟩, ⟨32, .r, 0, [11]⟩, ⟨127, .pa, 0, [10, 12]⟩, ⟨255, .pa, 0, [13]⟩, ⟨511, .r, 0, [14]⟩, ⟨0, .pa, 0, []⟩, ⟨2047, .e, 0, [5, 15]⟩], 1, [(4, [0]), (6, [0]), (9, [0])]⟩⟩)
 .nil .nil) .nil))
 (.node (some (.node none
 (.node none
 .nil (.node none
 (.node none
 (.node (some ⟨[], 0, ⟨[⟨0, .pa, 0, [1]⟩, ⟨1, .pa, 0, [73]⟩, ⟨3, .pa, 0, [74]⟩, ⟨7, .pa, 0, [75, 0]⟩, ⟨7, .pa, 0, [75, 1]⟩, ⟨23, .pa, 0, [75, 77]⟩, ⟨63, .pa, 0, [75, 76, 78]⟩, ⟨127, .r, 0, [75, 79]⟩, ⟨7, .pa, 0, [75, 0]⟩, ⟨7, .pa, 0, [75, 11]⟩, ⟨775, .pa, 0, [75, 81, 82]⟩, ⟨1799, .r, 0, [75, 83]⟩, ⟨4095, .e, 0, [75, 80, 84]⟩, ⟨8191, .pa, 1, [75, 85]⟩, ⟨16383, .pa, 1, [75, 86]⟩], 1, [(7, [0]), (11, [0])]⟩⟩)
 .nil .nil) .nil) .nil)) .nil))
 .nil .nil) .nil)))) (.node none
 (.node (some (.node none
 (.node none
 .nil (.node (some ⟨[], 0, ⟨[⟨0, .pa, 0, [0]⟩, ⟨0, .pa, 0, [6]⟩, ⟨3, .pa, 0, [21, 22]⟩, ⟨7, .pa, 0, [23]⟩, ⟨15, .r, 0, [24]⟩, ⟨31, .e, 0, [25]⟩, ⟨0, .pa, 1, [0]⟩, ⟨0, .pa, 1, [6]⟩, ⟨192, .pa, 1, [27, 28]⟩, ⟨448, .pa, 1, [29]⟩, ⟨960, .r, 1, [30]⟩, ⟨2047, .e, 1, [31]⟩, ⟨4095, .pa, 2, [26]⟩, ⟨8191, .pa, 2, [32]⟩], 2, [(4, [0]), (10, [0, 1])]⟩⟩)
 .nil (.node (some ⟨[], 0, ⟨[⟨0, .pa, 0, []⟩, ⟨0, .pa, 0, [5]⟩, ⟨3, .e, 0, [61, 62]⟩, ⟨0, .pa, 1, [9]⟩, ⟨8, .r, 1, [64]⟩, ⟨0, .pa, 1, [9]⟩, ⟨32, .r, 1, [66]⟩, ⟨120, .pa, 1, [65, 67]⟩, ⟨248, .pa, 1, [68]⟩, ⟨511, .e, 1, [63, 69]⟩, ⟨1023, .e, 2, [70]⟩, ⟨2047, .pa, 3, [71]⟩], 3, [(4, [0, 1]), (6, [0, 1])]⟩⟩)
 .nil .nil))) (.node none
 .nil (.node none
 .nil (.node (some ⟨[], 0, ⟨[⟨0, .pa, 0, [10]⟩, ⟨1, .r, 0, [72]⟩, ⟨3, .pa, 0, [73]⟩, ⟨7, .pa, 0, [74]⟩, ⟨15, .pa, 0, [75, 10]⟩, ⟨31, .pa, 0, [75, 76]⟩, ⟨63, .r, 0, [75, 77]⟩, ⟨127, .pa, 0, [75, 78]⟩, ⟨255, .r, 0, [75, 79]⟩, ⟨15, .pa, 0, [75, 9]⟩, ⟨527, .r, 0, [75, 81]⟩, ⟨2047, .pa, 0, [75, 80, 82]⟩, ⟨4095, .pa, 0, [75, 83]⟩, ⟨8191, .pa, 0, [84]⟩, ⟨16383, .pa, 0, [85, 10]⟩, ⟨32767, .pa, 0, [85, 86]⟩, ⟨65535, .r, 0, [85, 87]⟩, ⟨16383, .pa, 0, [85, 10]⟩, ⟨147455, .pa, 0, [85, 89]⟩, ⟨409599, .r, 0, [85, 90]⟩, ⟨933887, .r, 0, [85, 91]⟩, ⟨1982463, .pa, 0, [85, 92]⟩, ⟨4194303, .pa, 0, [85, 88, 93]⟩, ⟨8388607, .r, 0, [85, 94]⟩, ⟨16383, .pa, 0, [85, 9]⟩, ⟨16793599, .r, 0, [85, 96]⟩, ⟨67108863, .pa, 0, [85, 95, 97]⟩, ⟨134217727, .pa, 0, [85, 98]⟩, ⟨268435455, .pa, 0, [99]⟩, ⟨536870911, .e, 0, [100]⟩, ⟨1073741823, .pa, 1, [100, 101]⟩, ⟨2147483647, .pa, 1, [102]⟩], 1, [(1, [0]), (6, [0]), (8, [0]), (10, [0]), (16, [0]), (19, [0]), (20, [0]), (23, [0]), (25, [0])]⟩⟩)
 .nil .nil)))))
 (.node (some (.node none
 (.node none
 (.node none
 .nil (.node (some ⟨[], 0, ⟨[⟨0, .r, 0, [9]⟩, ⟨0, .r, 0, [12]⟩, ⟨0, .pa, 0, [13]⟩, ⟨1, .e, 0, [6, 52]⟩, ⟨11, .e, 1, [7, 53]⟩, ⟨31, .pa, 2, [54]⟩], 2, [(0, [0]), (1, [0, 1])]⟩⟩)
 .nil .nil)) .nil) .nil))
 (.node none
 (.node (some (.node none
 .nil (.node none
 .nil (.node (some ⟨[], 0, ⟨[⟨0, .pa, 0, [0]⟩, ⟨0, .pa, 0, [5]⟩, ⟨3, .pa, 0, [16, 17]⟩, ⟨7, .r, 0, [18]⟩, ⟨0, .pa, 0, [1]⟩, ⟨0, .pa, 0, [5]⟩, ⟨48, .pa, 0, [20, 21]⟩, ⟨112, .r, 0, [22]⟩, ⟨255, .e, 0, [19, 23]⟩, ⟨511, .pa, 1, [24]⟩], 1, [(3, [0]), (7, [0])]⟩⟩)
 .nil .nil))))
 (.node (some (.node none
 (.node (some ⟨[], 0, ⟨[⟨0, .pa, 0, [1]⟩, ⟨1, .r, 0, [6]⟩, ⟨0, .pa, 0, [0]⟩, ⟨4, .pa, 0, [8]⟩, ⟨12, .pa, 0, [9]⟩, ⟨28, .r, 0, [10]⟩, ⟨0, .r, 0, [2]⟩, ⟨124, .pa, 0, [11, 12]⟩, ⟨255, .pa, 0, [7, 13]⟩, ⟨511, .pa, 0, [14]⟩], 0, [(1, [0]), (5, [0]), (6, [0])]⟩⟩)
 .nil .nil) .nil))
 (.node (some (.node none
 (.node (some ⟨[], 0, ⟨[⟨0, .r, 0, [0]⟩, ⟨1, .pa, 0, [3]⟩, ⟨3, .pa, 0, [4]⟩, ⟨7, .r, 0, [5]⟩, ⟨0, .r, 0, [0]⟩, ⟨16, .pa, 0, [7]⟩, ⟨48, .pa, 0, [8]⟩, ⟨112, .pa, 0, [9]⟩, ⟨240, .r, 0, [10]⟩, ⟨511, .pa, 0, [6]⟩, ⟨1023, .pa, 0, [12]⟩, ⟨2047, .e, 0, [13, 11]⟩], 1, [(0, [0]), (3, [0]), (4, [0]), (8, [0])]⟩⟩)
 .nil .nil) .nil))
 .nil .nil) .nil) .nil) .nil) (.node (some (.node none
 .nil (.node (some ⟨[], 0, ⟨[⟨0, .pa, 0, [3]⟩, ⟨1, .r, 0, [15]⟩, ⟨0, .pa, 0, [2]⟩, ⟨7, .pa, 0, [16, 17]⟩, ⟨15, .pa, 0, [18]⟩, ⟨31, .r, 0, [19]⟩, ⟨0, .r, 0, [6]⟩, ⟨64, .pa, 0, [21]⟩, ⟨192, .pa, 0, [22]⟩, ⟨448, .r, 0, [23]⟩, ⟨1023, .pa, 0, [20, 24]⟩, ⟨2047, .r, 0, [25]⟩, ⟨0, .pa, 0, []⟩, ⟨8191, .e, 0, [7, 26]⟩], 1, [(1, [0]), (5, [0]), (6, [0]), (9, [0]), (11, [0])]⟩⟩)
 .nil .nil)))
 .nil (.node none
 (.node (some (.node none
 (.node none
 (.node (some ⟨[], 0, ⟨[⟨0, .pa, 0, [0]⟩, ⟨0, .pa, 0, [6]⟩, ⟨0, .pa, 0, [0]⟩, ⟨0, .pa, 0, [7]⟩, ⟨0, .pa, 0, [0]⟩, ⟨0, .pa, 0, [7]⟩, ⟨48, .pa, 0, [18, 19]⟩, ⟨112, .r, 0, [20]⟩, ⟨0, .pa, 0, [0]⟩, ⟨0, .pa, 0, [6]⟩, ⟨768, .pa, 0, [22, 23]⟩, ⟨1792, .r, 0, [24]⟩, ⟨4083, .pa, 0, [14, 15]⟩, ⟨8179, .e, 0, [26, 21]⟩, ⟨16383, .pa, 1, [16, 17]⟩, ⟨32767, .e, 1, [27, 25]⟩], 2, [(7, [0]), (11, [0])]⟩⟩)
 .nil .nil) .nil) .nil))
 .nil .nil) .nil))) (.node none
 (.node none
 (.node none
 (.node (some (.node none
 (.node (some ⟨[], 0, ⟨[⟨0, .pa, 0, [0]⟩, ⟨1, .pa, 0, [4]⟩, ⟨3, .pa, 0, [5]⟩, ⟨7, .r, 0, [6]⟩, ⟨15, .r, 0, [7]⟩, ⟨31, .pa, 0, [8]⟩, ⟨63, .pa, 0, [9]⟩, ⟨127, .pa, 0, [10, 0]⟩, ⟨255, .pa, 0, [10, 11]⟩, ⟨511, .pa, 0, [10, 12]⟩, ⟨1023, .r, 0, [10, 13]⟩, ⟨2047, .pa, 0, [10, 14]⟩, ⟨4095, .r, 0, [10, 15]⟩, ⟨127, .pa, 0, [10, 1]⟩, ⟨8319, .r, 0, [10, 17]⟩, ⟨32767, .pa, 0, [10, 16, 18]⟩, ⟨65535, .pa, 0, [10, 19]⟩], 0, [(3, [0]), (4, [0]), (10, [0]), (12, [0]), (14, [0])]⟩⟩)
 .nil .nil) .nil))
 (.node (some (.node none
 (.node none
 .nil (.node (some ⟨[], 0, ⟨[⟨0, .r, 0, [0]⟩, ⟨1, .pa, 0, [23]⟩, ⟨3, .pa, 0, [24]⟩, ⟨7, .r, 0, [25]⟩, ⟨15, .pa, 0, [26]⟩, ⟨31, .pa, 0, [27]⟩, ⟨63, .r, 0, [28]⟩, ⟨0, .r, 0, [0]⟩, ⟨128, .pa, 0, [30]⟩, ⟨384, .pa, 0, [31]⟩, ⟨896, .r, 0, [32]⟩, ⟨2047, .pa, 0, [29, 33]⟩], 0, [(0, [0]), (3, [0]), (6, [0]), (7, [0]), (10, [0])]⟩⟩)
 .nil .nil)) (.node none
 .nil (.node (some ⟨[], 0, ⟨[⟨0, .r, 0, [0]⟩, ⟨1, .pa, 0, [35]⟩, ⟨3, .pa, 0, [36]⟩, ⟨7, .r, 0, [37]⟩, ⟨0, .r, 0, [0]⟩, ⟨16, .pa, 0, [39]⟩, ⟨48, .pa, 0, [40]⟩, ⟨112, .r, 0, [41]⟩, ⟨0, .pa, 0, [3]⟩, ⟨256, .pa, 0, [43]⟩, ⟨255, .pa, 0, [38]⟩, ⟨1279, .pa, 0, [45]⟩, ⟨3327, .e, 0, [46]⟩, ⟨8191, .pa, 1, [42]⟩, ⟨16383, .pa, 1, [47]⟩, ⟨32767, .e, 1, [48, 44]⟩], 2, [(0, [0]), (3, [0]), (4, [0]), (7, [0])]⟩⟩)
 .nil .nil))))
 .nil .nil) .nil) (.node (some (.node none
 (.node (some ⟨[], 0, ⟨[⟨0, .pa, 0, [0]⟩, ⟨1, .pa, 0, [3]⟩, ⟨3, .pa, 0, [4]⟩, ⟨7, .r, 0, [5]⟩, ⟨15, .e, 0, [6]⟩, ⟨0, .pa, 1, [0]⟩, ⟨32, .pa, 1, [8]⟩, ⟨96, .pa, 1, [9]⟩, ⟨224, .r, 1, [10]⟩, ⟨480, .r, 1, [11]⟩, ⟨1023, .e, 1, [7, 12]⟩, ⟨2047, .pa, 2, [13]⟩], 2, [(3, [0]), (8, [0, 1]), (9, [0, 1])]⟩⟩)
 .nil .nil) .nil))
 .nil .nil)) (.node (some (.node (some ⟨[], 0, ⟨[⟨0, .r, 0, [1]⟩, ⟨1, .pa, 0, [2]⟩, ⟨3, .pa, 0, [3]⟩, ⟨7, .r, 0, [4]⟩, ⟨0, .pa, 0, [0]⟩, ⟨16, .r, 0, [6]⟩, ⟨0, .pa, 0, [0]⟩, ⟨64, .r, 0, [8]⟩, ⟨255, .pa, 0, [5, 7]⟩, ⟨511, .e, 0, [10, 9]⟩], 1, [(0, [0]), (3, [0]), (5, [0]), (7, [0])]⟩⟩)
 .nil .nil))
 (.node (some (.node none
 .nil (.node (some ⟨[], 0, ⟨[⟨0, .r, 0, [2]⟩, ⟨0, .r, 0, [2]⟩, ⟨2, .pa, 0, [9]⟩, ⟨6, .pa, 0, [10]⟩, ⟨14, .pa, 0, [11]⟩, ⟨30, .r, 0, [12]⟩, ⟨0, .r, 0, [3]⟩, ⟨64, .pa, 0, [14]⟩, ⟨254, .e, 0, [13, 15]⟩, ⟨511, .pa, 1, [8]⟩, ⟨1023, .pa, 1, [17]⟩, ⟨2047, .pa, 1, [18]⟩, ⟨4095, .e, 1, [19, 16]⟩], 2, [(0, [0, 1]), (1, [0]), (5, [0]), (6, [0])]⟩⟩)
 .nil .nil)))
 (.node (some (.node none
 (.node (some ⟨[], 0, ⟨[⟨0, .pa, 0, [0]⟩, ⟨0, .pa, 0, [2]⟩, ⟨3, .pa, 0, [10, 11]⟩, ⟨7, .r, 0, [12]⟩, ⟨0, .pa, 0, [0]⟩, ⟨0, .pa, 0, [1]⟩, ⟨48, .pa, 0, [14, 15]⟩, ⟨112, .r, 0, [16]⟩, ⟨255, .e, 0, [13, 17]⟩], 1, [(3, [0]), (7, [0])]⟩⟩)
 .nil .nil) .nil))
 .nil .nil) .nil) .nil)) (.node none
 (.node none
 (.node none
 (.node (some (.node none
 (.node (some ⟨[], 0, ⟨[⟨0, .pa, 0, [0]⟩, ⟨0, .pa, 0, [1]⟩, ⟨0, .pa, 0, [0]⟩, ⟨0, .pa, 0, [3]⟩, ⟨0, .pa, 0, [0]⟩, ⟨0, .pa, 0, [3]⟩, ⟨48, .pa, 0, [18, 19]⟩, ⟨112, .r, 0, [20]⟩, ⟨0, .pa, 0, [0]⟩, ⟨0, .pa, 0, [1]⟩, ⟨768, .pa, 0, [22, 23]⟩, ⟨1792, .r, 0, [24]⟩, ⟨4083, .pa, 0, [14, 15]⟩, ⟨8179, .e, 0, [26, 21]⟩, ⟨16383, .pa, 1, [16, 17]⟩, ⟨32767, .e, 1, [27, 25]⟩], 2, [(7, [0]), (11, [0])]⟩⟩)
 (.node (some ⟨[], 0, ⟨[⟨0, .pa, 0, [12]⟩, ⟨0, .pa, 0, [13]⟩, ⟨3, .pa, 0, [32, 33]⟩, ⟨7, .pa, 0, [34]⟩, ⟨15, .pa, 0, [35, 4]⟩, ⟨15, .pa, 0, [35, 0]⟩, ⟨15, .pa, 0, [35, 12]⟩, ⟨111, .pa, 0, [35, 37, 38]⟩, ⟨239, .r, 0, [35, 39]⟩, ⟨15, .pa, 0, [35, 0]⟩, ⟨15, .pa, 0, [35, 1]⟩, ⟨1551, .pa, 0, [35, 41, 42]⟩, ⟨3599, .r, 0, [35, 43]⟩, ⟨8191, .e, 0, [35, 36, 40, 44]⟩, ⟨16383, .pa, 1, [35, 45]⟩, ⟨32767, .pa, 1, [35, 46]⟩], 1, [(8, [0]), (12, [0])]⟩⟩)
 (.node none
 (.node (some ⟨[], 0, ⟨[⟨0, .pa, 0, [12]⟩, ⟨0, .pa, 0, [13]⟩, ⟨3, .pa, 0, [123, 124]⟩, ⟨7, .pa, 0, [125]⟩, ⟨15, .pa, 0, [126, 4]⟩, ⟨15, .pa, 0, [126, 0]⟩, ⟨15, .pa, 0, [126, 13]⟩, ⟨111, .pa, 0, [126, 128, 129]⟩, ⟨239, .r, 0, [126, 130]⟩, ⟨15, .pa, 0, [126, 0]⟩, ⟨15, .pa, 0, [126, 1]⟩, ⟨1551, .pa, 0, [126, 132, 133]⟩, ⟨3599, .r, 0, [126, 134]⟩, ⟨8191, .e, 0, [126, 127, 131, 135]⟩, ⟨16383, .pa, 1, [126, 136]⟩, ⟨32767, .pa, 1, [126, 137]⟩, ⟨65535, .pa, 1, [126, 138]⟩], 1, [(8, [0]), (12, [0])]⟩⟩)
 .nil .nil) .nil) .nil) (.node (some ⟨[], 0, ⟨[⟨0, .pa, 0, [12]⟩, ⟨0, .pa, 0, [13]⟩, ⟨3, .pa, 0, [50, 51]⟩, ⟨7, .pa, 0, [52]⟩, ⟨15, .pa, 0, [53, 4]⟩, ⟨15, .pa, 0, [53, 0]⟩, ⟨15, .pa, 0, [53, 13]⟩, ⟨111, .pa, 0, [53, 55, 56]⟩, ⟨239, .r, 0, [53, 57]⟩, ⟨15, .pa, 0, [53, 0]⟩, ⟨15, .pa, 0, [53, 1]⟩, ⟨1551, .pa, 0, [53, 59, 60]⟩, ⟨3599, .r, 0, [53, 61]⟩, ⟨8191, .e, 0, [53, 54, 58, 62]⟩, ⟨16383, .pa, 1, [53, 63]⟩, ⟨32767, .pa, 1, [53, 64]⟩, ⟨65535, .pa, 1, [53, 65]⟩], 1, [(8, [0]), (12, [0])]⟩⟩)
 .nil (.node (some ⟨[], 0, ⟨[⟨0, .pa, 0, [12]⟩, ⟨0, .pa, 0, [13]⟩, ⟨3, .pa, 0, [105, 106]⟩, ⟨7, .pa, 0, [107]⟩, ⟨15, .pa, 0, [108, 4]⟩, ⟨15, .pa, 0, [108, 0]⟩, ⟨15, .pa, 0, [108, 12]⟩, ⟨111, .pa, 0, [108, 110, 111]⟩, ⟨239, .r, 0, [108, 112]⟩, ⟨15, .pa, 0, [108, 0]⟩, ⟨15, .pa, 0, [108, 1]⟩, ⟨1551, .pa, 0, [108, 114, 115]⟩, ⟨3599, .r, 0, [108, 116]⟩, ⟨8191, .e, 0, [108, 109, 113, 117]⟩, ⟨16383, .pa, 1, [108, 118]⟩, ⟨32767, .pa, 1, [108, 119]⟩], 1, [(8, [0]), (12, [0])]⟩⟩)
 (.node (some ⟨[], 0, ⟨[⟨0, .pa, 0, [0]⟩, ⟨0, .pa, 0, [13]⟩, ⟨0, .pa, 0, [0]⟩, ⟨0, .pa, 0, [1]⟩, ⟨0, .pa, 0, [0]⟩, ⟨0, .pa, 0, [1]⟩, ⟨48, .pa, 0, [167, 168]⟩, ⟨112, .r, 0, [169]⟩, ⟨0, .pa, 0, [0]⟩, ⟨0, .pa, 0, [13]⟩, ⟨768, .pa, 0, [171, 172]⟩, ⟨1792, .r, 0, [173]⟩, ⟨4083, .pa, 0, [163, 164]⟩, ⟨8179, .e, 0, [175, 170]⟩, ⟨16383, .pa, 1, [165, 166]⟩, ⟨32767, .e, 1, [176, 174]⟩], 2, [(7, [0]), (11, [0])]⟩⟩)
 .nil .nil) .nil))) (.node none
 (.node none
 (.node (some ⟨[], 0, ⟨[⟨0, .pa, 0, [0]⟩, ⟨0, .pa, 0, [13]⟩, ⟨0, .pa, 0, [0]⟩, ⟨0, .pa, 0, [1]⟩, ⟨0, .pa, 0, [0]⟩, ⟨0, .pa, 0, [1]⟩, ⟨48, .pa, 0, [76, 77]⟩, ⟨112, .r, 0, [78]⟩, ⟨0, .pa, 0, [0]⟩, ⟨0, .pa, 0, [13]⟩, ⟨768, .pa, 0, [80, 81]⟩, ⟨1792, .r, 0, [82]⟩, ⟨4083, .pa, 0, [72, 73]⟩, ⟨8179, .e, 0, [84, 79]⟩, ⟨16383, .pa, 1, [74, 75]⟩, ⟨32767, .e, 1, [85, 83]⟩], 2, [(7, [0]), (11, [0])]⟩⟩)
 .nil .nil) .nil) (.node none
 (.node (some ⟨[], 0, ⟨[⟨0, .pa, 0, [0]⟩, ⟨0, .pa, 0, [12]⟩, ⟨0, .pa, 0, [0]⟩, ⟨0, .pa, 0, [13]⟩, ⟨0, .pa, 0, [0]⟩, ⟨0, .pa, 0, [13]⟩, ⟨48, .pa, 0, [91, 92]⟩, ⟨112, .r, 0, [93]⟩, ⟨0, .pa, 0, [0]⟩, ⟨0, .pa, 0, [12]⟩, ⟨768, .pa, 0, [95, 96]⟩, ⟨1792, .r, 0, [97]⟩, ⟨4083, .pa, 0, [87, 88]⟩, ⟨8179, .e, 0, [99, 94]⟩, ⟨16383, .pa, 1, [89, 90]⟩, ⟨32767, .e, 1, [100, 98]⟩], 2, [(7, [0]), (11, [0])]⟩⟩)
 (.node (some ⟨[], 0, ⟨[⟨0, .pa, 0, [0]⟩, ⟨0, .pa, 0, [12]⟩, ⟨0, .pa, 0, [0]⟩, ⟨0, .pa, 0, [13]⟩, ⟨0, .pa, 0, [0]⟩, ⟨0, .pa, 0, [13]⟩, ⟨48, .pa, 0, [149, 150]⟩, ⟨112, .r, 0, [151]⟩, ⟨0, .pa, 0, [0]⟩, ⟨0, .pa, 0, [12]⟩, ⟨768, .pa, 0, [153, 154]⟩, ⟨1792, .r, 0, [155]⟩, ⟨4083, .pa, 0, [145, 146]⟩, ⟨8179, .e, 0, [157, 152]⟩, ⟨16383, .pa, 1, [147, 148]⟩, ⟨32767, .e, 1, [158, 156]⟩], 2, [(7, [0]), (11, [0])]⟩⟩)
 .nil .nil) .nil) .nil))))
 .nil .nil) .nil) .nil) (.node (some (.node none
 (.node (some ⟨[], 0, ⟨[⟨0, .pa, 0, [0]⟩, ⟨1, .pa, 0, [5]⟩, ⟨3, .pa, 0, [6]⟩, ⟨7, .r, 0, [7]⟩, ⟨0, .pa, 0, [1]⟩, ⟨16, .r, 0, [9]⟩, ⟨63, .r, 0, [8, 10]⟩, ⟨127, .pa, 0, [11]⟩, ⟨255, .pa, 0, [12]⟩], 0, [(3, [0]), (5, [0]), (6, [0])]⟩⟩)
 .nil .nil) (.node (some ⟨[], 0, ⟨[⟨0, .pa, 0, [0]⟩, ⟨1, .pa, 0, [13]⟩, ⟨3, .pa, 0, [14]⟩, ⟨7, .r, 0, [15]⟩, ⟨0, .pa, 0, [1]⟩, ⟨16, .r, 0, [17]⟩, ⟨63, .e, 0, [16, 18]⟩], 1, [(3, [0]), (5, [0])]⟩⟩)
 .nil .nil)))
 .nil .nil)))) (.node none
 (.node none
 (.node (some (.node none
 .nil (.node none
 (.node none
 (.node none
 (.node (some ⟨[], 0, ⟨[⟨0, .pa, 0, [11]⟩, ⟨0, .pa, 0, [11]⟩, ⟨2, .pa, 0, [79]⟩, ⟨6, .pa, 0, [80]⟩, ⟨14, .r, 0, [81]⟩, ⟨30, .pa, 0, [82]⟩, ⟨62, .pa, 0, [83, 11]⟩, ⟨126, .pa, 0, [83, 84]⟩, ⟨254, .pa, 0, [83, 85]⟩, ⟨510, .r, 0, [83, 86]⟩, ⟨62, .pa, 0, [83, 8]⟩, ⟨1086, .r, 0, [83, 88]⟩, ⟨4094, .pa, 0, [83, 87, 89]⟩, ⟨8190, .pa, 0, [83, 90]⟩, ⟨16383, .pa, 0, [78]⟩, ⟨32767, .pa, 0, [92]⟩, ⟨65535, .e, 0, [93, 91]⟩], 1, [(4, [0]), (9, [0]), (11, [0])]⟩⟩)
 .nil .nil) .nil) .nil) .nil)))
 .nil (.node (some (.node none
 .nil (.node none
 .nil (.node none
 .nil (.node (some ⟨[], 0, ⟨[⟨0, .pa, 0, [2]⟩, ⟨1, .r, 0, [47]⟩, ⟨0, .pa, 0, [2]⟩, ⟨4, .r, 0, [49]⟩, ⟨12, .pa, 0, [50]⟩, ⟨28, .r, 0, [51]⟩, ⟨0, .pa, 0, [1]⟩, ⟨124, .e, 0, [52, 53]⟩, ⟨0, .pa, 1, [2]⟩, ⟨256, .r, 1, [55]⟩, ⟨768, .pa, 1, [56]⟩, ⟨1792, .r, 1, [57]⟩, ⟨0, .pa, 1, [1]⟩, ⟨8188, .e, 1, [58, 59]⟩, ⟨16383, .e, 2, [48, 54, 60]⟩, ⟨32767, .pa, 3, [61]⟩], 3, [(1, [0, 1, 2]), (3, [0]), (5, [0]), (9, [0, 1]), (11, [0, 1])]⟩⟩)
 .nil .nil)))))
 (.node (some (.node none
 (.node none
 .nil (.node (some ⟨[], 0, ⟨[⟨0, .pa, 0, [5]⟩, ⟨1, .r, 0, [13]⟩, ⟨3, .e, 0, [14]⟩, ⟨0, .pa, 1, [5]⟩, ⟨8, .r, 1, [16]⟩, ⟨31, .e, 1, [17]⟩, ⟨63, .pa, 2, [15, 18]⟩, ⟨127, .pa, 2, [19]⟩], 2, [(1, [0]), (4, [0, 1])]⟩⟩)
 .nil .nil)) .nil))
 .nil .nil) (.node (some (.node none
 (.node none
 (.node (some ⟨[], 0, ⟨[⟨0, .pa, 0, [9]⟩, ⟨1, .pa, 0, [17]⟩, ⟨0, .pa, 0, [2]⟩, ⟨7, .pa, 0, [18, 19]⟩, ⟨15, .pa, 0, [20]⟩, ⟨31, .pa, 0, [21, 0]⟩, ⟨31, .pa, 0, [21, 3]⟩, ⟨31, .pa, 0, [21, 9]⟩, ⟨223, .pa, 0, [21, 23, 24]⟩, ⟨511, .pa, 0, [21, 22, 25]⟩, ⟨1023, .r, 0, [21, 26]⟩, ⟨31, .pa, 0, [21, 0]⟩, ⟨31, .pa, 0, [21, 3]⟩, ⟨31, .pa, 0, [21, 9]⟩, ⟨12319, .pa, 0, [21, 29, 30]⟩, ⟨28703, .pa, 0, [21, 31]⟩, ⟨63519, .pa, 0, [21, 28, 32]⟩, ⟨129055, .r, 0, [21, 33]⟩, ⟨262143, .e, 0, [21, 27, 34]⟩, ⟨524287, .pa, 1, [21, 35]⟩], 1, [(10, [0]), (17, [0])]⟩⟩)
 .nil .nil) (.node (some ⟨[], 0, ⟨[⟨0, .pa, 0, [0]⟩, ⟨0, .pa, 0, [3]⟩, ⟨0, .pa, 0, [8]⟩, ⟨6, .pa, 0, [40, 41]⟩, ⟨15, .pa, 0, [39, 42]⟩, ⟨31, .r, 0, [43]⟩, ⟨0, .pa, 0, [0]⟩, ⟨0, .pa, 0, [3]⟩, ⟨0, .pa, 0, [9]⟩, ⟨384, .pa, 0, [46, 47]⟩, ⟨960, .pa, 0, [45, 48]⟩, ⟨1984, .r, 0, [49]⟩, ⟨4095, .e, 0, [44, 50]⟩, ⟨8191, .pa, 1, [51]⟩], 1, [(5, [0]), (11, [0])]⟩⟩)
 .nil .nil)) (.node none
 .nil (.node (some ⟨[], 0, ⟨[⟨0, .pa, 0, [0]⟩, ⟨0, .pa, 0, [3]⟩, ⟨0, .pa, 0, [8]⟩, ⟨6, .pa, 0, [54, 55]⟩, ⟨0, .pa, 0, [0]⟩, ⟨0, .pa, 0, [3]⟩, ⟨0, .pa, 0, [9]⟩, ⟨96, .pa, 0, [58, 59]⟩, ⟨0, .pa, 0, [0]⟩, ⟨0, .pa, 0, [3]⟩, ⟨0, .pa, 0, [9]⟩, ⟨1536, .pa, 0, [62, 63]⟩, ⟨3840, .pa, 0, [61, 64]⟩, ⟨7936, .r, 0, [65]⟩, ⟨0, .pa, 0, [0]⟩, ⟨0, .pa, 0, [3]⟩, ⟨0, .pa, 0, [8]⟩, ⟨98304, .pa, 0, [68, 69]⟩, ⟨245760, .pa, 0, [67, 70]⟩, ⟨507904, .r, 0, [71]⟩, ⟨1048335, .pa, 0, [53, 56]⟩, ⟨2096911, .e, 0, [73, 66]⟩, ⟨4194303, .pa, 1, [57, 60]⟩, ⟨8388607, .e, 1, [74, 72]⟩], 2, [(13, [0]), (19, [0])]⟩⟩)
 .nil .nil))))
 .nil .nil))) (.node (some (.node none
 .nil (.node none
 (.node (some ⟨[], 0, ⟨[⟨0, .pa, 0, [0]⟩, ⟨0, .pa, 0, [0]⟩, ⟨2, .pa, 0, [22]⟩, ⟨6, .pa, 0, [23]⟩, ⟨14, .r, 0, [24]⟩, ⟨0, .r, 0, [4]⟩, ⟨0, .pa, 0, [2]⟩, ⟨64, .e, 0, [27]⟩, ⟨224, .pa, 1, [26, 28]⟩, ⟨480, .pa, 1, [29]⟩, ⟨1022, .e, 1, [25, 30]⟩, ⟨2047, .pa, 2, [21]⟩, ⟨4095, .pa, 2, [32]⟩, ⟨8191, .e, 2, [33, 31]⟩], 3, [(4, [0, 1]), (5, [0, 1])]⟩⟩)
 .nil .nil) .nil)))
 .nil (.node none
 (.node (some (.node none
 (.node (some ⟨[], 0, ⟨[⟨0, .pa, 0, [0]⟩, ⟨0, .pa, 0, [1]⟩, ⟨0, .pa, 0, [0]⟩, ⟨0, .pa, 0, [3]⟩, ⟨0, .pa, 0, [0]⟩, ⟨0, .pa, 0, [3]⟩, ⟨48, .pa, 0, [16, 17]⟩, ⟨112, .r, 0, [18]⟩, ⟨0, .pa, 0, [0]⟩, ⟨0, .pa, 0, [1]⟩, ⟨768, .pa, 0, [20, 21]⟩, ⟨1792, .r, 0, [22]⟩, ⟨4083, .pa, 0, [12, 13]⟩, ⟨8179, .e, 0, [24, 19]⟩, ⟨16383, .pa, 1, [14, 15]⟩, ⟨32767, .e, 1, [25, 23]⟩], 2, [(7, [0]), (11, [0])]⟩⟩)
 (.node (some ⟨[], 0, ⟨[⟨0, .pa, 0, [10]⟩, ⟨0, .pa, 0, [11]⟩, ⟨3, .pa, 0, [30, 31]⟩, ⟨7, .pa, 0, [32]⟩, ⟨15, .pa, 0, [33, 0]⟩, ⟨15, .pa, 0, [33, 10]⟩, ⟨63, .pa, 0, [33, 34, 35]⟩, ⟨127, .r, 0, [33, 36]⟩, ⟨15, .pa, 0, [33, 0]⟩, ⟨15, .pa, 0, [33, 1]⟩, ⟨783, .pa, 0, [33, 38, 39]⟩, ⟨1807, .r, 0, [33, 40]⟩, ⟨4095, .e, 0, [33, 37, 41]⟩, ⟨8191, .pa, 1, [33, 42]⟩], 1, [(7, [0]), (11, [0])]⟩⟩)
 (.node none
 (.node (some ⟨[], 0, ⟨[⟨0, .pa, 0, [10]⟩, ⟨0, .pa, 0, [11]⟩, ⟨3, .pa, 0, [115, 116]⟩, ⟨7, .pa, 0, [117]⟩, ⟨15, .pa, 0, [118, 0]⟩, ⟨15, .pa, 0, [118, 11]⟩, ⟨63, .pa, 0, [118, 119, 120]⟩, ⟨127, .r, 0, [118, 121]⟩, ⟨15, .pa, 0, [118, 0]⟩, ⟨15, .pa, 0, [118, 1]⟩, ⟨783, .pa, 0, [118, 123, 124]⟩, ⟨1807, .r, 0, [118, 125]⟩, ⟨4095, .e, 0, [118, 122, 126]⟩, ⟨8191, .pa, 1, [118, 127]⟩, ⟨16383, .pa, 1, [118, 128]⟩], 1, [(7, [0]), (11, [0])]⟩⟩)
 .nil .nil) .nil) .nil) (.node (some ⟨[], 0, ⟨[⟨0, .pa, 0, [10]⟩, ⟨0, .pa, 0, [11]⟩, ⟨3, .pa, 0, [46, 47]⟩, ⟨7, .pa, 0, [48]⟩, ⟨15, .pa, 0, [49, 0]⟩, ⟨15, .pa, 0, [49, 11]⟩, ⟨63, .pa, 0, [49, 50, 51]⟩, ⟨127, .r, 0, [49, 52]⟩, ⟨15, .pa, 0, [49, 0]⟩, ⟨15, .pa, 0, [49, 1]⟩, ⟨783, .pa, 0, [49, 54, 55]⟩, ⟨1807, .r, 0, [49, 56]⟩, ⟨4095, .e, 0, [49, 53, 57]⟩, ⟨8191, .pa, 1, [49, 58]⟩, ⟨16383, .pa, 1, [49, 59]⟩], 1, [(7, [0]), (11, [0])]⟩⟩)
 .nil (.node (some ⟨[], 0, ⟨[⟨0, .pa, 0, [10]⟩, ⟨0, .pa, 0, [11]⟩, ⟨3, .pa, 0, [99, 100]⟩, ⟨7, .pa, 0, [101]⟩, ⟨15, .pa, 0, [102, 0]⟩, ⟨15, .pa, 0, [102, 10]⟩, ⟨63, .pa, 0, [102, 103, 104]⟩, ⟨127, .r, 0, [102, 105]⟩, ⟨15, .pa, 0, [102, 0]⟩, ⟨15, .pa, 0, [102, 1]⟩, ⟨783, .pa, 0, [102, 107, 108]⟩, ⟨1807, .r, 0, [102, 109]⟩, ⟨4095, .e, 0, [102, 106, 110]⟩, ⟨8191, .pa, 1, [102, 111]⟩], 1, [(7, [0]), (11, [0])]⟩⟩)
 (.node (some ⟨[], 0, ⟨[⟨0, .pa, 0, [0]⟩, ⟨0, .pa, 0, [11]⟩, ⟨0, .pa, 0, [0]⟩, ⟨0, .pa, 0, [1]⟩, ⟨0, .pa, 0, [0]⟩, ⟨0, .pa, 0, [1]⟩, ⟨48, .pa, 0, [157, 158]⟩, ⟨112, .r, 0, [159]⟩, ⟨0, .pa, 0, [0]⟩, ⟨0, .pa, 0, [11]⟩, ⟨768, .pa, 0, [161, 162]⟩, ⟨1792, .r, 0, [163]⟩, ⟨4083, .pa, 0, [153, 154]⟩, ⟨8179, .e, 0, [165, 160]⟩, ⟨16383, .pa, 1, [155, 156]⟩, ⟨32767, .e, 1, [166, 164]⟩], 2, [(7, [0]), (11, [0])]⟩⟩)
 .nil .nil) .nil))) (.node none
 (.node none
 (.node (some ⟨[], 0, ⟨[⟨0, .pa, 0, [0]⟩, ⟨0, .pa, 0, [11]⟩, ⟨0, .pa, 0, [0]⟩, ⟨0, .pa, 0, [1]⟩, ⟨0, .pa, 0, [0]⟩, ⟨0, .pa, 0, [1]⟩, ⟨48, .pa, 0, [70, 71]⟩, ⟨112, .r, 0, [72]⟩, ⟨0, .pa, 0, [0]⟩, ⟨0, .pa, 0, [11]⟩, ⟨768, .pa, 0, [74, 75]⟩, ⟨1792, .r, 0, [76]⟩, ⟨4083, .pa, 0, [66, 67]⟩, ⟨8179, .e, 0, [78, 73]⟩, ⟨16383, .pa, 1, [68, 69]⟩, ⟨32767, .e, 1, [79, 77]⟩], 2, [(7, [0]), (11, [0])]⟩⟩)
 .nil .nil) .nil) (.node none
 (.node (some ⟨[], 0, ⟨[⟨0, .pa, 0, [0]⟩, ⟨0, .pa, 0, [10]⟩, ⟨0, .pa, 0, [0]⟩, ⟨0, .pa, 0, [11]⟩, ⟨0, .pa, 0, [0]⟩, ⟨0, .pa, 0, [11]⟩, ⟨48, .pa, 0, [85, 86]⟩, ⟨112, .r, 0, [87]⟩, ⟨0, .pa, 0, [0]⟩, ⟨0, .pa, 0, [10]⟩, ⟨768, .pa, 0, [89, 90]⟩, ⟨1792, .r, 0, [91]⟩, ⟨4083, .pa, 0, [81, 82]⟩, ⟨8179, .e, 0, [93, 88]⟩, ⟨16383, .pa, 1, [83, 84]⟩, ⟨32767, .e, 1, [94, 92]⟩], 2, [(7, [0]), (11, [0])]⟩⟩)
 (.node (some ⟨[], 0, ⟨[⟨0, .pa, 0, [0]⟩, ⟨0, .pa, 0, [10]⟩, ⟨0, .pa, 0, [0]⟩, ⟨0, .pa, 0, [11]⟩, ⟨0, .pa, 0, [0]⟩, ⟨0, .pa, 0, [11]⟩, ⟨48, .pa, 0, [139, 140]⟩, ⟨112, .r, 0, [141]⟩, ⟨0, .pa, 0, [0]⟩, ⟨0, .pa, 0, [10]⟩, ⟨768, .pa, 0, [143, 144]⟩, ⟨1792, .r, 0, [145]⟩, ⟨4083, .pa, 0, [135, 136]⟩, ⟨8179, .e, 0, [147, 142]⟩, ⟨16383, .pa, 1, [137, 138]⟩, ⟨32767, .e, 1, [148, 146]⟩], 2, [(7, [0]), (11, [0])]⟩⟩)
 .nil .nil) .nil) .nil))))
 (.node (some (.node none
 (.node (some ⟨[], 0, ⟨[⟨0, .pa, 0, [4]⟩, ⟨0, .pa, 0, [0]⟩, ⟨0, .pa, 0, [2]⟩, ⟨6, .pa, 0, [13, 14]⟩, ⟨14, .r, 0, [15]⟩, ⟨0, .pa, 0, [0]⟩, ⟨0, .pa, 0, [1]⟩, ⟨96, .pa, 0, [17, 18]⟩, ⟨224, .r, 0, [19]⟩, ⟨511, .e, 0, [12, 16, 20]⟩, ⟨1023, .pa, 1, [21]⟩], 1, [(4, [0]), (8, [0])]⟩⟩)
 .nil .nil) .nil))
 .nil .nil) .nil) (.node (some (.node none
 (.node none
 .nil (.node (some ⟨[], 0, ⟨[⟨0, .r, 0, [0]⟩, ⟨1, .pa, 0, [15]⟩, ⟨3, .pa, 0, [16]⟩, ⟨7, .r, 0, [17]⟩, ⟨0, .r, 0, [0]⟩, ⟨16, .pa, 0, [19]⟩, ⟨48, .pa, 0, [20]⟩, ⟨112, .r, 0, [21]⟩, ⟨240, .pa, 0, [22]⟩, ⟨496, .pa, 0, [23]⟩, ⟨1008, .r, 0, [24]⟩, ⟨0, .r, 0, [0]⟩, ⟨2048, .pa, 0, [26]⟩, ⟨6144, .pa, 0, [27]⟩, ⟨14336, .r, 0, [28]⟩, ⟨30720, .pa, 0, [29]⟩, ⟨65520, .e, 0, [25, 30]⟩, ⟨131071, .pa, 1, [18]⟩, ⟨262143, .pa, 1, [32]⟩, ⟨524287, .e, 1, [33, 31]⟩], 2, [(0, [0, 1]), (3, [0, 1]), (4, [0]), (7, [0]), (10, [0]), (11, [0]), (14, [0])]⟩⟩)
 .nil .nil)) .nil))
 .nil .nil)))) (.node (some (.node none
 .nil (.node none
 (.node none
 (.node (some ⟨[], 0, ⟨[⟨0, .r, 0, [6]⟩, ⟨0, .r, 0, [7]⟩, ⟨1, .e, 0, [4, 33]⟩, ⟨7, .e, 1, [5, 34]⟩], 2, [(0, [0]), (1, [0, 1])]⟩⟩)
 .nil .nil) .nil) .nil)))
 (.node none
 (.node none
 (.node (some (.node none
 (.node none
 (.node none
 (.node (some ⟨[], 0, ⟨[⟨0, .pa, 0, [3]⟩, ⟨1, .r, 0, [25]⟩, ⟨0, .pa, 0, [6]⟩, ⟨4, .r, 0, [27]⟩, ⟨12, .pa, 0, [28]⟩, ⟨28, .pa, 0, [29]⟩, ⟨60, .pa, 0, [30, 3]⟩, ⟨124, .r, 0, [30, 31]⟩, ⟨252, .pa, 0, [30, 32]⟩, ⟨508, .pa, 0, [30, 33]⟩, ⟨63, .pa, 0, [26]⟩, ⟨2047, .pa, 0, [34]⟩], 0, [(1, [0]), (3, [0]), (7, [0])]⟩⟩)
 .nil .nil) .nil) (.node none
 (.node (some ⟨[], 0, ⟨[⟨0, .pa, 0, [6]⟩, ⟨1, .r, 0, [37]⟩, ⟨0, .pa, 0, [6]⟩, ⟨4, .r, 0, [39]⟩, ⟨12, .pa, 0, [40]⟩, ⟨3, .pa, 0, [38]⟩, ⟨63, .pa, 0, [41]⟩], 0, [(1, [0]), (3, [0])]⟩⟩)
 .nil .nil) .nil)) (.node none
 (.node (some ⟨[], 0, ⟨[⟨0, .pa, 0, [3]⟩, ⟨1, .r, 0, [17]⟩, ⟨0, .pa, 0, [6]⟩, ⟨4, .r, 0, [19]⟩, ⟨12, .pa, 0, [20]⟩, ⟨3, .pa, 0, [18]⟩, ⟨63, .pa, 0, [21]⟩], 0, [(1, [0]), (3, [0])]⟩⟩)
 .nil (.node (some ⟨[], 0, ⟨[⟨0, .pa, 0, [3]⟩, ⟨1, .r, 0, [45]⟩, ⟨0, .pa, 0, [6]⟩, ⟨4, .r, 0, [47]⟩, ⟨12, .pa, 0, [48]⟩, ⟨3, .pa, 0, [46]⟩, ⟨63, .pa, 0, [49]⟩], 0, [(1, [0]), (3, [0])]⟩⟩)
 .nil .nil)) .nil)))
 .nil .nil) .nil) (.node (some (.node none
 (.node none
 (.node none
 (.node (some ⟨[], 0, ⟨[⟨0, .pa, 0, [4]⟩, ⟨0, .pa, 0, [7]⟩, ⟨2, .r, 0, [21]⟩, ⟨0, .pa, 0, [7]⟩, ⟨8, .r, 0, [23]⟩, ⟨0, .pa, 0, [5]⟩, ⟨0, .pa, 0, [7]⟩, ⟨64, .r, 0, [26]⟩, ⟨224, .e, 0, [25, 27]⟩, ⟨0, .pa, 1, [7]⟩, ⟨512, .r, 1, [29]⟩, ⟨0, .pa, 1, [7]⟩, ⟨2048, .r, 1, [31]⟩, ⟨6144, .r, 1, [32]⟩, ⟨0, .pa, 1, [7]⟩, ⟨16384, .r, 1, [34]⟩, ⟨49152, .r, 1, [35]⟩, ⟨131070, .pa, 1, [22, 24, 28, 30, 33, 36]⟩, ⟨262143, .e, 1, [20, 37]⟩], 2, [(2, [0, 1]), (4, [0, 1]), (7, [0]), (10, [0, 1]), (12, [0, 1]), (13, [0, 1]), (15, [0, 1]), (16, [0, 1])]⟩⟩)
 .nil .nil) .nil) .nil) .nil))
 (.node (some (.node none
 .nil (.node none
 (.node (some ⟨[], 0, ⟨[⟨0, .pa, 0, [7]⟩, ⟨0, .pa, 0, [1]⟩, ⟨3, .pa, 0, [16, 17]⟩, ⟨7, .pa, 0, [18]⟩, ⟨15, .pa, 0, [19, 0]⟩, ⟨15, .pa, 0, [19, 7]⟩, ⟨63, .pa, 0, [19, 20, 21]⟩, ⟨127, .r, 0, [19, 22]⟩, ⟨15, .pa, 0, [19, 0]⟩, ⟨15, .pa, 0, [19, 7]⟩, ⟨527, .pa, 0, [19, 25]⟩, ⟨1807, .pa, 0, [19, 24, 26]⟩, ⟨3855, .r, 0, [19, 27]⟩, ⟨8191, .e, 0, [19, 23, 28]⟩, ⟨16383, .pa, 1, [19, 29]⟩], 1, [(7, [0]), (12, [0])]⟩⟩)
 .nil .nil) (.node (some ⟨[], 0, ⟨[⟨0, .pa, 0, [0]⟩, ⟨0, .pa, 0, [7]⟩, ⟨0, .pa, 0, [0]⟩, ⟨0, .pa, 0, [7]⟩, ⟨8, .pa, 0, [36]⟩, ⟨0, .pa, 0, [0]⟩, ⟨0, .pa, 0, [7]⟩, ⟨64, .pa, 0, [39]⟩, ⟨224, .pa, 0, [38, 40]⟩, ⟨480, .r, 0, [41]⟩, ⟨0, .pa, 0, [0]⟩, ⟨0, .pa, 0, [7]⟩, ⟨3072, .pa, 0, [43, 44]⟩, ⟨7168, .r, 0, [45]⟩, ⟨16355, .pa, 0, [33, 34]⟩, ⟨32739, .e, 0, [47, 42]⟩, ⟨65535, .pa, 1, [35, 37]⟩, ⟨131071, .e, 1, [48, 46]⟩], 2, [(9, [0]), (13, [0])]⟩⟩)
 .nil .nil))))
 (.node (some (.node none
 (.node none
 (.node (some ⟨[], 0, ⟨[⟨0, .pa, 0, [11]⟩, ⟨1, .pa, 0, [19]⟩, ⟨0, .pa, 0, [2]⟩, ⟨7, .pa, 0, [20, 21]⟩, ⟨15, .pa, 0, [22]⟩, ⟨31, .pa, 0, [23, 4]⟩, ⟨31, .pa, 0, [23, 0]⟩, ⟨31, .pa, 0, [23, 3]⟩, ⟨31, .pa, 0, [23, 11]⟩, ⟨415, .pa, 0, [23, 26, 27]⟩, ⟨991, .pa, 0, [23, 25, 28]⟩, ⟨2015, .r, 0, [23, 29]⟩, ⟨31, .pa, 0, [23, 0]⟩, ⟨31, .pa, 0, [23, 3]⟩, ⟨31, .pa, 0, [23, 11]⟩, ⟨24607, .pa, 0, [23, 32, 33]⟩, ⟨57375, .pa, 0, [23, 34]⟩, ⟨127007, .pa, 0, [23, 31, 35]⟩, ⟨258079, .r, 0, [23, 36]⟩, ⟨524287, .e, 0, [23, 24, 30, 37]⟩, ⟨1048575, .pa, 1, [23, 38]⟩, ⟨2097151, .pa, 1, [23, 39]⟩], 1, [(11, [0]), (18, [0])]⟩⟩)
 .nil .nil) (.node (some ⟨[], 0, ⟨[⟨0, .pa, 0, [4]⟩, ⟨0, .pa, 0, [0]⟩, ⟨0, .pa, 0, [3]⟩, ⟨0, .pa, 0, [10]⟩, ⟨12, .pa, 0, [45, 46]⟩, ⟨30, .pa, 0, [44, 47]⟩, ⟨62, .r, 0, [48]⟩, ⟨0, .pa, 0, [0]⟩, ⟨0, .pa, 0, [3]⟩, ⟨0, .pa, 0, [11]⟩, ⟨768, .pa, 0, [51, 52]⟩, ⟨1920, .pa, 0, [50, 53]⟩, ⟨3968, .r, 0, [54]⟩, ⟨8191, .e, 0, [43, 49, 55]⟩, ⟨16383, .pa, 1, [56]⟩, ⟨32767, .pa, 1, [57]⟩], 1, [(6, [0]), (12, [0])]⟩⟩)
 .nil .nil)) (.node none
 .nil (.node (some ⟨[], 0, ⟨[⟨0, .pa, 0, [0]⟩, ⟨0, .pa, 0, [3]⟩, ⟨0, .pa, 0, [10]⟩, ⟨6, .pa, 0, [60, 61]⟩, ⟨0, .pa, 0, [0]⟩, ⟨0, .pa, 0, [3]⟩, ⟨0, .pa, 0, [11]⟩, ⟨96, .pa, 0, [64, 65]⟩, ⟨0, .pa, 0, [0]⟩, ⟨0, .pa, 0, [3]⟩, ⟨0, .pa, 0, [11]⟩, ⟨1536, .pa, 0, [68, 69]⟩, ⟨3840, .pa, 0, [67, 70]⟩, ⟨7936, .r, 0, [71]⟩, ⟨0, .pa, 0, [0]⟩, ⟨0, .pa, 0, [3]⟩, ⟨0, .pa, 0, [10]⟩, ⟨98304, .pa, 0, [74, 75]⟩, ⟨245760, .pa, 0, [73, 76]⟩, ⟨507904, .r, 0, [77]⟩, ⟨1048335, .pa, 0, [59, 62]⟩, ⟨2096911, .e, 0, [79, 72]⟩, ⟨4194303, .pa, 1, [63, 66]⟩, ⟨8388607, .e, 1, [80, 78]⟩], 2, [(13, [0]), (19, [0])]⟩⟩)
 .nil .nil))))
 .nil .nil) .nil) .nil)) (.node (some (.node none
 (.node none
 .nil (.node (some ⟨[], 0, ⟨[⟨0, .r, 0, [3]⟩, ⟨0, .pa, 0, [5]⟩, ⟨2, .r, 0, [18]⟩, ⟨0, .r, 0, [3]⟩, ⟨0, .pa, 0, [5]⟩, ⟨16, .r, 0, [21]⟩, ⟨56, .r, 0, [20, 22]⟩, ⟨0, .pa, 0, [5]⟩, ⟨128, .r, 0, [24]⟩, ⟨384, .pa, 0, [25]⟩, ⟨1016, .e, 0, [23, 26]⟩, ⟨2047, .e, 1, [17, 19, 27]⟩], 2, [(0, [0, 1]), (2, [0, 1]), (3, [0]), (5, [0]), (6, [0]), (8, [0])]⟩⟩)
 .nil .nil)) .nil))
 (.node none
 .nil (.node (some (.node none
 .nil (.node (some ⟨[], 0, ⟨[⟨0, .pa, 0, [0]⟩, ⟨0, .pa, 0, [3]⟩, ⟨2, .r, 0, [10]⟩, ⟨0, .pa, 0, [3]⟩, ⟨8, .r, 0, [12]⟩, ⟨24, .e, 0, [13]⟩, ⟨63, .e, 1, [9, 11, 14]⟩, ⟨127, .pa, 2, [15]⟩], 2, [(2, [0, 1]), (4, [0])]⟩⟩)
 (.node none
 (.node (some ⟨[], 0, ⟨[⟨0, .pa, 0, [0]⟩, ⟨1, .pa, 0, [27]⟩, ⟨3, .pa, 0, [28]⟩, ⟨7, .r, 0, [29]⟩, ⟨0, .pa, 0, [3]⟩, ⟨16, .r, 0, [31]⟩, ⟨63, .e, 0, [30, 32]⟩], 1, [(3, [0]), (5, [0])]⟩⟩)
 .nil .nil) .nil) .nil)))
 .nil .nil)) (.node none
 .nil (.node (some (.node none
 (.node (some ⟨[], 0, ⟨[⟨0, .r, 0, [0]⟩, ⟨1, .pa, 0, [3]⟩, ⟨3, .pa, 0, [4]⟩, ⟨7, .pa, 0, [5]⟩, ⟨15, .r, 0, [6]⟩, ⟨0, .r, 0, [0]⟩, ⟨32, .pa, 0, [8]⟩, ⟨96, .pa, 0, [9]⟩, ⟨224, .r, 0, [10]⟩, ⟨480, .pa, 0, [11]⟩, ⟨992, .pa, 0, [12]⟩, ⟨2016, .r, 0, [13]⟩, ⟨4064, .pa, 0, [14]⟩, ⟨8191, .pa, 0, [7, 15]⟩, ⟨16383, .pa, 0, [16]⟩, ⟨32767, .r, 0, [17, 0]⟩, ⟨65535, .pa, 0, [17, 18]⟩, ⟨131071, .pa, 0, [17, 19]⟩, ⟨262143, .pa, 0, [17, 20]⟩, ⟨524287, .r, 0, [17, 21]⟩, ⟨32767, .r, 0, [17, 0]⟩, ⟨1081343, .pa, 0, [17, 23]⟩, ⟨3178495, .pa, 0, [17, 24]⟩, ⟨7372799, .r, 0, [17, 25]⟩, ⟨15761407, .pa, 0, [17, 26]⟩, ⟨32538623, .pa, 0, [17, 27]⟩, ⟨66093055, .r, 0, [17, 28]⟩, ⟨133201919, .pa, 0, [17, 29]⟩, ⟨268435455, .pa, 0, [17, 22, 30]⟩, ⟨536870911, .pa, 0, [17, 31]⟩], 0, [(0, [0]), (4, [0]), (5, [0]), (8, [0]), (11, [0]), (15, [0]), (19, [0]), (20, [0]), (23, [0]), (26, [0])]⟩⟩)
 (.node (some ⟨[], 0, ⟨[⟨0, .r, 0, [0]⟩, ⟨1, .pa, 0, [33]⟩, ⟨3, .pa, 0, [34]⟩, ⟨7, .r, 0, [35]⟩, ⟨15, .pa, 0, [36]⟩, ⟨31, .pa, 0, [37]⟩, ⟨63, .r, 0, [38]⟩, ⟨0, .r, 0, [0]⟩, ⟨128, .pa, 0, [40]⟩, ⟨384, .pa, 0, [41]⟩, ⟨896, .pa, 0, [42]⟩, ⟨1920, .r, 0, [43]⟩, ⟨4095, .pa, 0, [39, 44]⟩, ⟨8191, .pa, 0, [36]⟩, ⟨16383, .pa, 0, [46]⟩, ⟨32767, .e, 0, [47, 45]⟩], 1, [(0, [0]), (3, [0]), (6, [0]), (7, [0]), (11, [0])]⟩⟩)
 .nil .nil) .nil) .nil))
 .nil .nil))))))) (.node none
 (.node none
 (.node (some (.node none
 .nil (.node none
 (.node none
 (.node (some ⟨[], 0, ⟨[⟨0, .pa, 0, [6]⟩, ⟨1, .r, 0, [44]⟩, ⟨0, .pa, 0, [6]⟩, ⟨4, .r, 0, [46]⟩, ⟨3, .pa, 0, [3, 45]⟩, ⟨31, .pa, 0, [48, 47]⟩, ⟨63, .e, 0, [49]⟩], 1, [(1, [0]), (3, [0])]⟩⟩)
 .nil .nil) .nil) (.node (some ⟨[], 0, ⟨[⟨0, .pa, 0, [0]⟩, ⟨0, .pa, 0, [5]⟩, ⟨3, .pa, 0, [27, 28]⟩, ⟨7, .pa, 0, [29]⟩, ⟨15, .r, 0, [30]⟩, ⟨31, .e, 0, [31]⟩, ⟨0, .pa, 1, [0]⟩, ⟨0, .pa, 1, [5]⟩, ⟨192, .pa, 1, [33, 34]⟩, ⟨448, .pa, 1, [35]⟩, ⟨960, .r, 1, [36]⟩, ⟨2047, .e, 1, [37]⟩, ⟨4095, .pa, 2, [32, 38]⟩, ⟨0, .pa, 2, []⟩, ⟨16383, .e, 2, [6, 39]⟩], 3, [(4, [0]), (10, [0, 1])]⟩⟩)
 (.node none
 (.node (some ⟨[], 0, ⟨[⟨0, .pa, 0, [8]⟩, ⟨0, .pa, 0, [9]⟩, ⟨0, .pa, 0, [8]⟩, ⟨0, .pa, 0, [9]⟩, ⟨4, .pa, 0, [3, 61]⟩, ⟨28, .pa, 0, [63, 62]⟩, ⟨60, .r, 0, [64]⟩, ⟨124, .pa, 0, [65]⟩, ⟨252, .pa, 0, [66, 8]⟩, ⟨252, .pa, 0, [66, 7]⟩, ⟨508, .pa, 0, [66, 3, 67]⟩, ⟨2044, .pa, 0, [66, 69, 68]⟩, ⟨4092, .r, 0, [66, 70]⟩, ⟨8188, .pa, 0, [66, 71]⟩, ⟨16380, .pa, 0, [72, 7]⟩, ⟨16380, .pa, 0, [72, 9]⟩, ⟨32764, .pa, 0, [72, 3, 73]⟩, ⟨131068, .pa, 0, [72, 75, 74]⟩, ⟨262140, .r, 0, [72, 76]⟩, ⟨524284, .pa, 0, [66, 72, 77]⟩, ⟨1048572, .pa, 0, [66, 78]⟩, ⟨1, .pa, 0, [3, 59]⟩, ⟨4194303, .pa, 0, [80, 60]⟩, ⟨8388607, .e, 0, [81, 79]⟩], 1, [(6, [0]), (12, [0]), (18, [0])]⟩⟩)
 .nil .nil) (.node none
 (.node (some ⟨[], 0, ⟨[⟨0, .pa, 0, [15]⟩, ⟨0, .pa, 0, [16]⟩, ⟨1, .pa, 0, [3, 142]⟩, ⟨7, .pa, 0, [144, 143]⟩, ⟨15, .r, 0, [145]⟩, ⟨31, .pa, 0, [146]⟩, ⟨63, .pa, 0, [147, 16]⟩, ⟨63, .pa, 0, [147, 15]⟩, ⟨127, .pa, 0, [147, 3, 148]⟩, ⟨511, .pa, 0, [147, 150, 149]⟩, ⟨1023, .r, 0, [147, 151]⟩, ⟨2047, .pa, 0, [147, 152]⟩, ⟨0, .pa, 0, [10]⟩, ⟨0, .pa, 0, [15]⟩, ⟨12288, .r, 0, [154, 155]⟩, ⟨28672, .pa, 0, [156]⟩, ⟨61503, .pa, 0, [157]⟩, ⟨127039, .pa, 0, [158, 10]⟩, ⟨127039, .pa, 0, [158, 15]⟩, ⟨520255, .r, 0, [158, 159, 160]⟩, ⟨127039, .pa, 0, [158, 10]⟩, ⟨127039, .pa, 0, [158, 16]⟩, ⟨3272767, .r, 0, [158, 162, 163]⟩, ⟨8384575, .pa, 0, [158, 161, 164]⟩, ⟨16773183, .pa, 0, [158, 165]⟩, ⟨33554431, .pa, 0, [153, 166]⟩], 0, [(4, [0]), (10, [0]), (14, [0]), (19, [0]), (22, [0])]⟩⟩)
 .nil .nil) .nil)) .nil))))
 (.node none
 (.node (some (.node none
 .nil (.node none
 (.node none
 (.node (some ⟨[], 0, ⟨[⟨0, .r, 0, [6]⟩, ⟨0, .pa, 0, [7]⟩, ⟨0, .r, 0, [2]⟩, ⟨0, .r, 0, [3]⟩, ⟨0, .pa, 0, [7]⟩, ⟨28, .e, 0, [26, 27, 28]⟩, ⟨63, .e, 1, [24, 25, 29]⟩], 2, [(0, [0, 1]), (2, [0]), (3, [0])]⟩⟩)
 .nil .nil) .nil) .nil)))
 (.node none
 (.node (some (.node none
 .nil (.node (some ⟨[], 0, ⟨[⟨0, .pa, 0, [0]⟩, ⟨1, .pa, 0, [11]⟩, ⟨3, .pa, 0, [12]⟩, ⟨7, .r, 0, [13]⟩, ⟨0, .r, 0, [1]⟩, ⟨31, .pa, 0, [14, 15]⟩, ⟨63, .pa, 0, [16]⟩], 0, [(3, [0]), (4, [0])]⟩⟩)
 .nil .nil)))
 .nil .nil) .nil) .nil) (.node (some (.node none
 .nil (.node none
 .nil (.node (some ⟨[], 0, ⟨[⟨0, .pa, 0, [3]⟩, ⟨1, .r, 0, [33]⟩, ⟨0, .pa, 0, [2]⟩, ⟨7, .pa, 0, [34, 35]⟩, ⟨15, .pa, 0, [36]⟩, ⟨31, .r, 0, [37]⟩, ⟨0, .pa, 0, [8]⟩, ⟨64, .r, 0, [39]⟩, ⟨255, .pa, 0, [38, 40]⟩, ⟨511, .r, 0, [41]⟩, ⟨0, .pa, 0, []⟩, ⟨2047, .e, 0, [9, 42]⟩], 1, [(1, [0]), (5, [0]), (7, [0]), (9, [0])]⟩⟩)
 .nil .nil))))
 (.node none
 (.node (some (.node none
 (.node none
 (.node none
 .nil (.node (some ⟨[], 0, ⟨[⟨0, .pa, 0, [4]⟩, ⟨0, .pa, 0, [5]⟩, ⟨3, .pa, 0, [35, 36]⟩, ⟨7, .r, 0, [37]⟩, ⟨0, .pa, 0, [4]⟩, ⟨0, .pa, 0, [5]⟩, ⟨32, .pa, 0, [40]⟩, ⟨112, .pa, 0, [39, 41]⟩, ⟨240, .r, 0, [42]⟩, ⟨511, .pa, 0, [38, 43]⟩], 0, [(3, [0]), (8, [0])]⟩⟩)
 .nil .nil)) .nil) (.node none
 .nil (.node (some ⟨[], 0, ⟨[⟨0, .pa, 0, [0]⟩, ⟨0, .pa, 0, [3]⟩, ⟨3, .pa, 0, [16, 17]⟩, ⟨7, .r, 0, [18]⟩, ⟨0, .pa, 0, [0]⟩, ⟨0, .pa, 0, [3]⟩, ⟨32, .pa, 0, [21]⟩, ⟨112, .pa, 0, [20, 22]⟩, ⟨240, .r, 0, [23]⟩, ⟨511, .pa, 0, [19, 24]⟩], 0, [(3, [0]), (8, [0])]⟩⟩)
 .nil .nil))))
 .nil .nil) (.node (some (.node none
 (.node (some ⟨[], 0, ⟨[⟨0, .pa, 0, [0]⟩, ⟨0, .pa, 0, [1]⟩, ⟨0, .pa, 0, [2]⟩, ⟨6, .pa, 0, [11, 12]⟩, ⟨1, .pa, 0, [10]⟩, ⟨31, .pa, 0, [14, 13]⟩, ⟨63, .r, 0, [15]⟩, ⟨127, .pa, 0, [16]⟩], 0, [(6, [0])]⟩⟩)
 .nil .nil) (.node none
 (.node none
 (.node (some ⟨[], 0, ⟨[⟨0, .pa, 0, [8]⟩, ⟨0, .pa, 0, [1]⟩, ⟨2, .r, 0, [39]⟩, ⟨7, .pa, 0, [38, 40]⟩, ⟨15, .pa, 0, [41]⟩, ⟨31, .pa, 0, [42, 0]⟩, ⟨31, .pa, 0, [42, 1]⟩, ⟨31, .pa, 0, [42, 8]⟩, ⟨223, .pa, 0, [42, 44, 45]⟩, ⟨63, .pa, 0, [42, 43]⟩, ⟨1023, .pa, 0, [42, 47, 46]⟩, ⟨2047, .r, 0, [42, 48]⟩, ⟨4095, .pa, 0, [42, 49]⟩, ⟨8191, .pa, 0, [42, 50]⟩, ⟨16383, .pa, 0, [51, 0]⟩, ⟨16383, .pa, 0, [51, 1]⟩, ⟨16383, .pa, 0, [51, 8]⟩, ⟨114687, .pa, 0, [51, 53, 54]⟩, ⟨32767, .pa, 0, [51, 52]⟩, ⟨524287, .pa, 0, [51, 56, 55]⟩, ⟨1048575, .r, 0, [51, 57]⟩, ⟨2097151, .pa, 0, [51, 58]⟩, ⟨4194303, .pa, 0, [51, 59]⟩, ⟨8388607, .pa, 0, [60, 7]⟩, ⟨16777215, .pa, 0, [60, 61]⟩, ⟨33554431, .pa, 0, [51, 60, 62]⟩, ⟨67108863, .pa, 0, [42, 51, 63]⟩, ⟨134217727, .pa, 0, [42, 64]⟩], 0, [(2, [0]), (11, [0]), (20, [0])]⟩⟩)
 .nil .nil) .nil) .nil)))
 .nil .nil)) (.node (some (.node none
 (.node (some ⟨[], 0, ⟨[⟨0, .r, 0, [0]⟩, ⟨0, .r, 0, [0]⟩, ⟨2, .pa, 0, [4]⟩, ⟨6, .pa, 0, [5]⟩, ⟨14, .pa, 0, [6]⟩, ⟨30, .r, 0, [7]⟩, ⟨0, .pa, 0, [1]⟩, ⟨64, .r, 0, [9]⟩, ⟨254, .pa, 0, [8, 10]⟩, ⟨510, .pa, 0, [11]⟩, ⟨1022, .r, 0, [12]⟩, ⟨2047, .e, 0, [3, 13]⟩, ⟨4095, .pa, 1, [14]⟩], 1, [(0, [0]), (1, [0]), (5, [0]), (7, [0]), (10, [0])]⟩⟩)
 .nil .nil) .nil))
 .nil (.node (some (.node none
 (.node (some ⟨[], 0, ⟨[⟨0, .pa, 0, [0]⟩, ⟨1, .pa, 0, [3]⟩, ⟨3, .pa, 0, [4]⟩, ⟨7, .r, 0, [5]⟩, ⟨15, .pa, 0, [6]⟩, ⟨31, .pa, 0, [7]⟩, ⟨63, .r, 0, [8]⟩, ⟨0, .pa, 0, [0]⟩, ⟨128, .pa, 0, [10]⟩, ⟨384, .pa, 0, [11]⟩, ⟨896, .r, 0, [12]⟩, ⟨2047, .pa, 0, [9, 13]⟩], 0, [(3, [0]), (6, [0]), (10, [0])]⟩⟩)
 .nil .nil) .nil))
 .nil .nil)))) (.node (some (.node none
 .nil (.node none
 .nil (.node (some ⟨[], 0, ⟨[⟨0, .r, 0, [1]⟩, ⟨0, .pa, 0, [2]⟩, ⟨2, .pa, 0, [32]⟩, ⟨7, .e, 0, [31, 33]⟩, ⟨15, .pa, 1, [34]⟩, ⟨31, .pa, 1, [30]⟩, ⟨31, .pa, 1, [30]⟩, ⟨0, .pa, 1, []⟩, ⟨191, .e, 1, [8, 35]⟩, ⟨511, .pa, 2, [36]⟩], 2, [(0, [0])]⟩⟩)
 .nil .nil))))
 (.node (some (.node none
 .nil (.node none
 .nil (.node (some ⟨[], 0, ⟨[⟨0, .pa, 0, [0]⟩, ⟨0, .pa, 0, [5]⟩, ⟨3, .pa, 0, [16, 17]⟩, ⟨7, .r, 0, [18]⟩, ⟨0, .pa, 0, [1]⟩, ⟨0, .pa, 0, [5]⟩, ⟨48, .pa, 0, [20, 21]⟩, ⟨112, .r, 0, [22]⟩, ⟨255, .e, 0, [19, 23]⟩, ⟨511, .pa, 1, [24]⟩], 1, [(3, [0]), (7, [0])]⟩⟩)
 .nil .nil))))
 (.node none
 (.node (some (.node none
 (.node (some ⟨[], 0, ⟨[⟨0, .pa, 0, [0]⟩, ⟨0, .pa, 0, [0]⟩, ⟨2, .pa, 0, [6]⟩, ⟨6, .pa, 0, [7]⟩, ⟨14, .r, 0, [8]⟩, ⟨0, .pa, 0, [1]⟩, ⟨32, .r, 0, [10]⟩, ⟨96, .pa, 0, [11]⟩, ⟨254, .e, 0, [9, 12]⟩, ⟨511, .pa, 1, [5]⟩, ⟨1023, .pa, 1, [14]⟩, ⟨2047, .e, 1, [15, 13]⟩], 2, [(4, [0]), (6, [0])]⟩⟩)
 .nil .nil) (.node (some ⟨[], 0, ⟨[⟨0, .pa, 0, [0]⟩, ⟨1, .pa, 0, [16]⟩, ⟨3, .pa, 0, [17]⟩, ⟨7, .r, 0, [18]⟩, ⟨15, .r, 0, [19]⟩, ⟨0, .r, 0, [2]⟩, ⟨63, .pa, 0, [20, 21]⟩, ⟨127, .pa, 0, [22]⟩], 0, [(3, [0]), (4, [0]), (5, [0])]⟩⟩)
 .nil .nil)))
 (.node (some (.node none
 (.node (some ⟨[], 0, ⟨[⟨0, .r, 0, [0]⟩, ⟨1, .pa, 0, [4]⟩, ⟨3, .pa, 0, [5]⟩, ⟨7, .r, 0, [6]⟩, ⟨0, .r, 0, [0]⟩, ⟨16, .pa, 0, [8]⟩, ⟨48, .pa, 0, [9]⟩, ⟨112, .r, 0, [10]⟩, ⟨255, .pa, 0, [7, 11]⟩, ⟨511, .pa, 0, [12]⟩], 0, [(0, [0]), (3, [0]), (4, [0]), (7, [0])]⟩⟩)
 .nil .nil) (.node (some ⟨[], 0, ⟨[⟨0, .r, 0, [0]⟩, ⟨1, .pa, 0, [13]⟩, ⟨3, .pa, 0, [14]⟩, ⟨7, .r, 0, [15]⟩, ⟨15, .pa, 0, [16]⟩, ⟨31, .pa, 0, [17]⟩, ⟨63, .r, 0, [18]⟩, ⟨0, .r, 0, [0]⟩, ⟨128, .pa, 0, [20]⟩, ⟨384, .pa, 0, [21]⟩, ⟨896, .r, 0, [22]⟩, ⟨2047, .e, 0, [19, 23]⟩, ⟨4095, .pa, 1, [24]⟩, ⟨8191, .pa, 1, [25, 3]⟩, ⟨16383, .pa, 1, [25, 26]⟩, ⟨32767, .pa, 1, [25, 27]⟩, ⟨65535, .r, 1, [25, 28]⟩, ⟨131071, .pa, 1, [25, 29]⟩, ⟨262143, .pa, 1, [25, 30]⟩], 1, [(0, [0]), (3, [0]), (6, [0]), (7, [0]), (10, [0]), (16, [1])]⟩⟩)
 .nil .nil)))
 .nil .nil) .nil) .nil) (.node none
 (.node none
 (.node (some (.node none
 .nil (.node none
 (.node (some ⟨[], 0, ⟨[⟨0, .pa, 0, [6]⟩, ⟨1, .r, 0, [13]⟩, ⟨3, .pa, 0, [14]⟩, ⟨7, .pa, 0, [15]⟩, ⟨15, .pa, 0, [16, 0]⟩, ⟨31, .pa, 0, [16, 17]⟩, ⟨63, .pa, 0, [16, 18]⟩, ⟨127, .r, 0, [16, 19]⟩, ⟨15, .pa, 0, [16, 6]⟩, ⟨271, .r, 0, [16, 21]⟩, ⟨1023, .r, 0, [16, 20, 22]⟩, ⟨2047, .pa, 0, [16, 23]⟩, ⟨4095, .pa, 0, [16, 24]⟩, ⟨8191, .pa, 0, [25]⟩, ⟨16383, .pa, 0, [26, 0]⟩, ⟨16383, .pa, 0, [26, 6]⟩, ⟨49151, .r, 0, [26, 28]⟩, ⟨131071, .e, 0, [26, 27, 29]⟩, ⟨262143, .pa, 1, [26, 30]⟩, ⟨524287, .pa, 1, [26, 31]⟩], 1, [(1, [0]), (7, [0]), (9, [0]), (10, [0]), (16, [0])]⟩⟩)
 .nil .nil) .nil)))
 .nil .nil) .nil) .nil)) (.node none
 (.node none
 (.node none
 (.node (some (.node none
 (.node (some ⟨[], 0, ⟨[⟨0, .pa, 0, [0]⟩, ⟨0, .pa, 0, [1]⟩, ⟨0, .pa, 0, [0]⟩, ⟨0, .pa, 0, [3]⟩, ⟨0, .pa, 0, [0]⟩, ⟨0, .pa, 0, [3]⟩, ⟨48, .pa, 0, [17, 18]⟩, ⟨112, .r, 0, [19]⟩, ⟨0, .pa, 0, [0]⟩, ⟨0, .pa, 0, [1]⟩, ⟨768, .pa, 0, [21, 22]⟩, ⟨1792, .r, 0, [23]⟩, ⟨4083, .pa, 0, [13, 14]⟩, ⟨8179, .e, 0, [25, 20]⟩, ⟨16383, .pa, 1, [15, 16]⟩, ⟨32767, .e, 1, [26, 24]⟩], 2, [(7, [0]), (11, [0])]⟩⟩)
 (.node (some ⟨[], 0, ⟨[⟨0, .pa, 0, [11]⟩, ⟨0, .pa, 0, [12]⟩, ⟨3, .pa, 0, [31, 32]⟩, ⟨7, .pa, 0, [33]⟩, ⟨15, .pa, 0, [34, 4]⟩, ⟨15, .pa, 0, [34, 0]⟩, ⟨15, .pa, 0, [34, 1]⟩, ⟨111, .pa, 0, [34, 36, 37]⟩, ⟨239, .r, 0, [34, 38]⟩, ⟨15, .pa, 0, [34, 0]⟩, ⟨15, .pa, 0, [34, 11]⟩, ⟨1551, .pa, 0, [34, 40, 41]⟩, ⟨3599, .r, 0, [34, 42]⟩, ⟨8191, .e, 0, [34, 35, 39, 43]⟩, ⟨16383, .pa, 1, [34, 44]⟩, ⟨32767, .pa, 1, [34, 45]⟩, ⟨65535, .pa, 1, [34, 46]⟩], 1, [(8, [0]), (12, [0])]⟩⟩)
 .nil .nil) (.node (some ⟨[], 0, ⟨[⟨0, .pa, 0, [11]⟩, ⟨0, .pa, 0, [12]⟩, ⟨3, .pa, 0, [50, 51]⟩, ⟨7, .pa, 0, [52]⟩, ⟨15, .pa, 0, [53, 4]⟩, ⟨15, .pa, 0, [53, 0]⟩, ⟨15, .pa, 0, [53, 1]⟩, ⟨111, .pa, 0, [53, 55, 56]⟩, ⟨239, .r, 0, [53, 57]⟩, ⟨15, .pa, 0, [53, 0]⟩, ⟨15, .pa, 0, [53, 12]⟩, ⟨1551, .pa, 0, [53, 59, 60]⟩, ⟨3599, .r, 0, [53, 61]⟩, ⟨8191, .e, 0, [53, 54, 58, 62]⟩, ⟨16383, .pa, 1, [53, 63]⟩, ⟨32767, .pa, 1, [53, 64]⟩], 1, [(8, [0]), (12, [0])]⟩⟩)
 .nil .nil)) (.node none
 (.node none
 (.node (some ⟨[], 0, ⟨[⟨0, .pa, 0, [0]⟩, ⟨0, .pa, 0, [11]⟩, ⟨0, .pa, 0, [0]⟩, ⟨0, .pa, 0, [12]⟩, ⟨0, .pa, 0, [0]⟩, ⟨0, .pa, 0, [12]⟩, ⟨48, .pa, 0, [75, 76]⟩, ⟨112, .r, 0, [77]⟩, ⟨0, .pa, 0, [0]⟩, ⟨0, .pa, 0, [11]⟩, ⟨768, .pa, 0, [79, 80]⟩, ⟨1792, .r, 0, [81]⟩, ⟨4083, .pa, 0, [71, 72]⟩, ⟨8179, .e, 0, [83, 78]⟩, ⟨16383, .pa, 1, [73, 74]⟩, ⟨32767, .e, 1, [84, 82]⟩], 2, [(7, [0]), (11, [0])]⟩⟩)
 .nil .nil) .nil) .nil)))
 .nil .nil) .nil) .nil) (.node (some (.node none
 (.node (some ⟨[], 0, ⟨[⟨0, .pa, 0, [0]⟩, ⟨1, .pa, 0, [5]⟩, ⟨3, .pa, 0, [6]⟩, ⟨7, .r, 0, [7]⟩, ⟨15, .pa, 0, [8]⟩, ⟨31, .pa, 0, [9]⟩, ⟨63, .pa, 0, [10, 0]⟩, ⟨127, .pa, 0, [10, 11]⟩, ⟨255, .pa, 0, [10, 12]⟩, ⟨511, .r, 0, [10, 13]⟩, ⟨63, .pa, 0, [10, 1]⟩, ⟨1087, .r, 0, [10, 15]⟩, ⟨4095, .r, 0, [10, 14, 16]⟩, ⟨8191, .pa, 0, [10, 17]⟩, ⟨16383, .pa, 0, [10, 18]⟩, ⟨32767, .pa, 0, [19]⟩], 0, [(3, [0]), (9, [0]), (11, [0]), (12, [0])]⟩⟩)
 .nil .nil) (.node (some ⟨[], 0, ⟨[⟨0, .pa, 0, [0]⟩, ⟨1, .pa, 0, [20]⟩, ⟨3, .pa, 0, [21]⟩, ⟨7, .r, 0, [22]⟩, ⟨0, .pa, 0, [1]⟩, ⟨16, .r, 0, [24]⟩, ⟨63, .e, 0, [23, 25]⟩], 1, [(3, [0]), (5, [0])]⟩⟩)
 .nil .nil)))
 .nil .nil)))) (.node none
 (.node (some (.node none
 (.node none
 (.node none
 .nil (.node (some ⟨[], 0, ⟨[⟨0, .pa, 0, [8]⟩, ⟨1, .r, 0, [70]⟩, ⟨0, .pa, 0, [11]⟩, ⟨4, .pa, 0, [72]⟩, ⟨12, .pa, 0, [73]⟩, ⟨28, .r, 0, [74]⟩, ⟨60, .r, 0, [75]⟩, ⟨127, .pa, 0, [71, 76]⟩, ⟨255, .pa, 0, [8]⟩, ⟨511, .e, 0, [78, 77]⟩], 1, [(1, [0]), (5, [0]), (6, [0])]⟩⟩)
 .nil .nil)) (.node none
 (.node (some ⟨[], 0, ⟨[⟨0, .pa, 0, [8]⟩, ⟨1, .r, 0, [44]⟩, ⟨0, .pa, 0, [11]⟩, ⟨4, .pa, 0, [46]⟩, ⟨12, .pa, 0, [47]⟩, ⟨28, .r, 0, [48]⟩, ⟨60, .r, 0, [49]⟩, ⟨127, .pa, 0, [45, 50]⟩, ⟨255, .pa, 0, [51]⟩, ⟨511, .pa, 0, [52, 8]⟩, ⟨1023, .r, 0, [52, 53]⟩, ⟨511, .pa, 0, [52, 2]⟩, ⟨4095, .pa, 0, [52, 54, 55]⟩, ⟨8191, .pa, 0, [52, 56]⟩], 0, [(1, [0]), (5, [0]), (6, [0]), (10, [0])]⟩⟩)
 .nil .nil) .nil)) (.node none
 .nil (.node none
 (.node (some ⟨[], 0, ⟨[⟨0, .pa, 0, [11]⟩, ⟨0, .r, 0, [3]⟩, ⟨0, .pa, 0, [11]⟩, ⟨4, .pa, 0, [60]⟩, ⟨12, .pa, 0, [61]⟩, ⟨28, .r, 0, [62]⟩, ⟨0, .pa, 0, [8]⟩, ⟨64, .r, 0, [64]⟩, ⟨252, .pa, 0, [63, 65]⟩, ⟨508, .r, 0, [66]⟩, ⟨0, .pa, 0, [1]⟩, ⟨2047, .e, 0, [58, 59, 67, 68, 8]⟩], 1, [(1, [0]), (5, [0]), (7, [0]), (9, [0])]⟩⟩)
 .nil .nil) .nil))))
 (.node none
 (.node none
 (.node none
 (.node (some (.node none
 (.node (some ⟨[], 0, ⟨[⟨0, .r, 0, [0]⟩, ⟨1, .pa, 0, [4]⟩, ⟨3, .pa, 0, [5]⟩, ⟨7, .r, 0, [6]⟩, ⟨0, .r, 0, [0]⟩, ⟨16, .pa, 0, [8]⟩, ⟨48, .pa, 0, [9]⟩, ⟨112, .r, 0, [10]⟩, ⟨255, .pa, 0, [7, 11]⟩, ⟨511, .pa, 0, [12]⟩], 0, [(0, [0]), (3, [0]), (4, [0]), (7, [0])]⟩⟩)
 .nil (.node (some ⟨[], 0, ⟨[⟨0, .r, 0, [0]⟩, ⟨1, .pa, 0, [25]⟩, ⟨3, .pa, 0, [26]⟩, ⟨7, .r, 0, [27]⟩, ⟨0, .r, 0, [0]⟩, ⟨16, .pa, 0, [29]⟩, ⟨48, .pa, 0, [30]⟩, ⟨112, .r, 0, [31]⟩, ⟨240, .pa, 0, [32]⟩, ⟨496, .pa, 0, [33]⟩, ⟨1008, .r, 0, [34]⟩, ⟨0, .pa, 0, [0]⟩, ⟨4080, .e, 0, [35, 36]⟩, ⟨0, .r, 1, [0]⟩, ⟨8192, .pa, 1, [38]⟩, ⟨24576, .pa, 1, [39]⟩, ⟨57344, .r, 1, [40]⟩, ⟨122880, .pa, 1, [41]⟩, ⟨262128, .e, 1, [37, 42]⟩, ⟨524287, .pa, 2, [28]⟩, ⟨1048575, .pa, 2, [44]⟩, ⟨2097151, .e, 2, [45, 43]⟩], 3, [(0, [0, 1, 2]), (3, [0, 1, 2]), (4, [0]), (7, [0]), (10, [0]), (13, [0, 1]), (16, [0, 1])]⟩⟩)
 .nil .nil)) (.node (some ⟨[], 0, ⟨[⟨0, .pa, 0, [3]⟩, ⟨1, .pa, 0, [13]⟩, ⟨3, .pa, 0, [14]⟩, ⟨7, .r, 0, [15]⟩, ⟨0, .r, 0, [0]⟩, ⟨16, .pa, 0, [17]⟩, ⟨48, .pa, 0, [18]⟩, ⟨112, .r, 0, [19]⟩, ⟨255, .pa, 0, [16, 20]⟩], 0, [(3, [0]), (4, [0]), (7, [0])]⟩⟩)
 .nil .nil)))
 .nil .nil) .nil) .nil) .nil) (.node none
 (.node none
 (.node none
 (.node (some (.node none
 .nil (.node none
 .nil (.node none
 (.node (some ⟨[], 0, ⟨[⟨0, .pa, 0, [0]⟩, ⟨0, .pa, 0, [11]⟩, ⟨0, .pa, 0, [0]⟩, ⟨0, .pa, 0, [1]⟩, ⟨0, .pa, 0, [12]⟩, ⟨24, .pa, 0, [52, 53]⟩, ⟨0, .pa, 0, [0]⟩, ⟨0, .pa, 0, [1]⟩, ⟨0, .pa, 0, [12]⟩, ⟨384, .pa, 0, [56, 57]⟩, ⟨960, .pa, 0, [55, 58]⟩, ⟨1984, .r, 0, [59]⟩, ⟨0, .pa, 0, [0]⟩, ⟨0, .pa, 0, [11]⟩, ⟨12288, .pa, 0, [61, 62]⟩, ⟨28672, .r, 0, [63]⟩, ⟨65475, .pa, 0, [49, 50]⟩, ⟨131011, .e, 0, [65, 60]⟩, ⟨262143, .pa, 1, [51, 54]⟩, ⟨524287, .e, 1, [66, 64]⟩], 2, [(11, [0]), (15, [0])]⟩⟩)
 .nil .nil) .nil))))
 .nil .nil) .nil) (.node (some (.node none
 (.node (some ⟨[], 0, ⟨[⟨0, .r, 0, [0]⟩, ⟨0, .pa, 0, [2]⟩, ⟨3, .e, 0, [8, 9]⟩], 1, [(0, [0])]⟩⟩)
 .nil .nil) (.node (some ⟨[], 0, ⟨[⟨0, .pa, 0, [2]⟩, ⟨0, .r, 0, [0]⟩, ⟨2, .pa, 0, [12]⟩, ⟨6, .pa, 0, [13]⟩, ⟨14, .pa, 0, [14]⟩, ⟨30, .r, 0, [15]⟩, ⟨63, .e, 0, [11, 16]⟩, ⟨127, .pa, 1, [17]⟩, ⟨255, .pa, 1, [18]⟩, ⟨127, .pa, 1, [1]⟩, ⟨639, .e, 1, [20]⟩, ⟨2047, .pa, 2, [1]⟩, ⟨4095, .e, 2, [21, 19]⟩], 3, [(1, [0]), (5, [0])]⟩⟩)
 .nil .nil)))
 .nil .nil)) (.node none
 (.node (some (.node none
 (.node (some ⟨[], 0, ⟨[⟨0, .pa, 0, [0]⟩, ⟨0, .pa, 0, [1]⟩, ⟨0, .pa, 0, [0]⟩, ⟨0, .pa, 0, [3]⟩, ⟨0, .pa, 0, [0]⟩, ⟨0, .pa, 0, [3]⟩, ⟨48, .pa, 0, [15, 16]⟩, ⟨112, .r, 0, [17]⟩, ⟨0, .pa, 0, [0]⟩, ⟨0, .pa, 0, [1]⟩, ⟨768, .pa, 0, [19, 20]⟩, ⟨1792, .r, 0, [21]⟩, ⟨4083, .pa, 0, [11, 12]⟩, ⟨8179, .e, 0, [23, 18]⟩, ⟨16383, .pa, 1, [13, 14]⟩, ⟨32767, .e, 1, [24, 22]⟩], 2, [(7, [0]), (11, [0])]⟩⟩)
 (.node (some ⟨[], 0, ⟨[⟨0, .pa, 0, [9]⟩, ⟨0, .pa, 0, [10]⟩, ⟨3, .pa, 0, [29, 30]⟩, ⟨7, .pa, 0, [31]⟩, ⟨15, .pa, 0, [32, 0]⟩, ⟨15, .pa, 0, [32, 1]⟩, ⟨63, .pa, 0, [32, 33, 34]⟩, ⟨127, .r, 0, [32, 35]⟩, ⟨15, .pa, 0, [32, 0]⟩, ⟨15, .pa, 0, [32, 9]⟩, ⟨783, .pa, 0, [32, 37, 38]⟩, ⟨1807, .r, 0, [32, 39]⟩, ⟨4095, .e, 0, [32, 36, 40]⟩, ⟨8191, .pa, 1, [32, 41]⟩, ⟨16383, .pa, 1, [32, 42]⟩], 1, [(7, [0]), (11, [0])]⟩⟩)
 .nil .nil) (.node (some ⟨[], 0, ⟨[⟨0, .pa, 0, [9]⟩, ⟨0, .pa, 0, [10]⟩, ⟨3, .pa, 0, [46, 47]⟩, ⟨7, .pa, 0, [48]⟩, ⟨15, .pa, 0, [49, 0]⟩, ⟨15, .pa, 0, [49, 1]⟩, ⟨63, .pa, 0, [49, 50, 51]⟩, ⟨127, .r, 0, [49, 52]⟩, ⟨15, .pa, 0, [49, 0]⟩, ⟨15, .pa, 0, [49, 10]⟩, ⟨783, .pa, 0, [49, 54, 55]⟩, ⟨1807, .r, 0, [49, 56]⟩, ⟨4095, .e, 0, [49, 53, 57]⟩, ⟨8191, .pa, 1, [49, 58]⟩], 1, [(7, [0]), (11, [0])]⟩⟩)
 .nil .nil)) (.node none
 (.node none
 (.node (some ⟨[], 0, ⟨[⟨0, .pa, 0, [0]⟩, ⟨0, .pa, 0, [9]⟩, ⟨0, .pa, 0, [0]⟩, ⟨0, .pa, 0, [10]⟩, ⟨0, .pa, 0, [0]⟩, ⟨0, .pa, 0, [10]⟩, ⟨48, .pa, 0, [69, 70]⟩, ⟨112, .r, 0, [71]⟩, ⟨0, .pa, 0, [0]⟩, ⟨0, .pa, 0, [9]⟩, ⟨768, .pa, 0, [73, 74]⟩, ⟨1792, .r, 0, [75]⟩, ⟨4083, .pa, 0, [65, 66]⟩, ⟨8179, .e, 0, [77, 72]⟩, ⟨16383, .pa, 1, [67, 68]⟩, ⟨32767, .e, 1, [78, 76]⟩], 2, [(7, [0]), (11, [0])]⟩⟩)
 .nil .nil) .nil) .nil)))
 .nil .nil) (.node (some (.node none
 (.node none
 (.node (some ⟨[], 0, ⟨[⟨0, .r, 0, [0]⟩, ⟨1, .pa, 0, [5]⟩, ⟨3, .pa, 0, [6]⟩, ⟨7, .pa, 0, [7]⟩, ⟨15, .r, 0, [8]⟩, ⟨0, .r, 0, [0]⟩, ⟨32, .pa, 0, [10]⟩, ⟨96, .pa, 0, [11]⟩, ⟨224, .pa, 0, [12]⟩, ⟨480, .r, 0, [13]⟩, ⟨1023, .pa, 0, [9, 14]⟩, ⟨2047, .e, 0, [15]⟩, ⟨4095, .pa, 1, []⟩, ⟨8191, .pa, 1, [16]⟩], 1, [(0, [0]), (4, [0]), (5, [0]), (9, [0])]⟩⟩)
 .nil .nil) .nil) .nil))
 .nil .nil)))) (.node none
 (.node none
 .nil (.node none
 .nil (.node (some (.node none
 (.node (some ⟨[], 0, ⟨[⟨0, .pa, 0, [0]⟩, ⟨1, .pa, 0, [3]⟩, ⟨3, .pa, 0, [4]⟩, ⟨7, .r, 0, [5]⟩, ⟨15, .pa, 0, [6]⟩, ⟨31, .pa, 0, [7]⟩, ⟨63, .r, 0, [8]⟩, ⟨0, .pa, 0, [0]⟩, ⟨128, .pa, 0, [10]⟩, ⟨384, .pa, 0, [11]⟩, ⟨896, .r, 0, [12]⟩, ⟨2047, .pa, 0, [9, 13]⟩, ⟨4095, .pa, 0, [14]⟩, ⟨8191, .pa, 0, [15, 0]⟩, ⟨16383, .pa, 0, [15, 16]⟩, ⟨32767, .pa, 0, [15, 17]⟩, ⟨65535, .r, 0, [15, 18]⟩, ⟨131071, .pa, 0, [15, 19]⟩, ⟨262143, .pa, 0, [15, 20]⟩, ⟨524287, .r, 0, [15, 21]⟩, ⟨8191, .pa, 0, [15, 0]⟩, ⟨1056767, .pa, 0, [15, 23]⟩, ⟨3153919, .pa, 0, [15, 24]⟩, ⟨7348223, .r, 0, [15, 25]⟩, ⟨16777215, .e, 0, [15, 22, 26]⟩, ⟨33554431, .pa, 1, [15, 27]⟩, ⟨67108863, .pa, 1, [28]⟩], 1, [(3, [0]), (6, [0]), (10, [0]), (16, [0]), (19, [0]), (23, [0])]⟩⟩)
 .nil .nil) .nil))
 .nil .nil))) (.node none
 .nil (.node none
 (.node (some (.node none
 (.node none
 .nil (.node (some ⟨[], 0, ⟨[⟨0, .pa, 0, [0]⟩, ⟨0, .pa, 0, [3]⟩, ⟨0, .pa, 0, [0]⟩, ⟨0, .pa, 0, [3]⟩, ⟨0, .pa, 0, [0]⟩, ⟨0, .pa, 0, [3]⟩, ⟨48, .pa, 0, [15, 16]⟩, ⟨112, .pa, 0, [17]⟩, ⟨240, .r, 0, [18]⟩, ⟨496, .e, 0, [19]⟩, ⟨0, .pa, 1, [0]⟩, ⟨0, .pa, 1, [3]⟩, ⟨3072, .pa, 1, [21, 22]⟩, ⟨7168, .pa, 1, [23]⟩, ⟨15360, .r, 1, [24]⟩, ⟨32752, .e, 1, [25]⟩, ⟨65523, .pa, 2, [11, 12]⟩, ⟨131059, .pa, 2, [27]⟩, ⟨262131, .e, 2, [28, 20]⟩, ⟨524287, .pa, 3, [13, 14]⟩, ⟨1048575, .pa, 3, [29]⟩, ⟨2097151, .e, 3, [30, 26]⟩], 4, [(8, [0]), (14, [0, 1])]⟩⟩)
 .nil .nil)) .nil))
 .nil .nil) (.node (some (.node none
 (.node (some ⟨[], 0, ⟨[⟨0, .r, 0, [0]⟩, ⟨1, .pa, 0, [3]⟩, ⟨3, .pa, 0, [4]⟩, ⟨7, .r, 0, [5]⟩, ⟨15, .pa, 0, [6]⟩, ⟨31, .pa, 0, [7]⟩, ⟨63, .r, 0, [8]⟩, ⟨0, .r, 0, [0]⟩, ⟨128, .pa, 0, [10]⟩, ⟨384, .pa, 0, [11]⟩, ⟨896, .r, 0, [12]⟩, ⟨2047, .pa, 0, [9, 13]⟩], 0, [(0, [0]), (3, [0]), (6, [0]), (7, [0]), (10, [0])]⟩⟩)
 .nil .nil) .nil))
 .nil .nil)))))) (.node none
 (.node (some (.node none
 .nil (.node none
 .nil (.node none
 .nil (.node none
 .nil (.node (some ⟨[], 0, ⟨[⟨0, .r, 0, [16]⟩, ⟨0, .r, 0, [17]⟩, ⟨0, .pa, 0, [18]⟩, ⟨7, .e, 0, [104, 105, 106]⟩, ⟨0, .pa, 1, [18]⟩, ⟨16, .pa, 1, [108]⟩, ⟨0, .r, 1, [7]⟩, ⟨112, .pa, 1, [109, 110]⟩, ⟨240, .pa, 1, [111]⟩, ⟨511, .e, 1, [107, 112]⟩, ⟨1023, .pa, 2, [113]⟩], 2, [(0, [0]), (1, [0]), (6, [0, 1])]⟩⟩)
 .nil .nil))))))
 (.node none
 (.node (some (.node none
 (.node none
 (.node none
 (.node (some ⟨[], 0, ⟨[⟨0, .pa, 0, [5]⟩, ⟨1, .r, 0, [27]⟩, ⟨0, .pa, 0, [4]⟩, ⟨4, .e, 0, [29]⟩, ⟨12, .pa, 1, [30]⟩, ⟨31, .e, 1, [28, 31]⟩, ⟨63, .pa, 2, [5]⟩, ⟨127, .e, 2, [33, 32]⟩], 3, [(1, [0, 1])]⟩⟩)
 .nil .nil) .nil) .nil) (.node none
 .nil (.node none
 .nil (.node (some ⟨[], 0, ⟨[⟨0, .pa, 0, []⟩, ⟨0, .pa, 0, [4]⟩, ⟨2, .pa, 0, [58]⟩, ⟨6, .pa, 0, [59]⟩, ⟨14, .r, 0, [60]⟩, ⟨1, .e, 0, [2, 57]⟩, ⟨63, .e, 1, [3, 61]⟩], 2, [(4, [0, 1])]⟩⟩)
 .nil .nil)))))
 (.node (some (.node none
 (.node none
 .nil (.node none
 (.node none
 (.node (some ⟨[], 0, ⟨[⟨0, .pa, 0, [11]⟩, ⟨0, .pa, 0, [5]⟩, ⟨2, .r, 0, [57]⟩, ⟨0, .pa, 0, [4]⟩, ⟨8, .r, 0, [59]⟩, ⟨0, .pa, 0, [7]⟩, ⟨32, .r, 0, [61]⟩, ⟨120, .pa, 0, [60, 62]⟩, ⟨248, .pa, 0, [63]⟩, ⟨504, .r, 0, [64]⟩, ⟨1022, .pa, 0, [58, 65]⟩, ⟨2046, .pa, 0, [66]⟩, ⟨4094, .r, 0, [67]⟩, ⟨8191, .e, 0, [56, 68]⟩], 1, [(2, [0]), (4, [0]), (6, [0]), (9, [0]), (12, [0])]⟩⟩)
 .nil .nil) .nil) .nil)) .nil))
 (.node (some (.node none
 (.node (some ⟨[], 0, ⟨[⟨0, .pa, 0, [1]⟩, ⟨1, .r, 0, [5]⟩, ⟨3, .pa, 0, [6]⟩, ⟨7, .pa, 0, [7]⟩, ⟨15, .pa, 0, [8, 1]⟩, ⟨31, .r, 0, [8, 9]⟩, ⟨15, .pa, 0, [8, 0]⟩, ⟨79, .pa, 0, [8, 11]⟩, ⟨207, .pa, 0, [8, 12]⟩, ⟨463, .r, 0, [8, 13]⟩, ⟨15, .r, 0, [8, 2]⟩, ⟨1999, .pa, 0, [8, 14, 15]⟩, ⟨4095, .pa, 0, [8, 10, 16]⟩, ⟨8191, .pa, 0, [8, 17]⟩, ⟨16383, .pa, 0, [18]⟩], 0, [(1, [0]), (5, [0]), (9, [0]), (10, [0])]⟩⟩)
 .nil .nil) .nil))
 (.node (some (.node none
 (.node (some ⟨[], 0, ⟨[⟨0, .r, 0, [0]⟩, ⟨1, .pa, 0, [3]⟩, ⟨3, .pa, 0, [4]⟩, ⟨7, .r, 0, [5]⟩, ⟨15, .pa, 0, [6]⟩, ⟨31, .pa, 0, [7]⟩, ⟨63, .r, 0, [8]⟩, ⟨127, .r, 0, [9]⟩, ⟨0, .r, 0, [0]⟩, ⟨256, .pa, 0, [11]⟩, ⟨768, .pa, 0, [12]⟩, ⟨1792, .r, 0, [13]⟩, ⟨4095, .pa, 0, [10, 14]⟩], 0, [(0, [0]), (3, [0]), (6, [0]), (7, [0]), (8, [0]), (11, [0])]⟩⟩)
 (.node (some ⟨[], 0, ⟨[⟨0, .r, 0, [0]⟩, ⟨1, .pa, 0, [16]⟩, ⟨3, .pa, 0, [17]⟩, ⟨7, .r, 0, [18]⟩, ⟨0, .r, 0, [0]⟩, ⟨16, .pa, 0, [20]⟩, ⟨48, .pa, 0, [21]⟩, ⟨112, .r, 0, [22]⟩, ⟨240, .pa, 0, [23]⟩, ⟨496, .pa, 0, [24]⟩, ⟨1008, .r, 0, [25]⟩, ⟨0, .r, 0, [0]⟩, ⟨2048, .pa, 0, [27]⟩, ⟨6144, .pa, 0, [28]⟩, ⟨14336, .pa, 0, [29]⟩, ⟨30720, .r, 0, [30]⟩, ⟨63488, .pa, 0, [31]⟩, ⟨131056, .e, 0, [26, 32]⟩, ⟨262143, .pa, 1, [19]⟩, ⟨524287, .pa, 1, [34]⟩, ⟨1048575, .e, 1, [35, 33]⟩], 2, [(0, [0, 1]), (3, [0, 1]), (4, [0]), (7, [0]), (10, [0]), (11, [0]), (15, [0])]⟩⟩)
 .nil .nil) .nil) .nil))
 .nil .nil) .nil) .nil) .nil) (.node (some (.node none
 (.node (some ⟨[], 0, ⟨[⟨0, .r, 0, [4]⟩, ⟨0, .pa, 0, [1]⟩, ⟨2, .pa, 0, [17]⟩, ⟨6, .pa, 0, [18]⟩, ⟨14, .r, 0, [19]⟩, ⟨0, .pa, 0, [2]⟩, ⟨0, .r, 0, [7]⟩, ⟨127, .e, 0, [16, 20, 21, 22]⟩, ⟨255, .pa, 1, [23]⟩, ⟨511, .pa, 1, [15]⟩, ⟨511, .pa, 1, [15]⟩, ⟨511, .pa, 1, [15]⟩, ⟨0, .pa, 1, []⟩, ⟨5119, .pa, 1, [24]⟩, ⟨14335, .e, 1, [11, 25]⟩, ⟨32767, .pa, 2, [26]⟩], 2, [(0, [0]), (4, [0]), (6, [0])]⟩⟩)
 (.node none
 .nil (.node (some ⟨[], 0, ⟨[⟨0, .pa, 0, [4]⟩, ⟨1, .r, 0, [72]⟩, ⟨0, .pa, 0, [2]⟩, ⟨7, .pa, 0, [73, 74]⟩, ⟨15, .pa, 0, [75]⟩, ⟨31, .r, 0, [76]⟩, ⟨0, .pa, 0, [13]⟩, ⟨64, .pa, 0, [78]⟩, ⟨192, .pa, 0, [79]⟩, ⟨448, .r, 0, [80]⟩, ⟨1023, .pa, 0, [77, 81]⟩, ⟨2047, .r, 0, [82]⟩, ⟨0, .pa, 0, []⟩, ⟨8191, .e, 0, [14, 83]⟩], 1, [(1, [0]), (5, [0]), (9, [0]), (11, [0])]⟩⟩)
 (.node (some ⟨[], 0, ⟨[⟨0, .pa, 0, [13]⟩, ⟨0, .pa, 0, [13]⟩, ⟨0, .pa, 0, [13]⟩, ⟨0, .pa, 0, [11]⟩, ⟨8, .r, 0, [135]⟩, ⟨0, .pa, 0, [11]⟩, ⟨32, .r, 0, [137]⟩, ⟨1, .pa, 0, [132]⟩, ⟨129, .pa, 0, [139]⟩, ⟨385, .e, 0, [140]⟩, ⟨923, .pa, 1, [133]⟩, ⟨1947, .pa, 1, [141]⟩, ⟨3995, .e, 1, [142, 136]⟩, ⟨8191, .pa, 2, [134]⟩, ⟨16383, .pa, 2, [143]⟩, ⟨32767, .e, 2, [144, 138]⟩], 3, [(4, [0, 1]), (6, [0, 1, 2])]⟩⟩)
 .nil .nil) .nil)) (.node none
 (.node none
 (.node (some ⟨[], 0, ⟨[⟨0, .pa, 0, [13]⟩, ⟨1, .pa, 0, [115]⟩, ⟨3, .pa, 0, [116]⟩, ⟨7, .r, 0, [117]⟩, ⟨0, .pa, 0, [14]⟩, ⟨16, .r, 0, [119]⟩, ⟨0, .pa, 0, [11]⟩, ⟨64, .r, 0, [121]⟩, ⟨255, .pa, 0, [118, 120]⟩, ⟨511, .e, 0, [123, 122]⟩], 1, [(3, [0]), (5, [0]), (7, [0])]⟩⟩)
 .nil .nil) .nil) (.node none
 (.node (some ⟨[], 0, ⟨[⟨0, .pa, 0, [13]⟩, ⟨0, .pa, 0, [13]⟩, ⟨0, .pa, 0, [11]⟩, ⟨4, .r, 0, [150]⟩, ⟨1, .pa, 0, [148]⟩, ⟨17, .pa, 0, [152]⟩, ⟨49, .e, 0, [153]⟩, ⟨127, .pa, 1, [149]⟩, ⟨255, .pa, 1, [154]⟩, ⟨511, .e, 1, [155, 151]⟩], 2, [(3, [0, 1])]⟩⟩)
 .nil .nil) .nil))) .nil))
 (.node none
 (.node (some (.node none
 (.node none
 (.node none
 .nil (.node (some ⟨[], 0, ⟨[⟨0, .pa, 0, [4]⟩, ⟨0, .pa, 0, [5]⟩, ⟨3, .pa, 0, [35, 36]⟩, ⟨7, .r, 0, [37]⟩, ⟨0, .pa, 0, [4]⟩, ⟨0, .pa, 0, [5]⟩, ⟨32, .pa, 0, [40]⟩, ⟨112, .pa, 0, [39, 41]⟩, ⟨240, .r, 0, [42]⟩, ⟨511, .pa, 0, [38, 43]⟩], 0, [(3, [0]), (8, [0])]⟩⟩)
 .nil .nil)) .nil) (.node none
 .nil (.node (some ⟨[], 0, ⟨[⟨0, .pa, 0, [0]⟩, ⟨0, .pa, 0, [3]⟩, ⟨3, .pa, 0, [16, 17]⟩, ⟨7, .r, 0, [18]⟩, ⟨0, .pa, 0, [0]⟩, ⟨0, .pa, 0, [3]⟩, ⟨32, .pa, 0, [21]⟩, ⟨112, .pa, 0, [20, 22]⟩, ⟨240, .r, 0, [23]⟩, ⟨511, .pa, 0, [19, 24]⟩], 0, [(3, [0]), (8, [0])]⟩⟩)
 .nil .nil))))
 (.node (some (.node none
 .nil (.node none
 (.node (some ⟨[], 0, ⟨[⟨0, .pa, 0, [9]⟩, ⟨0, .pa, 0, [1]⟩, ⟨3, .pa, 0, [18, 19]⟩, ⟨7, .pa, 0, [20]⟩, ⟨15, .pa, 0, [21, 3]⟩, ⟨15, .pa, 0, [21, 0]⟩, ⟨15, .pa, 0, [21, 9]⟩, ⟨111, .pa, 0, [21, 23, 24]⟩, ⟨239, .r, 0, [21, 25]⟩, ⟨15, .pa, 0, [21, 0]⟩, ⟨15, .pa, 0, [21, 9]⟩, ⟨1039, .pa, 0, [21, 28]⟩, ⟨3599, .pa, 0, [21, 27, 29]⟩, ⟨7695, .r, 0, [21, 30]⟩, ⟨16383, .e, 0, [21, 22, 26, 31]⟩, ⟨32767, .pa, 1, [21, 32]⟩, ⟨65535, .pa, 1, [21, 33]⟩], 1, [(8, [0]), (13, [0])]⟩⟩)
 .nil .nil) (.node (some ⟨[], 0, ⟨[⟨0, .pa, 0, [0]⟩, ⟨0, .pa, 0, [9]⟩, ⟨0, .pa, 0, [0]⟩, ⟨0, .pa, 0, [9]⟩, ⟨8, .pa, 0, [40]⟩, ⟨0, .pa, 0, [0]⟩, ⟨0, .pa, 0, [9]⟩, ⟨64, .pa, 0, [43]⟩, ⟨224, .pa, 0, [42, 44]⟩, ⟨480, .r, 0, [45]⟩, ⟨0, .pa, 0, [0]⟩, ⟨0, .pa, 0, [9]⟩, ⟨3072, .pa, 0, [47, 48]⟩, ⟨7168, .r, 0, [49]⟩, ⟨16355, .pa, 0, [37, 38]⟩, ⟨32739, .e, 0, [51, 46]⟩, ⟨65535, .pa, 1, [39, 41]⟩, ⟨131071, .e, 1, [52, 50]⟩], 2, [(9, [0]), (13, [0])]⟩⟩)
 .nil .nil))))
 .nil .nil) .nil) .nil) (.node none
 (.node (some (.node none
 (.node none
 (.node none
 (.node none
 .nil (.node (some ⟨[], 0, ⟨[⟨0, .pa, 0, [0]⟩, ⟨0, .pa, 0, [10]⟩, ⟨0, .pa, 0, [0]⟩, ⟨0, .pa, 0, [10]⟩, ⟨8, .pa, 0, [120]⟩, ⟨0, .pa, 0, [0]⟩, ⟨0, .pa, 0, [10]⟩, ⟨64, .pa, 0, [123]⟩, ⟨224, .pa, 0, [122, 124]⟩, ⟨480, .r, 0, [125]⟩, ⟨0, .pa, 0, [0]⟩, ⟨0, .pa, 0, [10]⟩, ⟨3072, .pa, 0, [127, 128]⟩, ⟨7168, .r, 0, [129]⟩, ⟨16355, .pa, 0, [117, 118]⟩, ⟨32739, .e, 0, [131, 126]⟩, ⟨65535, .pa, 1, [119, 121]⟩, ⟨131071, .e, 1, [132, 130]⟩], 2, [(9, [0]), (13, [0])]⟩⟩)
 .nil .nil)) (.node (some ⟨[], 0, ⟨[⟨0, .pa, 0, [0]⟩, ⟨0, .pa, 0, [7]⟩, ⟨0, .pa, 0, [0]⟩, ⟨0, .pa, 0, [7]⟩, ⟨8, .pa, 0, [45]⟩, ⟨0, .pa, 0, [0]⟩, ⟨0, .pa, 0, [7]⟩, ⟨64, .pa, 0, [48]⟩, ⟨224, .pa, 0, [47, 49]⟩, ⟨480, .r, 0, [50]⟩, ⟨0, .pa, 0, [0]⟩, ⟨0, .pa, 0, [7]⟩, ⟨3072, .pa, 0, [52, 53]⟩, ⟨7168, .r, 0, [54]⟩, ⟨16355, .pa, 0, [42, 43]⟩, ⟨32739, .e, 0, [56, 51]⟩, ⟨65535, .pa, 1, [44, 46]⟩, ⟨131071, .e, 1, [57, 55]⟩], 2, [(9, [0]), (13, [0])]⟩⟩)
 .nil .nil)) (.node (some ⟨[], 0, ⟨[⟨0, .pa, 0, [7]⟩, ⟨0, .pa, 0, [2]⟩, ⟨3, .pa, 0, [17, 18]⟩, ⟨7, .pa, 0, [19]⟩, ⟨15, .pa, 0, [20, 0]⟩, ⟨15, .pa, 0, [20, 7]⟩, ⟨63, .pa, 0, [20, 21, 22]⟩, ⟨127, .r, 0, [20, 23]⟩, ⟨15, .pa, 0, [20, 0]⟩, ⟨15, .pa, 0, [20, 7]⟩, ⟨527, .pa, 0, [20, 26]⟩, ⟨1807, .pa, 0, [20, 25, 27]⟩, ⟨3855, .r, 0, [20, 28]⟩, ⟨8191, .e, 0, [20, 24, 29]⟩, ⟨16383, .pa, 1, [20, 30]⟩, ⟨32767, .pa, 1, [20, 31]⟩], 1, [(7, [0]), (12, [0])]⟩⟩)
 (.node none
 (.node (some ⟨[], 0, ⟨[⟨0, .pa, 0, [0]⟩, ⟨0, .pa, 0, [9]⟩, ⟨0, .pa, 0, [0]⟩, ⟨0, .pa, 0, [9]⟩, ⟨8, .pa, 0, [82]⟩, ⟨0, .pa, 0, [0]⟩, ⟨0, .pa, 0, [9]⟩, ⟨64, .pa, 0, [85]⟩, ⟨224, .pa, 0, [84, 86]⟩, ⟨480, .r, 0, [87]⟩, ⟨0, .pa, 0, [0]⟩, ⟨0, .pa, 0, [9]⟩, ⟨3072, .pa, 0, [89, 90]⟩, ⟨7168, .r, 0, [91]⟩, ⟨16355, .pa, 0, [79, 80]⟩, ⟨32739, .e, 0, [93, 88]⟩, ⟨65535, .pa, 1, [81, 83]⟩, ⟨131071, .e, 1, [94, 92]⟩], 2, [(9, [0]), (13, [0])]⟩⟩)
 .nil .nil) .nil) .nil)) (.node none
 (.node none
 (.node none
 (.node (some ⟨[], 0, ⟨[⟨0, .pa, 0, [0]⟩, ⟨0, .pa, 0, [9]⟩, ⟨3, .pa, 0, [68, 69]⟩, ⟨7, .r, 0, [70]⟩, ⟨0, .pa, 0, [0]⟩, ⟨0, .pa, 0, [9]⟩, ⟨32, .pa, 0, [73]⟩, ⟨112, .pa, 0, [72, 74]⟩, ⟨240, .r, 0, [75]⟩, ⟨511, .e, 0, [71, 76]⟩, ⟨1023, .pa, 1, [77]⟩], 1, [(3, [0]), (8, [0])]⟩⟩)
 .nil .nil) .nil) .nil) (.node none
 .nil (.node none
 (.node (some ⟨[], 0, ⟨[⟨0, .pa, 0, [0]⟩, ⟨0, .pa, 0, [10]⟩, ⟨3, .pa, 0, [106, 107]⟩, ⟨7, .r, 0, [108]⟩, ⟨0, .pa, 0, [0]⟩, ⟨0, .pa, 0, [10]⟩, ⟨32, .pa, 0, [111]⟩, ⟨112, .pa, 0, [110, 112]⟩, ⟨240, .r, 0, [113]⟩, ⟨511, .e, 0, [109, 114]⟩, ⟨1023, .pa, 1, [115]⟩], 1, [(3, [0]), (8, [0])]⟩⟩)
 .nil .nil) .nil)))))
 .nil .nil) .nil))) (.node none
 (.node (some (.node none
 (.node none
 (.node (some ⟨[], 0, ⟨[⟨0, .pa, 0, [6]⟩, ⟨0, .pa, 0, [0]⟩, ⟨2, .r, 0, [8]⟩, ⟨7, .pa, 0, [7, 9]⟩, ⟨15, .pa, 0, [10]⟩, ⟨31, .pa, 0, [11, 6]⟩, ⟨31, .pa, 0, [11, 1]⟩, ⟨95, .r, 0, [11, 13]⟩, ⟨255, .pa, 0, [11, 12, 14]⟩, ⟨511, .pa, 0, [11, 15]⟩, ⟨1023, .pa, 0, [16]⟩, ⟨2047, .pa, 0, [17, 0]⟩, ⟨2047, .pa, 0, [17, 6]⟩, ⟨8191, .pa, 0, [17, 18, 19]⟩, ⟨16383, .r, 0, [17, 20]⟩, ⟨2047, .pa, 0, [17, 1]⟩, ⟨2047, .pa, 0, [17, 6]⟩, ⟨100351, .pa, 0, [17, 22, 23]⟩, ⟨231423, .r, 0, [17, 24]⟩, ⟨524287, .pa, 0, [17, 21, 25]⟩, ⟨1048575, .pa, 0, [17, 26]⟩], 0, [(2, [0]), (7, [0]), (14, [0]), (18, [0])]⟩⟩)
 .nil .nil) .nil) .nil))
 (.node none
 (.node (some (.node none
 (.node (some ⟨[], 0, ⟨[⟨0, .pa, 0, [0]⟩, ⟨1, .pa, 0, [4]⟩, ⟨3, .pa, 0, [5]⟩, ⟨7, .r, 0, [6]⟩, ⟨0, .pa, 0, [1]⟩, ⟨16, .r, 0, [8]⟩, ⟨63, .pa, 0, [7, 9]⟩, ⟨127, .pa, 0, [10]⟩], 0, [(3, [0]), (5, [0])]⟩⟩)
 .nil .nil) .nil))
 (.node (some (.node none
 (.node (some ⟨[], 0, ⟨[⟨0, .r, 0, [0]⟩, ⟨1, .pa, 0, [3]⟩, ⟨3, .pa, 0, [4]⟩, ⟨7, .pa, 0, [5]⟩, ⟨15, .r, 0, [6]⟩, ⟨0, .r, 0, [0]⟩, ⟨32, .pa, 0, [8]⟩, ⟨96, .pa, 0, [9]⟩, ⟨224, .r, 0, [10]⟩, ⟨480, .pa, 0, [11]⟩, ⟨992, .pa, 0, [12]⟩, ⟨2016, .r, 0, [13]⟩, ⟨0, .r, 0, [0]⟩, ⟨4096, .pa, 0, [15]⟩, ⟨12288, .pa, 0, [16]⟩, ⟨28672, .pa, 0, [17]⟩, ⟨61440, .r, 0, [18]⟩, ⟨131040, .pa, 0, [14, 19]⟩, ⟨262112, .e, 0, [20]⟩, ⟨524287, .pa, 1, [7]⟩, ⟨1048575, .pa, 1, [21]⟩], 1, [(0, [0, 1]), (4, [0, 1]), (5, [0]), (8, [0]), (11, [0]), (12, [0]), (16, [0])]⟩⟩)
 .nil .nil) .nil))
 .nil .nil) .nil) (.node (some (.node none
 (.node none
 .nil (.node none
 (.node none
 (.node (some ⟨[], 0, ⟨[⟨0, .pa, 0, [1]⟩, ⟨1, .pa, 0, [81]⟩, ⟨3, .pa, 0, [82]⟩, ⟨7, .pa, 0, [83, 4]⟩, ⟨7, .pa, 0, [83, 0]⟩, ⟨7, .pa, 0, [83, 1]⟩, ⟨39, .pa, 0, [83, 86]⟩, ⟨119, .pa, 0, [83, 85, 87]⟩, ⟨247, .r, 0, [83, 88]⟩, ⟨7, .pa, 0, [83, 0]⟩, ⟨7, .pa, 0, [83, 13]⟩, ⟨1543, .pa, 0, [83, 90, 91]⟩, ⟨3591, .r, 0, [83, 92]⟩, ⟨8191, .e, 0, [83, 84, 89, 93]⟩, ⟨16383, .pa, 1, [83, 94]⟩, ⟨32767, .pa, 1, [83, 95]⟩, ⟨65535, .pa, 1, [83, 96]⟩], 1, [(8, [0]), (12, [0])]⟩⟩)
 .nil .nil) .nil) .nil)) .nil))
 .nil .nil)) (.node (some (.node (some ⟨[], 0, ⟨[⟨0, .r, 0, [0]⟩, ⟨1, .pa, 0, [2]⟩, ⟨3, .pa, 0, [3]⟩, ⟨7, .r, 0, [4]⟩, ⟨0, .pa, 0, [1]⟩, ⟨16, .r, 0, [6]⟩, ⟨63, .pa, 0, [5, 7]⟩, ⟨127, .r, 0, [8]⟩, ⟨255, .pa, 0, [9]⟩], 0, [(0, [0]), (3, [0]), (5, [0]), (7, [0])]⟩⟩)
 .nil (.node (some ⟨[], 0, ⟨[⟨0, .r, 0, [0]⟩, ⟨1, .pa, 0, [16]⟩, ⟨3, .pa, 0, [17]⟩, ⟨7, .r, 0, [18]⟩, ⟨0, .pa, 0, [1]⟩, ⟨16, .r, 0, [20]⟩, ⟨63, .pa, 0, [19, 21]⟩, ⟨127, .r, 0, [22]⟩, ⟨255, .pa, 0, [23]⟩, ⟨511, .pa, 0, [19, 21]⟩, ⟨1023, .e, 0, [25, 24]⟩], 1, [(0, [0]), (3, [0]), (5, [0]), (7, [0])]⟩⟩)
 .nil .nil)))
 .nil .nil)) (.node none
 (.node (some (.node none
 (.node (some ⟨[], 0, ⟨[⟨0, .pa, 0, [0]⟩, ⟨1, .pa, 0, [4]⟩, ⟨3, .pa, 0, [5]⟩, ⟨7, .pa, 0, [6]⟩, ⟨15, .r, 0, [7]⟩, ⟨0, .pa, 0, [3]⟩, ⟨32, .r, 0, [9]⟩, ⟨127, .pa, 0, [8, 10]⟩, ⟨255, .pa, 0, [11]⟩, ⟨511, .r, 0, [12]⟩], 0, [(4, [0]), (6, [0]), (9, [0])]⟩⟩)
 .nil .nil) .nil))
 .nil (.node (some (.node none
 .nil (.node none
 (.node (some ⟨[], 0, ⟨[⟨0, .pa, 0, [1]⟩, ⟨1, .r, 0, [15]⟩, ⟨3, .pa, 0, [16]⟩, ⟨7, .pa, 0, [17]⟩, ⟨15, .pa, 0, [18, 1]⟩, ⟨31, .r, 0, [18, 19]⟩, ⟨63, .pa, 0, [18, 20]⟩, ⟨127, .pa, 0, [18, 21]⟩, ⟨255, .pa, 0, [22]⟩, ⟨511, .pa, 0, [23, 1]⟩, ⟨1023, .r, 0, [23, 24]⟩, ⟨2047, .e, 0, [23, 25]⟩, ⟨4095, .pa, 1, [23, 26]⟩, ⟨8191, .pa, 1, [23, 27]⟩, ⟨16383, .pa, 1, [28]⟩, ⟨32767, .pa, 1, [29, 1]⟩, ⟨65535, .r, 1, [29, 30]⟩, ⟨131071, .pa, 1, [29, 31]⟩, ⟨262143, .pa, 1, [29, 32]⟩, ⟨524287, .pa, 1, [33]⟩, ⟨1048575, .pa, 1, [34, 1]⟩, ⟨2097151, .r, 1, [34, 35]⟩, ⟨4194303, .r, 1, [34, 36]⟩, ⟨1048575, .pa, 1, [34, 1]⟩, ⟨9437183, .r, 1, [34, 38]⟩, ⟨26214399, .e, 1, [34, 39]⟩, ⟨67108863, .pa, 2, [34, 37, 40]⟩, ⟨134217727, .pa, 2, [34, 41]⟩, ⟨268435455, .pa, 2, [42]⟩, ⟨536870911, .pa, 2, [43, 1]⟩, ⟨1073741823, .r, 2, [43, 44]⟩, ⟨2147483647, .r, 2, [43, 45]⟩, ⟨4294967295, .pa, 2, [43, 46]⟩, ⟨8589934591, .pa, 2, [43, 47]⟩, ⟨17179869183, .pa, 2, [48]⟩, ⟨34359738367, .pa, 2, [49, 3]⟩, ⟨68719476735, .pa, 2, [49, 50]⟩, ⟨137438953471, .pa, 2, [49, 51]⟩, ⟨274877906943, .pa, 2, [52, 1]⟩, ⟨549755813887, .r, 2, [52, 53]⟩, ⟨1099511627775, .pa, 2, [52, 54]⟩, ⟨2199023255551, .pa, 2, [49, 52, 55]⟩, ⟨4398046511103, .pa, 2, [49, 56]⟩], 2, [(1, [0]), (5, [0]), (10, [0]), (16, [1]), (21, [1, 2]), (22, [1, 2]), (24, [1]), (30, [2]), (31, [2]), (39, [2])]⟩⟩)
 .nil .nil) .nil)))
 .nil .nil)) (.node none
 (.node (some (.node none
 (.node none
 (.node none
 (.node none
 (.node (some ⟨[], 0, ⟨[⟨0, .pa, 0, [9]⟩, ⟨1, .pa, 0, [61]⟩, ⟨3, .pa, 0, [62]⟩, ⟨7, .pa, 0, [63, 4]⟩, ⟨15, .r, 0, [63, 64]⟩, ⟨31, .pa, 0, [63, 65]⟩, ⟨63, .pa, 0, [63, 66]⟩, ⟨127, .pa, 0, [67]⟩, ⟨255, .pa, 0, [68, 4]⟩, ⟨511, .r, 0, [68, 69]⟩, ⟨255, .pa, 0, [68, 0]⟩, ⟨1279, .pa, 0, [68, 71]⟩, ⟨3327, .pa, 0, [68, 72]⟩, ⟨7423, .r, 0, [68, 73]⟩, ⟨16383, .pa, 0, [68, 70, 74]⟩, ⟨32767, .pa, 0, [68, 75]⟩, ⟨65535, .pa, 0, [76]⟩, ⟨131071, .pa, 0, [77, 4]⟩, ⟨262143, .r, 0, [77, 78]⟩, ⟨524287, .pa, 0, [77, 79]⟩, ⟨1048575, .pa, 0, [77, 80]⟩, ⟨2097151, .pa, 0, [77, 81]⟩, ⟨4194303, .e, 0, [77, 82]⟩, ⟨8388607, .pa, 1, [77, 83]⟩, ⟨16777215, .pa, 1, [84]⟩], 1, [(4, [0]), (9, [0]), (13, [0]), (18, [0])]⟩⟩)
 .nil .nil) .nil) .nil) .nil) .nil))
 .nil .nil) .nil)))) (.node (some (.node none
 (.node none
 .nil (.node (some ⟨[], 0, ⟨[⟨0, .r, 0, [1]⟩, ⟨0, .pa, 0, [2]⟩, ⟨3, .e, 0, [26, 27]⟩, ⟨0, .pa, 1, []⟩, ⟨0, .pa, 1, []⟩, ⟨24, .pa, 1, [29, 30]⟩, ⟨63, .e, 1, [28, 31]⟩, ⟨127, .pa, 2, [32]⟩, ⟨255, .pa, 2, [33, 4]⟩, ⟨511, .pa, 2, [33, 34]⟩, ⟨1023, .pa, 2, [35]⟩, ⟨2047, .pa, 2, [36, 3]⟩, ⟨4095, .r, 2, [36, 37]⟩, ⟨8191, .pa, 2, [36, 38]⟩, ⟨16383, .pa, 2, [36, 39]⟩, ⟨32767, .pa, 2, [40]⟩, ⟨65535, .r, 2, [41, 1]⟩, ⟨65535, .pa, 2, [41, 2]⟩, ⟨262143, .e, 2, [41, 42, 43]⟩, ⟨65535, .pa, 3, [41]⟩, ⟨1048575, .e, 3, [41, 44, 45]⟩, ⟨2097151, .pa, 4, [41, 46]⟩, ⟨4194303, .pa, 4, [47]⟩, ⟨8388607, .pa, 4, [48, 6]⟩, ⟨16777215, .pa, 4, [48, 49]⟩, ⟨33554431, .pa, 4, [50]⟩, ⟨67108863, .pa, 4, [51, 5]⟩, ⟨67108863, .pa, 4, [51]⟩, ⟨268435455, .e, 4, [51, 52, 53]⟩, ⟨536870911, .pa, 5, [51, 54]⟩, ⟨1073741823, .pa, 5, [55]⟩, ⟨2147483647, .r, 5, [56, 1]⟩, ⟨2147483647, .pa, 5, [56, 2]⟩, ⟨6442450943, .pa, 5, [56, 58]⟩, ⟨17179869183, .e, 5, [56, 57, 59]⟩, ⟨34359738367, .r, 6, [56, 60]⟩, ⟨68719476735, .pa, 6, [56, 61]⟩, ⟨137438953471, .pa, 6, [56, 62]⟩, ⟨274877906943, .pa, 6, [63]⟩], 6, [(0, [0]), (12, [2]), (16, [2]), (31, [5]), (35, [6])]⟩⟩)
 .nil .nil)) (.node none
 (.node (some ⟨[], 0, ⟨[⟨0, .r, 0, [1]⟩, ⟨0, .pa, 0, [2]⟩, ⟨2, .pa, 0, [21]⟩, ⟨7, .e, 0, [20, 22]⟩, ⟨15, .pa, 1, [23]⟩, ⟨31, .pa, 1, [19]⟩, ⟨31, .pa, 1, [19]⟩, ⟨63, .pa, 1, [24]⟩, ⟨255, .pa, 1, [25]⟩], 1, [(0, [0])]⟩⟩)
 .nil .nil) .nil)))
 (.node none
 (.node none
 (.node none
 (.node (some (.node none
 (.node (some ⟨[], 0, ⟨[⟨0, .pa, 0, [0]⟩, ⟨1, .e, 0, [4]⟩, ⟨3, .pa, 1, [5]⟩, ⟨7, .pa, 1, [6, 0]⟩, ⟨15, .pa, 1, [6, 7]⟩, ⟨31, .pa, 1, [6, 8]⟩, ⟨63, .r, 1, [6, 9]⟩, ⟨7, .pa, 1, [6, 1]⟩, ⟨135, .r, 1, [6, 11]⟩, ⟨511, .pa, 1, [6, 10, 12]⟩, ⟨1023, .pa, 1, [6, 13]⟩, ⟨2047, .pa, 1, [14]⟩], 1, [(6, [1]), (8, [1])]⟩⟩)
 .nil .nil) .nil))
 (.node (some (.node none
 .nil (.node none
 (.node (some ⟨[], 0, ⟨[⟨0, .r, 0, [0]⟩, ⟨1, .pa, 0, [22]⟩, ⟨3, .pa, 0, [23]⟩, ⟨7, .r, 0, [24]⟩, ⟨0, .r, 0, [0]⟩, ⟨16, .pa, 0, [26]⟩, ⟨48, .pa, 0, [27]⟩, ⟨112, .r, 0, [28]⟩, ⟨240, .pa, 0, [29]⟩, ⟨496, .pa, 0, [30]⟩, ⟨1008, .r, 0, [31]⟩, ⟨2032, .pa, 0, [32]⟩, ⟨4095, .pa, 0, [25]⟩, ⟨8191, .pa, 0, [34]⟩, ⟨16383, .e, 0, [35, 33]⟩], 1, [(0, [0]), (3, [0]), (4, [0]), (7, [0]), (10, [0])]⟩⟩)
 .nil .nil) .nil)))
 .nil .nil) .nil) .nil) (.node (some (.node (some ⟨[], 0, ⟨[⟨0, .r, 0, [1]⟩, ⟨1, .pa, 0, [2]⟩, ⟨3, .pa, 0, [3]⟩, ⟨7, .r, 0, [4]⟩, ⟨0, .pa, 0, [0]⟩, ⟨16, .r, 0, [6]⟩, ⟨0, .pa, 0, [0]⟩, ⟨64, .r, 0, [8]⟩, ⟨192, .pa, 0, [9]⟩, ⟨448, .r, 0, [10]⟩, ⟨0, .r, 0, [1]⟩, ⟨1024, .pa, 0, [12]⟩, ⟨3072, .pa, 0, [13]⟩, ⟨7168, .r, 0, [14]⟩, ⟨16320, .e, 0, [11, 15]⟩, ⟨32767, .pa, 1, [5, 7]⟩, ⟨65535, .e, 1, [17, 16]⟩], 2, [(0, [0, 1]), (3, [0, 1]), (5, [0, 1]), (7, [0]), (9, [0]), (10, [0]), (13, [0])]⟩⟩)
 .nil .nil))
 (.node (some (.node none
 (.node (some ⟨[], 0, ⟨[⟨0, .pa, 0, [3]⟩, ⟨1, .r, 0, [6]⟩, ⟨0, .pa, 0, [0]⟩, ⟨4, .pa, 0, [8]⟩, ⟨12, .pa, 0, [9]⟩, ⟨28, .r, 0, [10]⟩, ⟨0, .pa, 0, [3]⟩, ⟨64, .r, 0, [12]⟩, ⟨252, .r, 0, [11, 13]⟩, ⟨0, .pa, 0, [0]⟩, ⟨0, .pa, 0, [3]⟩, ⟨1024, .r, 0, [16]⟩, ⟨3584, .e, 0, [15, 17]⟩, ⟨8191, .pa, 1, [7, 14, 18]⟩, ⟨0, .pa, 1, []⟩, ⟨32767, .e, 1, [4, 19]⟩], 2, [(1, [0, 1]), (5, [0, 1]), (7, [0, 1]), (8, [0, 1]), (11, [0])]⟩⟩)
 .nil .nil) .nil))
 (.node (some (.node none
 (.node none
 .nil (.node none
 (.node (some ⟨[], 0, ⟨[⟨0, .pa, 0, [1]⟩, ⟨1, .r, 0, [43]⟩, ⟨3, .pa, 0, [44]⟩, ⟨7, .pa, 0, [45]⟩, ⟨15, .pa, 0, [46, 3]⟩, ⟨31, .pa, 0, [46, 47]⟩, ⟨63, .pa, 0, [46, 48]⟩, ⟨127, .pa, 0, [49]⟩, ⟨255, .pa, 0, [50, 3]⟩, ⟨511, .pa, 0, [50, 51]⟩, ⟨1023, .pa, 0, [50, 52]⟩, ⟨2047, .pa, 0, [53]⟩, ⟨4095, .pa, 0, [54, 3]⟩, ⟨8191, .pa, 0, [54, 55]⟩, ⟨16383, .pa, 0, [54, 4, 56]⟩, ⟨32767, .r, 0, [54, 57]⟩, ⟨4095, .pa, 0, [54, 1]⟩, ⟨69631, .r, 0, [54, 59]⟩, ⟨262143, .e, 0, [54, 58, 60]⟩, ⟨524287, .pa, 1, [54, 61]⟩, ⟨1048575, .pa, 1, [62]⟩], 1, [(1, [0]), (15, [0]), (17, [0])]⟩⟩)
 .nil .nil) .nil)) .nil))
 .nil .nil) .nil) .nil)) (.node none
 (.node none
 (.node none
 (.node (some (.node none
 (.node none
 (.node (some ⟨[], 0, ⟨[⟨0, .pa, 0, [0]⟩, ⟨0, .pa, 0, [8]⟩, ⟨0, .pa, 0, [0]⟩, ⟨0, .pa, 0, [9]⟩, ⟨0, .pa, 0, [0]⟩, ⟨0, .pa, 0, [9]⟩, ⟨48, .pa, 0, [20, 21]⟩, ⟨112, .r, 0, [22]⟩, ⟨0, .pa, 0, [0]⟩, ⟨0, .pa, 0, [8]⟩, ⟨768, .pa, 0, [24, 25]⟩, ⟨1792, .r, 0, [26]⟩, ⟨4083, .pa, 0, [16, 17]⟩, ⟨8179, .e, 0, [28, 23]⟩, ⟨16383, .pa, 1, [18, 19]⟩, ⟨32767, .e, 1, [29, 27]⟩], 2, [(7, [0]), (11, [0])]⟩⟩)
 .nil .nil) .nil) .nil))
 .nil .nil) .nil) (.node (some (.node none
 .nil (.node none
 (.node (some ⟨[], 9, ⟨[⟨0, .pa, 0, [1]⟩, ⟨1, .pa, 0, [23]⟩, ⟨3, .pa, 0, [24]⟩, ⟨7, .r, 0, [25]⟩, ⟨0, .pa, 0, [0]⟩, ⟨16, .e, 0, [27]⟩, ⟨15, .r, 1, [26]⟩, ⟨0, .pa, 1, []⟩, ⟨255, .e, 1, [26, 30]⟩], 2, [(3, [0, 1]), (6, [0, 1])]⟩⟩)
 .nil .nil) .nil)))
 .nil .nil)) (.node (some (.node none
 (.node (some ⟨[], 0, ⟨[⟨0, .r, 0, [1]⟩, ⟨1, .e, 0, [5]⟩, ⟨0, .pa, 1, [2]⟩, ⟨4, .r, 1, [7]⟩, ⟨15, .e, 1, [6, 8]⟩, ⟨31, .pa, 2, [9]⟩], 2, [(0, [0]), (3, [0, 1])]⟩⟩)
 .nil .nil) .nil))
 .nil (.node (some (.node none
 (.node (some ⟨[], 0, ⟨[⟨0, .r, 0, [0]⟩, ⟨1, .pa, 0, [4]⟩, ⟨3, .pa, 0, [5]⟩, ⟨7, .r, 0, [6]⟩, ⟨15, .pa, 0, [7]⟩, ⟨31, .pa, 0, [8]⟩, ⟨63, .r, 0, [9]⟩, ⟨0, .r, 0, [0]⟩, ⟨128, .pa, 0, [11]⟩, ⟨384, .pa, 0, [12]⟩, ⟨896, .r, 0, [13]⟩, ⟨2047, .e, 0, [10, 14]⟩, ⟨4095, .pa, 1, [15]⟩], 1, [(0, [0]), (3, [0]), (6, [0]), (7, [0]), (10, [0])]⟩⟩)
 .nil .nil) (.node none
 (.node (some ⟨[], 0, ⟨[⟨0, .r, 0, [0]⟩, ⟨1, .pa, 0, [18]⟩, ⟨3, .pa, 0, [19]⟩, ⟨7, .r, 0, [20]⟩, ⟨0, .r, 0, [0]⟩, ⟨16, .pa, 0, [22]⟩, ⟨48, .pa, 0, [23]⟩, ⟨112, .r, 0, [24]⟩, ⟨240, .pa, 0, [25]⟩, ⟨496, .pa, 0, [26]⟩, ⟨1008, .r, 0, [27]⟩, ⟨0, .pa, 0, [3]⟩, ⟨0, .pa, 0, [3]⟩, ⟨4096, .pa, 0, [30]⟩, ⟨16368, .e, 0, [28, 29, 31]⟩, ⟨32767, .pa, 1, [21]⟩, ⟨65535, .pa, 1, [33]⟩, ⟨131071, .e, 1, [34, 32]⟩], 2, [(0, [0, 1]), (3, [0, 1]), (4, [0]), (7, [0]), (10, [0])]⟩⟩)
 .nil .nil) .nil)))
 .nil .nil)))) (.node (some (.node none
 .nil (.node none
 .nil (.node (some ⟨[], 0, ⟨[⟨0, .pa, 0, [0]⟩, ⟨0, .pa, 0, [5]⟩, ⟨3, .pa, 0, [17, 18]⟩, ⟨7, .r, 0, [19]⟩, ⟨0, .pa, 0, [1]⟩, ⟨0, .pa, 0, [5]⟩, ⟨48, .pa, 0, [21, 22]⟩, ⟨112, .r, 0, [23]⟩, ⟨255, .pa, 0, [20, 24]⟩], 0, [(3, [0]), (7, [0])]⟩⟩)
 .nil .nil))))
 (.node (some (.node none
 (.node (some ⟨[], 0, ⟨[⟨0, .pa, 0, [4]⟩, ⟨1, .r, 0, [7]⟩, ⟨0, .pa, 0, [2]⟩, ⟨7, .pa, 0, [8, 9]⟩, ⟨15, .pa, 0, [10]⟩, ⟨31, .r, 0, [11]⟩, ⟨63, .pa, 0, [12]⟩, ⟨127, .pa, 0, [13]⟩, ⟨255, .pa, 0, [14, 4]⟩, ⟨511, .r, 0, [14, 15]⟩, ⟨255, .pa, 0, [14, 2]⟩, ⟨2047, .pa, 0, [14, 16, 17]⟩, ⟨4095, .pa, 0, [14, 18]⟩, ⟨8191, .r, 0, [14, 19]⟩, ⟨255, .pa, 0, [14, 3]⟩, ⟨16639, .r, 0, [14, 21]⟩, ⟨255, .pa, 0, [14, 2]⟩, ⟨114943, .pa, 0, [14, 22, 23]⟩, ⟨246015, .pa, 0, [14, 24]⟩, ⟨508159, .r, 0, [14, 25]⟩, ⟨1032447, .r, 0, [14, 26]⟩, ⟨2097151, .pa, 0, [14, 20, 27]⟩, ⟨4194303, .pa, 0, [14, 28]⟩, ⟨8388607, .pa, 0, [29]⟩], 0, [(1, [0]), (5, [0]), (9, [0]), (13, [0]), (15, [0]), (19, [0]), (20, [0])]⟩⟩)
 .nil .nil) .nil))
 (.node (some (.node none
 .nil (.node (some ⟨[], 0, ⟨[⟨0, .pa, 0, [0]⟩, ⟨1, .pa, 0, [6]⟩, ⟨3, .pa, 0, [7]⟩, ⟨7, .pa, 0, [8]⟩, ⟨15, .r, 0, [9]⟩, ⟨0, .pa, 0, [3]⟩, ⟨0, .pa, 0, [0]⟩, ⟨64, .pa, 0, [12]⟩, ⟨192, .pa, 0, [13]⟩, ⟨448, .pa, 0, [14]⟩, ⟨960, .r, 0, [15]⟩, ⟨2016, .e, 0, [11, 16]⟩, ⟨4064, .pa, 1, [17]⟩, ⟨8160, .pa, 1, [18]⟩, ⟨16383, .pa, 1, [10, 19]⟩, ⟨0, .pa, 1, []⟩, ⟨65535, .e, 1, [4, 20]⟩], 2, [(4, [0, 1]), (10, [0])]⟩⟩)
 .nil .nil)))
 .nil (.node (some (.node none
 .nil (.node (some ⟨[], 0, ⟨[⟨0, .pa, 0, [0]⟩, ⟨0, .pa, 0, [1]⟩, ⟨0, .pa, 0, [2]⟩, ⟨6, .pa, 0, [13, 14]⟩, ⟨1, .pa, 0, [12]⟩, ⟨31, .pa, 0, [16, 15]⟩, ⟨63, .r, 0, [17]⟩], 0, [(6, [0])]⟩⟩)
 .nil .nil)))
 .nil .nil)) (.node none
 (.node (some (.node none
 .nil (.node none
 .nil (.node none
 (.node (some ⟨[], 0, ⟨[⟨0, .pa, 0, [0]⟩, ⟨0, .pa, 0, [6]⟩, ⟨0, .pa, 0, [0]⟩, ⟨0, .pa, 0, [6]⟩, ⟨0, .pa, 0, [10]⟩, ⟨24, .pa, 0, [36, 37]⟩, ⟨0, .pa, 0, [0]⟩, ⟨0, .pa, 0, [6]⟩, ⟨0, .pa, 0, [10]⟩, ⟨384, .pa, 0, [40, 41]⟩, ⟨960, .pa, 0, [39, 42]⟩, ⟨1984, .r, 0, [43]⟩, ⟨0, .pa, 0, [0]⟩, ⟨0, .pa, 0, [6]⟩, ⟨12288, .pa, 0, [45, 46]⟩, ⟨28672, .r, 0, [47]⟩, ⟨65475, .pa, 0, [33, 34]⟩, ⟨131011, .e, 0, [49, 44]⟩, ⟨262143, .pa, 1, [35, 38]⟩, ⟨524287, .e, 1, [50, 48]⟩], 2, [(11, [0]), (15, [0])]⟩⟩)
 .nil .nil) .nil))))
 .nil .nil) (.node (some (.node none
 (.node none
 (.node (some ⟨[], 0, ⟨[⟨0, .pa, 0, [0]⟩, ⟨1, .pa, 0, [11]⟩, ⟨3, .pa, 0, [12]⟩, ⟨7, .r, 0, [13]⟩, ⟨0, .pa, 0, [0]⟩, ⟨16, .pa, 0, [15]⟩, ⟨48, .pa, 0, [16]⟩, ⟨112, .r, 0, [17]⟩, ⟨255, .pa, 0, [14]⟩, ⟨511, .pa, 0, [19]⟩, ⟨1023, .e, 0, [20, 18]⟩], 1, [(3, [0]), (7, [0])]⟩⟩)
 .nil .nil) .nil) .nil))
 .nil .nil))) (.node (some (.node none
 .nil (.node none
 .nil (.node (some ⟨[], 0, ⟨[⟨0, .pa, 0, [0]⟩, ⟨0, .pa, 0, [5]⟩, ⟨3, .pa, 0, [16, 17]⟩, ⟨7, .r, 0, [18]⟩, ⟨0, .pa, 0, [1]⟩, ⟨0, .pa, 0, [5]⟩, ⟨48, .pa, 0, [20, 21]⟩, ⟨112, .r, 0, [22]⟩, ⟨255, .pa, 0, [19, 23]⟩], 0, [(3, [0]), (7, [0])]⟩⟩)
 .nil .nil))))
 (.node (some (.node none
 .nil (.node none
 .nil (.node (some ⟨[], 0, ⟨[⟨0, .pa, 0, [9]⟩, ⟨1, .pa, 0, [47]⟩, ⟨3, .pa, 0, [48, 3]⟩, ⟨7, .r, 0, [48, 49]⟩, ⟨3, .pa, 0, [48, 5]⟩, ⟨19, .r, 0, [48, 51]⟩, ⟨63, .pa, 0, [48, 50, 52]⟩, ⟨127, .pa, 0, [48, 53]⟩, ⟨255, .r, 0, [48, 54]⟩, ⟨3, .r, 0, [48, 5]⟩, ⟨3, .pa, 0, [48, 7]⟩, ⟨2047, .e, 0, [48, 55, 56, 57]⟩, ⟨4095, .pa, 1, [48, 58]⟩, ⟨8191, .pa, 1, [59]⟩, ⟨16383, .pa, 1, [60, 5]⟩, ⟨32767, .r, 1, [60, 61]⟩, ⟨65535, .pa, 1, [60, 62]⟩, ⟨131071, .pa, 1, [60, 63]⟩, ⟨262143, .pa, 1, [64, 8]⟩, ⟨524287, .pa, 1, [60, 64, 65]⟩, ⟨1048575, .pa, 1, [60, 66]⟩, ⟨2097151, .pa, 1, [67]⟩], 1, [(3, [0]), (5, [0]), (8, [0]), (9, [0]), (15, [1])]⟩⟩)
 .nil .nil))))
 .nil (.node (some (.node (some ⟨[], 0, ⟨[⟨0, .r, 0, [0]⟩, ⟨1, .pa, 0, [2]⟩, ⟨3, .pa, 0, [3]⟩, ⟨7, .pa, 0, [4]⟩, ⟨15, .r, 0, [5]⟩, ⟨0, .r, 0, [1]⟩, ⟨0, .r, 0, [0]⟩, ⟨64, .e, 0, [8]⟩, ⟨255, .pa, 1, [6, 7]⟩, ⟨511, .pa, 1, [10]⟩, ⟨1023, .e, 1, [11, 9]⟩], 2, [(0, [0, 1]), (4, [0, 1]), (5, [0, 1]), (6, [0])]⟩⟩)
 .nil .nil))
 .nil .nil)) (.node none
 .nil (.node (some (.node none
 .nil (.node (some ⟨[], 0, ⟨[⟨0, .r, 0, [0]⟩, ⟨1, .pa, 0, [6]⟩, ⟨3, .pa, 0, [7]⟩, ⟨7, .r, 0, [8]⟩, ⟨15, .pa, 0, [9]⟩, ⟨31, .pa, 0, [10]⟩, ⟨63, .r, 0, [11]⟩, ⟨0, .pa, 0, [3]⟩, ⟨128, .e, 0, [13]⟩, ⟨511, .pa, 1, [12]⟩, ⟨1023, .pa, 1, [14]⟩], 1, [(0, [0, 1]), (3, [0, 1]), (6, [0, 1])]⟩⟩)
 .nil .nil)))
 .nil .nil))))))))
-- types 383 funcs 338
end Go.As.Try
