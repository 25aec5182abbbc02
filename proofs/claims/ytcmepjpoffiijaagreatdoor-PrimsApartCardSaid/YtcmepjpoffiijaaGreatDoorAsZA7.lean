import GoSem.Claim
import Derived.Orders
import Derived.Scope
import Derived.LoopN
import Derived.Below
import GoSem.Core.View
import GoSem.Core.Layout
import GoSem.Op.Equal
import Derived.WalkKit
import Derived.Lib.Strings
import Derived.Laws.IdiomStrings
import Derived.Laws.RangeString
import Derived.Laws.StructEq
import Derived.Lib.Bytealg
import Derived.Lib.IndexMore
import Derived.Deep.LoopGhost
import Derived.IntWalk
import Derived.ChangeArms
import Derived.DataReads
import GoSem.ClaimJoined
import Derived.KernelRfl
import Derived.Test.YtcmepjpoffiijaaGreatDoorProg
import Derived.Shelf.Strings.Search3
import Derived.Shelf.LaysM
import Derived.Shelf.Strings.Shaped
import Derived.Test.YtcmepjpoffiijaaGreatDoorAsZA6
set_option linter.unusedSectionVars false
set_option linter.unusedVariables false
set_option linter.unusedSimpArgs false
section
namespace Go.As.Try
open Go hiding Stat
open Go.As Go.Proofs
set_option maxRecDepth 100000
abbrev hP (m n : Nat) (l : List Nat) : Ib := ⟨m, .pa, n, l⟩
abbrev hR (m n : Nat) (l : List Nat) : Ib := ⟨m, .r, n, l⟩
abbrev hE (m n : Nat) (l : List Nat) : Ib := ⟨m, .e, n, l⟩
abbrev tF : TI := ⟨.func, 1, 8, [.BO], false, none⟩
abbrev zI : AV := .int .i64 (.lit 0)
abbrev zU : AV := .int .u8 (.lit 0)
def tab : Tr TI := (.node none (.node (some tF)
 (.node (some ⟨.int .i64, 1, 8, [zI], false, none⟩)
 (.node (some ⟨.struct [(0, 2, 1), (1, 3, 1), (2, 4, 1), (3, 6, 1)], 4, 24, [zI, zI, .bool (.lit false), zU], true, none⟩)
 (.node (some ⟨.pointer 249, 1, 8, [.jW], false, none⟩)
 (.node (some tF)
 (.node (some ⟨.slice 36, 1, 24, [.aP], false, none⟩)
 (.node (some ⟨.array 27 73, 27, 27, (repeatL [zU] 27), false, none⟩)
 (.node (some tF) .nil .nil) .nil) (.node (some ⟨.map 9 73, 1, 8, [.oZ], false, none⟩) .nil .nil)) (.node (some ⟨.struct [(0, 3, 1), (1, 94, 1), (2, 2, 1), (3, 26, 1), (4, 43, 4)], 8, 80, [zI, .jW, zI, .aP, zU, zI, zI, zI], false, none⟩)
 (.node (some ⟨.pointer 161, 1, 8, [.jW], false, none⟩) .nil .nil) (.node (some tF) .nil .nil))) (.node (some ⟨.map 3 48, 1, 8, [.oZ], false, none⟩)
 (.node (some ⟨.struct [(0, 9, 1), (1, 76, 1), (2, 77, 1)], 3, 64, [.str [], .aP, .aP], false, none⟩)
 (.node (some ⟨.array 9 9, 9, 144, [.str [], .str [], .str [], .str [], .str [], .str [], .str [], .str [], .str []], false, none⟩) .nil .nil) (.node (some tF) .nil .nil)) (.node (some tF)
 .nil (.node (some ⟨.array 20 230, 20, 160, (repeatL [.int .u64 (.lit (0))] 20), false, none⟩) .nil .nil)))) (.node (some ⟨.slice 79, 1, 24, [.aP], false, none⟩)
 (.node (some ⟨.int .u8, 1, 1, [zU], false, none⟩)
 (.node (some tF)
 (.node (some tF) .nil .nil) (.node (some tF) .nil .nil)) (.node none (.node (some ⟨.struct [(0, 3, 1), (1, 3, 1)], 2, 16, [zI, zI], true, none⟩) .nil .nil) (.node (some tF) .nil .nil))) (.node (some ⟨.map 3 3, 1, 8, [.oZ], false, none⟩)
 (.node (some tF)
 (.node (some tF) .nil .nil) (.node (some tF) .nil .nil)) (.node (some ⟨.slice 73, 1, 24, [.aP], false, none⟩)
 (.node (some tF) .nil .nil) (.node (some ⟨.array 64 5, 64, 64, (repeatL [zU] 64), false, none⟩) .nil .nil))))) (.node (some ⟨.string, 1, 16, [.str []], false, none⟩)
 (.node (some ⟨.struct [(0, 17, 1)], 1, 8, [.jW], false, none⟩)
 (.node (some tF)
 (.node (some tF)
 (.node (some tF)
 (.node (some ⟨.struct [(0, 12, 1), (1, 12, 1), (2, 240, 1), (3, 253, 1), (4, 5, 1), (5, 5, 1), (6, 254, 1), (7, 255, 1), (8, 256, 1), (9, 257, 1), (10, 258, 1)], 11, 48, [.int .u64 (.lit (0)), .int .u64 (.lit (0)), .int .u32 (.lit (0)), zU, zU, zU, zU, .BO, .jW, .int .i32 (.lit (0)), .int .i32 (.lit (0))], false, none⟩) .nil .nil) .nil) (.node (some tF) .nil .nil)) (.node (some ⟨.map 36 97, 1, 8, [.oZ], false, none⟩)
 (.node (some tF) .nil .nil) (.node (some tF) .nil .nil))) (.node (some ⟨.struct [(0, 3, 1), (1, 2, 1), (2, 4, 1), (3, 2, 1), (4, 49, 1), (5, 48, 1)], 6, 80, [zI, zI, .bool (.lit false), zI, .aP, .aP], false, none⟩)
 (.node (some ⟨.struct [(0, 80, 1), (1, 36, 1), (2, 3, 1), (3, 3, 1), (4, 3, 1), (5, 2, 1), (6, 81, 1)], 7, 64, [zU, zU, zI, zI, zI, zI, .aP], false, none⟩)
 (.node (some ⟨.slice 186, 1, 24, [.aP], false, none⟩) .nil .nil) (.node (some tF) .nil .nil)) (.node (some tF)
 (.node (some tF) .nil .nil) .nil))) (.node (some ⟨.slice 45, 1, 24, [.aP], false, none⟩)
 (.node (some ⟨.struct [(0, 36, 1), (1, 3, 1), (2, 2, 1), (3, 2, 1)], 4, 32, [zU, zI, zI, zI], true, none⟩)
 (.node (some ⟨.struct [(0, 73, 1), (1, 9, 1), (2, 2, 1), (3, 9, 1), (4, 3, 1)], 5, 56, [zU, .str [], zI, .str [], zI], true, none⟩)
 (.node (some ⟨.struct [(0, 137, 1), (1, 9, 1), (2, 2, 1), (3, 3, 1), (4, 3, 1), (5, 3, 1)], 6, 56, [zU, .str [], zI, zI, zI, zI], true, none⟩) .nil .nil) (.node (some tF) .nil .nil)) (.node (some ⟨.struct [(0, 22, 1), (1, 105, 1)], 2, 48, [.aP, .aP], false, none⟩)
 (.node (some tF) .nil .nil) (.node (some ⟨.array 37 9, 37, 592, (repeatL [.str []] 37), false, none⟩) .nil .nil))) (.node (some tF)
 (.node (some tF)
 (.node (some ⟨.struct [(0, 3, 1), (1, 4, 1), (2, 4, 1)], 3, 16, [zI, .bool (.lit false), .bool (.lit false)], true, none⟩) .nil .nil) (.node (some tF) .nil .nil)) (.node (some tF)
 (.node (some tF) .nil .nil) (.node (some ⟨.struct [(0, 250, 0)], 0, 0, [], false, none⟩) .nil .nil)))))) (.node (some ⟨.int .u8, 1, 1, [zU], false, none⟩)
 (.node (some ⟨.string, 1, 16, [.str []], false, none⟩)
 (.node (some ⟨.pointer 260, 1, 8, [.jW], false, none⟩)
 (.node (some tF)
 (.node (some tF)
 (.node (some tF)
 (.node (some ⟨.int .i32, 1, 4, [.int .i32 (.lit (0))], false, none⟩) .nil .nil) .nil) (.node (some ⟨.struct [(0, 191, 1), (1, 158, 1)], 2, 16, [.oZ, .oZ], false, none⟩) .nil .nil)) (.node (some tF)
 (.node (some ⟨.struct [(0, 158, 1), (1, 79, 3), (4, 3, 1)], 5, 80, [.oZ, .str [], .aP, .aP, zI], false, none⟩) .nil .nil) (.node (some tF) .nil .nil))) (.node (some ⟨.slice 3, 1, 24, [.aP], false, none⟩)
 (.node (some ⟨.slice 86, 1, 24, [.aP], false, none⟩)
 (.node (some tF) .nil .nil) (.node (some tF) .nil .nil)) (.node (some tF)
 (.node (some tF) .nil .nil) (.node (some ⟨.array 65 5, 65, 65, (repeatL [zU] 65), false, none⟩) .nil .nil)))) (.node (some ⟨.struct [(0, 22, 1), (1, 23, 1)], 2, 48, [.aP, .aP], false, none⟩)
 (.node (some tF)
 (.node (some ⟨.int .u8, 1, 1, [zU], false, none⟩)
 (.node (some ⟨.int .u8, 1, 1, [zU], false, none⟩) .nil .nil) (.node (some tF) .nil .nil)) (.node (some ⟨.slice 149, 1, 24, [.aP], false, none⟩)
 (.node (some tF) .nil .nil) .nil)) (.node (some ⟨.slice 62, 1, 24, [.aP], false, none⟩)
 (.node (some ⟨.int .i64, 1, 8, [zI], false, none⟩)
 (.node (some ⟨.pointer 155, 1, 8, [.jW], false, none⟩) .nil .nil) (.node (some tF) .nil .nil)) (.node (some tF)
 (.node (some ⟨.struct [(0, 184, 1), (1, 36, 1), (2, 9, 1), (3, 9, 1), (4, 2, 1), (5, 81, 1), (6, 147, 1), (7, 147, 1), (8, 3, 1)], 9, 128, [zU, zU, .str [], .str [], zI, .aP, .aP, .aP, zI], false, none⟩) .nil .nil) (.node (some ⟨.struct [(0, 17, 1), (1, 17, 1), (2, 17, 1), (3, 9, 1)], 4, 40, [.jW, .jW, .jW, .str []], false, none⟩) .nil .nil))))) (.node (some ⟨.struct [(0, 9, 1), (1, 12, 1)], 2, 24, [.str [], .int .u64 (.lit (0))], false, none⟩)
 (.node (some ⟨.int .i32, 1, 4, [.int .i32 (.lit (0))], false, none⟩)
 (.node (some ⟨.struct [(0, 3, 1), (1, 36, 1), (2, 3, 1), (3, 2, 1), (4, 2, 1)], 5, 40, [zI, zU, zI, zI, zI], true, none⟩)
 (.node (some ⟨.struct [(0, 25, 2), (2, 26, 1)], 3, 72, [.aP, .aP, .aP], false, none⟩)
 (.node (some tF) .nil .nil) (.node (some tF) .nil .nil)) (.node (some ⟨.int .u8, 1, 1, [zU], false, none⟩)
 (.node (some tF) .nil .nil) (.node (some ⟨.array 24 5, 24, 24, (repeatL [zU] 24), false, none⟩) .nil .nil))) (.node (some ⟨.slice 5, 1, 24, [.aP], false, none⟩)
 (.node (some ⟨.struct [(0, 84, 1), (1, 9, 1), (2, 2, 1), (3, 81, 1)], 4, 56, [zU, .str [], zI, .aP], false, none⟩)
 (.node (some ⟨.struct [(0, 9, 1), (1, 147, 1), (2, 3, 1)], 3, 48, [.str [], .aP, zI], false, none⟩) .nil .nil) (.node (some ⟨.pointer 186, 1, 8, [.jW], false, none⟩) .nil .nil)) (.node (some tF)
 .nil (.node (some tF) .nil .nil)))) (.node (some tF)
 (.node (some ⟨.struct [(0, 3, 1), (1, 43, 4)], 5, 40, [zI, zU, zI, zI, zI], false, none⟩)
 (.node (some ⟨.slice 83, 1, 24, [.aP], false, none⟩)
 (.node (some ⟨.struct [(0, 9, 1), (1, 139, 6), (7, 109, 2), (9, 3, 1)], 10, 96, [.str [], zU, .str [], zI, zI, zI, zI, zI, zI, zI], false, none⟩) .nil .nil) (.node (some ⟨.pointer 202, 1, 8, [.jW], false, none⟩) .nil .nil)) (.node (some ⟨.struct [(0, 89, 1), (1, 3, 1)], 2, 16, [zI, zI], true, none⟩)
 (.node (some tF) .nil .nil) (.node (some ⟨.int .u64, 1, 8, [.int .u64 (.lit (0))], false, none⟩) .nil .nil))) (.node (some ⟨.struct [(0, 3, 1), (1, 3, 1), (2, 2, 1)], 3, 24, [zI, zI, zI], true, none⟩)
 (.node (some ⟨.pointer 96, 1, 8, [.jW], false, none⟩)
 (.node (some tF) .nil .nil) (.node (some ⟨.array 2 147, 2, 48, [.aP, .aP], false, none⟩) .nil .nil)) (.node (some tF)
 (.node (some tF) .nil .nil) (.node (some ⟨.int .u8, 1, 1, [zU], false, none⟩) .nil .nil))))))) (.node (some ⟨.int .i64, 1, 8, [zI], false, none⟩)
 (.node (some ⟨.bool, 1, 1, [.bool (.lit false)], false, none⟩)
 (.node (some ⟨.struct [(0, 2, 1), (1, 3, 1), (2, 4, 1), (3, 6, 1)], 4, 24, [zI, zI, .bool (.lit false), zU], true, none⟩)
 (.node (some ⟨.pointer 252, 1, 8, [.jW], false, none⟩)
 (.node (some tF)
 (.node none (.node (some tF)
 (.node (some ⟨.pointer 5, 1, 8, [.jW], false, none⟩) .nil .nil) .nil) (.node (some ⟨.struct [(0, 191, 1), (1, 158, 1)], 2, 16, [.oZ, .oZ], false, none⟩) .nil .nil)) (.node (some ⟨.struct [(0, 3, 1), (1, 94, 1), (2, 2, 1), (3, 26, 1), (4, 43, 4)], 8, 80, [zI, .jW, zI, .aP, zU, zI, zI, zI], false, none⟩)
 (.node (some ⟨.struct [(0, 158, 1), (1, 79, 3), (4, 3, 1)], 5, 80, [.oZ, .str [], .aP, .aP, zI], false, none⟩) .nil .nil) (.node (some tF) .nil .nil))) (.node (some ⟨.slice 2, 1, 24, [.aP], false, none⟩)
 (.node (some ⟨.int .u8, 1, 1, [zU], false, none⟩)
 (.node (some tF) .nil .nil) (.node (some tF) .nil .nil)) (.node none (.node (some tF) .nil .nil) (.node (some ⟨.int .u32, 1, 4, [.int .u32 (.lit (0))], false, none⟩) .nil .nil)))) (.node (some ⟨.struct [(0, 22, 1), (1, 23, 1)], 2, 48, [.aP, .aP], false, none⟩)
 (.node none (.node (some tF)
 (.node (some ⟨.pointer 141, 1, 8, [.jW], false, none⟩) .nil .nil) (.node (some tF) .nil .nil)) (.node (some tF)
 (.node (some ⟨.struct [(0, 3, 1), (1, 3, 1)], 2, 16, [zI, zI], true, none⟩) .nil .nil) (.node (some tF) .nil .nil))) (.node (some tF)
 (.node (some tF)
 (.node (some tF) .nil .nil) (.node (some tF) .nil .nil)) (.node (some tF)
 (.node (some ⟨.int .u8, 1, 1, [zU], false, none⟩) .nil .nil) (.node (some ⟨.struct [(0, 17, 1), (1, 17, 1), (2, 17, 1), (3, 9, 1)], 4, 40, [.jW, .jW, .jW, .str []], false, none⟩) .nil .nil))))) (.node (some ⟨.int .u64, 1, 8, [.int .u64 (.lit (0))], false, none⟩)
 (.node (some ⟨.iface true, 1, 16, [.D8], false, none⟩)
 (.node (some ⟨.int .u8, 1, 1, [zU], false, none⟩)
 (.node (some ⟨.struct [(0, 25, 2), (2, 26, 1)], 3, 72, [.aP, .aP, .aP], false, none⟩)
 (.node (some tF)
 (.node (some ⟨.struct [(0, 12, 1), (1, 12, 1), (2, 240, 1), (3, 253, 1), (4, 5, 1), (5, 5, 1), (6, 254, 1), (7, 255, 1), (8, 256, 1), (9, 257, 1), (10, 258, 1)], 11, 48, [.int .u64 (.lit (0)), .int .u64 (.lit (0)), .int .u32 (.lit (0)), zU, zU, zU, zU, .BO, .jW, .int .i32 (.lit (0)), .int .i32 (.lit (0))], false, none⟩) .nil .nil) .nil) (.node (some tF) .nil .nil)) (.node (some tF)
 (.node (some tF) .nil .nil) (.node (some ⟨.array 2 76, 2, 48, [.aP, .aP], false, none⟩) .nil .nil))) (.node (some tF)
 (.node (some ⟨.int .u8, 1, 1, [zU], false, none⟩)
 (.node (some ⟨.struct [(0, 9, 1), (1, 147, 1), (2, 3, 1)], 3, 48, [.str [], .aP, zI], false, none⟩) .nil .nil) (.node (some tF) .nil .nil)) (.node (some tF)
 (.node (some tF) .nil .nil) (.node (some tF) .nil .nil)))) (.node (some tF)
 (.node (some ⟨.struct [(0, 3, 1), (1, 43, 4)], 5, 40, [zI, zU, zI, zI, zI], false, none⟩)
 (.node (some ⟨.slice 9, 1, 24, [.aP], false, none⟩)
 (.node (some ⟨.struct [(0, 9, 1), (1, 139, 6), (7, 109, 2), (9, 3, 1)], 10, 96, [.str [], zU, .str [], zI, zI, zI, zI, zI, zI, zI], false, none⟩) .nil .nil) (.node (some tF) .nil .nil)) (.node (some ⟨.struct [(0, 89, 1), (1, 3, 1)], 2, 16, [zI, zI], true, none⟩)
 (.node (some tF) .nil .nil) (.node (some tF) .nil .nil))) (.node (some tF)
 (.node (some tF)
 (.node (some tF) .nil .nil) (.node (some tF) .nil .nil)) (.node (some tF)
 (.node (some tF) .nil .nil) (.node (some ⟨.struct [(0, 250, 0)], 0, 0, [], false, none⟩) .nil .nil)))))) (.node (some ⟨.int .u8, 1, 1, [zU], false, none⟩)
 (.node (some ⟨.string, 1, 16, [.str []], false, none⟩)
 (.node (some ⟨.struct [(0, 17, 1)], 1, 8, [.jW], false, none⟩)
 (.node (some ⟨.array 2 26, 2, 48, [.aP, .aP], false, none⟩)
 (.node (some tF)
 (.node (some tF)
 (.node (some ⟨.int .i32, 1, 4, [.int .i32 (.lit (0))], false, none⟩) .nil .nil) .nil) (.node (some tF) .nil .nil)) (.node none (.node (some tF) .nil .nil) (.node (some tF) .nil .nil))) (.node (some ⟨.struct [(0, 3, 1), (1, 2, 1), (2, 4, 1), (3, 2, 1), (4, 49, 1), (5, 48, 1)], 6, 80, [zI, zI, .bool (.lit false), zI, .aP, .aP], false, none⟩)
 (.node (some ⟨.struct [(0, 80, 1), (1, 36, 1), (2, 3, 1), (3, 3, 1), (4, 3, 1), (5, 2, 1), (6, 81, 1)], 7, 64, [zU, zU, zI, zI, zI, zI, .aP], false, none⟩)
 (.node (some tF) .nil .nil) (.node (some ⟨.array 23 9, 23, 368, (repeatL [.str []] 23), false, none⟩) .nil .nil)) (.node (some tF)
 (.node (some tF) .nil .nil) (.node (some tF) .nil .nil)))) (.node (some ⟨.slice 51, 1, 24, [.aP], false, none⟩)
 (.node (some ⟨.struct [(0, 36, 1), (1, 3, 1), (2, 2, 1), (3, 2, 1)], 4, 32, [zU, zI, zI, zI], true, none⟩)
 (.node (some ⟨.struct [(0, 73, 1), (1, 9, 1), (2, 2, 1), (3, 9, 1), (4, 3, 1)], 5, 56, [zU, .str [], zI, .str [], zI], true, none⟩)
 (.node (some ⟨.struct [(0, 137, 1), (1, 9, 1), (2, 2, 1), (3, 3, 1), (4, 3, 1), (5, 3, 1)], 6, 56, [zU, .str [], zI, zI, zI, zI], true, none⟩) .nil .nil) (.node (some ⟨.array 256 5, 256, 256, (repeatL [zU] 256), false, none⟩) .nil .nil)) (.node (some ⟨.struct [(0, 22, 1), (1, 105, 1)], 2, 48, [.aP, .aP], false, none⟩)
 (.node (some tF) .nil .nil) (.node (some tF) .nil .nil))) (.node (some ⟨.pointer 69, 1, 8, [.jW], false, none⟩)
 (.node (some tF)
 (.node (some ⟨.struct [(0, 3, 1), (1, 4, 1), (2, 4, 1)], 3, 16, [zI, .bool (.lit false), .bool (.lit false)], true, none⟩) .nil .nil) .nil) (.node none (.node (some ⟨.struct [(0, 184, 1), (1, 36, 1), (2, 9, 1), (3, 9, 1), (4, 2, 1), (5, 81, 1), (6, 147, 1), (7, 147, 1), (8, 3, 1)], 9, 128, [zU, zU, .str [], .str [], zI, .aP, .aP, .aP, zI], false, none⟩) .nil .nil) (.node (some ⟨.array 0 16, 0, 0, [], false, none⟩) .nil .nil))))) (.node (some ⟨.struct [(0, 9, 1), (1, 12, 1)], 2, 24, [.str [], .int .u64 (.lit (0))], false, none⟩)
 (.node (some ⟨.slice 75, 1, 24, [.aP], false, none⟩)
 (.node (some ⟨.struct [(0, 3, 1), (1, 36, 1), (2, 3, 1), (3, 2, 1), (4, 2, 1)], 5, 40, [zI, zU, zI, zI, zI], true, none⟩)
 (.node (some tF)
 (.node (some tF) .nil .nil) (.node (some tF) .nil .nil)) (.node none (.node (some ⟨.pointer 168, 1, 8, [.jW], false, none⟩) .nil .nil) (.node (some ⟨.int .u64, 1, 8, [.int .u64 (.lit (0))], false, none⟩) .nil .nil))) (.node (some tF)
 (.node (some ⟨.struct [(0, 84, 1), (1, 9, 1), (2, 2, 1), (3, 81, 1)], 4, 56, [zU, .str [], zI, .aP], false, none⟩)
 (.node (some tF) .nil .nil) (.node (some tF) .nil .nil)) (.node (some tF)
 (.node (some tF) .nil .nil) (.node (some ⟨.array 32 5, 32, 32, (repeatL [zU] 32), false, none⟩) .nil .nil)))) (.node (some tF)
 (.node (some tF)
 (.node (some ⟨.struct [(0, 9, 1), (1, 76, 1), (2, 77, 1)], 3, 64, [.str [], .aP, .aP], false, none⟩)
 (.node (some tF) .nil .nil) (.node (some tF) .nil .nil)) (.node none (.node (some tF) .nil .nil) (.node (some tF) .nil .nil))) (.node (some ⟨.struct [(0, 3, 1), (1, 3, 1), (2, 2, 1)], 3, 24, [zI, zI, zI], true, none⟩)
 (.node (some ⟨.pointer 51, 1, 8, [.jW], false, none⟩)
 (.node (some ⟨.map 9 3, 1, 8, [.oZ], false, none⟩) .nil .nil) (.node (some tF) .nil .nil)) (.node (some tF)
 (.node (some ⟨.pointer 193, 1, 8, [.jW], false, none⟩) .nil .nil) (.node (some ⟨.int .u8, 1, 1, [zU], false, none⟩) .nil .nil))))))))
noncomputable def P8 : Tr Func := (.node (some Tryz.f0)
 (.node (some Tryz.f1)
 (.node (some Tryz.f3)
 (.node (some Tryz.f7)
 (.node (some Tryz.f15)
 (.node (some Tryz.f31)
 (.node (some Tryz.f63)
 (.node (some Tryz.f127) .nil .nil) (.node (some Tryz.f191) .nil .nil)) (.node (some Tryz.f95)
 (.node (some Tryz.f159) .nil .nil) (.node (some Tryz.f223) .nil .nil))) (.node (some Tryz.f47)
 (.node (some Tryz.f79)
 (.node (some Tryz.f143) .nil .nil) (.node (some Tryz.f207) .nil .nil)) (.node (some Tryz.f111)
 (.node (some Tryz.f175) .nil .nil) .nil))) (.node (some Tryz.f23)
 (.node (some Tryz.f39)
 (.node (some Tryz.f71)
 (.node (some Tryz.f135) .nil .nil) (.node (some Tryz.f199) .nil .nil)) (.node (some Tryz.f103)
 (.node (some Tryz.f167) .nil .nil) .nil)) (.node (some Tryz.f55)
 (.node (some Tryz.f87)
 (.node (some Tryz.f151) .nil .nil) (.node (some Tryz.f215) .nil .nil)) (.node (some Tryz.f119)
 (.node (some Tryz.f183) .nil .nil) .nil)))) (.node (some Tryz.f11)
 (.node (some Tryz.f19)
 (.node (some Tryz.f35)
 (.node (some Tryz.f67)
 (.node (some Tryz.f131) .nil .nil) (.node (some Tryz.f195) .nil .nil)) (.node (some Tryz.f99)
 (.node (some Tryz.f163) .nil .nil) .nil)) (.node (some Tryz.f51)
 (.node (some Tryz.f83)
 (.node (some Tryz.f147) .nil .nil) (.node (some Tryz.f211) .nil .nil)) (.node (some Tryz.f115)
 (.node (some Tryz.f179) .nil .nil) .nil))) (.node (some Tryz.f27)
 (.node (some Tryz.f43)
 (.node (some Tryz.f75)
 (.node (some Tryz.f139) .nil .nil) (.node (some Tryz.f203) .nil .nil)) (.node (some Tryz.f107)
 (.node (some Tryz.f171) .nil .nil) .nil)) (.node (some Tryz.f59)
 (.node (some Tryz.f91)
 (.node (some Tryz.f155) .nil .nil) (.node (some Tryz.f219) .nil .nil)) (.node (some Tryz.f123)
 (.node (some Tryz.f187) .nil .nil) .nil))))) (.node (some Tryz.f5)
 (.node (some Tryz.f9)
 (.node (some Tryz.f17)
 (.node (some Tryz.f33)
 (.node (some Tryz.f65)
 (.node (some Tryz.f129) .nil .nil) (.node (some Tryz.f193) .nil .nil)) (.node (some Tryz.f97)
 (.node (some Tryz.f161) .nil .nil) .nil)) (.node (some Tryz.f49)
 (.node (some Tryz.f81)
 (.node (some Tryz.f145) .nil .nil) (.node (some Tryz.f209) .nil .nil)) (.node (some Tryz.f113)
 (.node (some Tryz.f177) .nil .nil) .nil))) (.node (some Tryz.f25)
 (.node (some Tryz.f41)
 (.node (some Tryz.f73)
 (.node (some Tryz.f137) .nil .nil) (.node (some Tryz.f201) .nil .nil)) (.node (some Tryz.f105)
 (.node (some Tryz.f169) .nil .nil) .nil)) (.node (some Tryz.f57)
 (.node (some Tryz.f89)
 (.node (some Tryz.f153) .nil .nil) (.node (some Tryz.f217) .nil .nil)) (.node (some Tryz.f121)
 (.node (some Tryz.f185) .nil .nil) .nil)))) (.node (some Tryz.f13)
 (.node (some Tryz.f21)
 (.node (some Tryz.f37)
 (.node (some Tryz.f69)
 (.node (some Tryz.f133) .nil .nil) (.node (some Tryz.f197) .nil .nil)) (.node (some Tryz.f101)
 (.node (some Tryz.f165) .nil .nil) .nil)) (.node (some Tryz.f53)
 (.node (some Tryz.f85)
 (.node (some Tryz.f149) .nil .nil) (.node (some Tryz.f213) .nil .nil)) (.node (some Tryz.f117)
 (.node (some Tryz.f181) .nil .nil) .nil))) (.node (some Tryz.f29)
 (.node (some Tryz.f45)
 (.node (some Tryz.f77)
 (.node (some Tryz.f141) .nil .nil) (.node (some Tryz.f205) .nil .nil)) (.node (some Tryz.f109)
 (.node (some Tryz.f173) .nil .nil) .nil)) (.node (some Tryz.f61)
 (.node (some Tryz.f93)
 (.node (some Tryz.f157) .nil .nil) (.node (some Tryz.f221) .nil .nil)) (.node (some Tryz.f125)
 (.node (some Tryz.f189) .nil .nil) .nil)))))) (.node (some Tryz.f2)
 (.node (some Tryz.f4)
 (.node (some Tryz.f8)
 (.node (some Tryz.f16)
 (.node (some Tryz.f32)
 (.node (some Tryz.f64)
 (.node (some Tryz.f128) .nil .nil) (.node (some Tryz.f192) .nil .nil)) (.node (some Tryz.f96)
 (.node (some Tryz.f160) .nil .nil) (.node (some Tryz.f224) .nil .nil))) (.node (some Tryz.f48)
 (.node (some Tryz.f80)
 (.node (some Tryz.f144) .nil .nil) (.node (some Tryz.f208) .nil .nil)) (.node (some Tryz.f112)
 (.node (some Tryz.f176) .nil .nil) .nil))) (.node (some Tryz.f24)
 (.node (some Tryz.f40)
 (.node (some Tryz.f72)
 (.node (some Tryz.f136) .nil .nil) (.node (some Tryz.f200) .nil .nil)) (.node (some Tryz.f104)
 (.node (some Tryz.f168) .nil .nil) .nil)) (.node (some Tryz.f56)
 (.node (some Tryz.f88)
 (.node (some Tryz.f152) .nil .nil) (.node (some Tryz.f216) .nil .nil)) (.node (some Tryz.f120)
 (.node (some Tryz.f184) .nil .nil) .nil)))) (.node (some Tryz.f12)
 (.node (some Tryz.f20)
 (.node (some Tryz.f36)
 (.node (some Tryz.f68)
 (.node (some Tryz.f132) .nil .nil) (.node (some Tryz.f196) .nil .nil)) (.node (some Tryz.f100)
 (.node (some Tryz.f164) .nil .nil) .nil)) (.node (some Tryz.f52)
 (.node (some Tryz.f84)
 (.node (some Tryz.f148) .nil .nil) (.node (some Tryz.f212) .nil .nil)) (.node (some Tryz.f116)
 (.node (some Tryz.f180) .nil .nil) .nil))) (.node (some Tryz.f28)
 (.node (some Tryz.f44)
 (.node (some Tryz.f76)
 (.node (some Tryz.f140) .nil .nil) (.node (some Tryz.f204) .nil .nil)) (.node (some Tryz.f108)
 (.node (some Tryz.f172) .nil .nil) .nil)) (.node (some Tryz.f60)
 (.node (some Tryz.f92)
 (.node (some Tryz.f156) .nil .nil) (.node (some Tryz.f220) .nil .nil)) (.node (some Tryz.f124)
 (.node (some Tryz.f188) .nil .nil) .nil))))) (.node (some Tryz.f6)
 (.node (some Tryz.f10)
 (.node (some Tryz.f18)
 (.node (some Tryz.f34)
 (.node (some Tryz.f66)
 (.node (some Tryz.f130) .nil .nil) (.node (some Tryz.f194) .nil .nil)) (.node (some Tryz.f98)
 (.node (some Tryz.f162) .nil .nil) .nil)) (.node (some Tryz.f50)
 (.node (some Tryz.f82)
 (.node (some Tryz.f146) .nil .nil) (.node (some Tryz.f210) .nil .nil)) (.node (some Tryz.f114)
 (.node (some Tryz.f178) .nil .nil) .nil))) (.node (some Tryz.f26)
 (.node (some Tryz.f42)
 (.node (some Tryz.f74)
 (.node (some Tryz.f138) .nil .nil) (.node (some Tryz.f202) .nil .nil)) (.node (some Tryz.f106)
 (.node (some Tryz.f170) .nil .nil) .nil)) (.node (some Tryz.f58)
 (.node (some Tryz.f90)
 (.node (some Tryz.f154) .nil .nil) (.node (some Tryz.f218) .nil .nil)) (.node (some Tryz.f122)
 (.node (some Tryz.f186) .nil .nil) .nil)))) (.node (some Tryz.f14)
 (.node (some Tryz.f22)
 (.node (some Tryz.f38)
 (.node (some Tryz.f70)
 (.node (some Tryz.f134) .nil .nil) (.node (some Tryz.f198) .nil .nil)) (.node (some Tryz.f102)
 (.node (some Tryz.f166) .nil .nil) .nil)) (.node (some Tryz.f54)
 (.node (some Tryz.f86)
 (.node (some Tryz.f150) .nil .nil) (.node (some Tryz.f214) .nil .nil)) (.node (some Tryz.f118)
 (.node (some Tryz.f182) .nil .nil) .nil))) (.node (some Tryz.f30)
 (.node (some Tryz.f46)
 (.node (some Tryz.f78)
 (.node (some Tryz.f142) .nil .nil) (.node (some Tryz.f206) .nil .nil)) (.node (some Tryz.f110)
 (.node (some Tryz.f174) .nil .nil) .nil)) (.node (some Tryz.f62)
 (.node (some Tryz.f94)
 (.node (some Tryz.f158) .nil .nil) (.node (some Tryz.f222) .nil .nil)) (.node (some Tryz.f126)
 (.node (some Tryz.f190) .nil .nil) .nil)))))))
def htab : Tr (Tr OI) := (.node none (.node none (.node (some (.node none (.node none (.node (some ⟨[], 0, ⟨[hR 0 0 [3], hE 1 0 [24], hR 0 1 [3], hE 7 1 [26], hE 15 2 [25, 27], hP 31 3 [28], hP 63 3 [29], hR 127 3 [30, 3], hP 127 3 [30, 1], hE 511 3 [30, 31, 32], hR 127 4 [30, 3], hP 127 4 [30, 1], hE 4095 4 [30, 34, 35], hP 8191 5 [30, 33, 36], hP 16383 5 [30, 37]], 5, [(0, [0]), (2, [0, 1]), (7, [3]), (10, [3, 4])]⟩⟩) .nil .nil) (.node none .nil (.node (some ⟨[], 0, ⟨[hR 0 0 [3], hP 0 0 [8], hP 0 0 [2], hP 0 0 [9], hP 12 0 [78, 79], hP 28 0 [80], hR 60 0 [81], hP 0 0 [2], hP 0 0 [9], hP 384 0 [83, 84], hP 896 0 [85], hR 1920 0 [86], hE 4095 0 [76, 77, 82, 87], hP 8191 1 [88], hP 16383 1 [75], hP 16383 1 [75], hP 16383 1 [75], hP 0 1 [], hP 163839 1 [89], hE 458751 1 [15, 90], hP 1048575 2 [91]], 2, [(0, [0]), (6, [0]), (11, [0])]⟩⟩) .nil .nil))) (.node none (.node none .nil (.node (some ⟨[], 0, ⟨[hR 0 0 [3], hP 0 0 [10], hP 0 0 [2], hP 0 0 [9], hP 12 0 [61, 62], hP 28 0 [63], hR 60 0 [64], hP 0 0 [2], hP 0 0 [9], hP 384 0 [66, 67], hP 896 0 [68], hR 1920 0 [69], hE 4095 0 [59, 60, 65, 70], hP 8191 1 [71], hP 16383 1 [58], hP 16383 1 [58], hP 16383 1 [58], hP 0 1 [], hP 163839 1 [72], hE 458751 1 [12, 73], hP 1048575 2 [74]], 2, [(0, [0]), (6, [0]), (11, [0])]⟩⟩) .nil .nil)) .nil)))
 (.node (some (.node none .nil (.node none (.node none (.node none .nil (.node (some ⟨[], 0, ⟨[hP 0 0 [12], hP 1 0 [133], hP 3 0 [134], hP 7 0 [135, 3], hP 15 0 [135, 136], hP 31 0 [135, 137], hR 63 0 [135, 138], hP 127 0 [135, 139], hP 255 0 [135, 140], hR 511 0 [135, 141], hP 7 0 [135, 5], hP 2047 0 [135, 142, 143], hP 4095 0 [135, 144], hP 8191 0 [145], hP 16383 0 [146, 3], hP 32767 0 [146, 147], hP 65535 0 [146, 148], hR 131071 0 [146, 149], hP 262143 0 [146, 150], hP 524287 0 [146, 151], hR 1048575 0 [146, 152], hR 2097151 0 [146, 153], hP 16383 0 [146, 4], hR 4210687 0 [146, 155], hP 16777215 0 [146, 154, 156], hP 33554431 0 [146, 157]], 0, [(6, [0]), (9, [0]), (17, [0]), (20, [0]), (21, [0]), (23, [0])]⟩⟩) .nil .nil)) .nil) .nil)))
 (.node (some (.node none (.node none .nil (.node (some ⟨[], 0, ⟨[hP 0 0 [3], hP 0 0 [0], hP 0 0 [4], hP 6 0 [13, 14], hP 14 0 [15], hR 30 0 [16], hR 62 0 [17], hP 0 0 [0], hP 0 0 [4], hP 384 0 [19, 20], hP 896 0 [21], hR 1920 0 [22], hR 3968 0 [23], hP 8190 0 [18, 24], hP 16383 0 [12, 25], hP 32767 0 [26]], 0, [(5, [0]), (6, [0]), (11, [0]), (12, [0])]⟩⟩) .nil .nil)) .nil))
 (.node (some (.node none .nil (.node none .nil (.node (some ⟨[], 0, ⟨[hP 0 0 [0], hP 0 0 [5], hP 3 0 [17, 18], hR 7 0 [19], hP 0 0 [1], hP 0 0 [5], hP 48 0 [21, 22], hR 112 0 [23], hP 255 0 [20, 24]], 0, [(3, [0]), (7, [0])]⟩⟩) .nil .nil)))) .nil .nil) .nil) (.node (some (.node none (.node none (.node none (.node (some ⟨[], 0, ⟨[hP 0 0 [12], hE 1 0 [89], hP 0 1 [7], hR 4 1 [91], hR 15 1 [90, 92], hP 31 1 [93], hP 63 1 [88], hP 63 1 [88], hP 127 1 [94], hP 511 1 [95]], 1, [(3, [0, 1]), (4, [1])]⟩⟩) .nil .nil) (.node none (.node (some ⟨[], 0, ⟨[hP 0 0 [11], hR 0 0 [17], hP 1 0 [136], hE 7 0 [9, 137], hP 15 1 []], 1, [(1, [0])]⟩⟩) .nil .nil) .nil)) (.node (some ⟨[], 0, ⟨[hP 0 0 [12], hE 1 0 [79], hP 0 1 [7], hR 4 1 [81], hR 15 1 [80, 82], hP 31 1 [83], hP 63 1 [78], hP 63 1 [78], hP 127 1 [84], hP 511 1 [85]], 1, [(3, [0, 1]), (4, [1])]⟩⟩)
 (.node (some ⟨[], 0, ⟨[hP 0 0 [12], hE 1 0 [98], hP 0 1 [7], hR 4 1 [100], hR 15 1 [99, 101], hP 31 1 [102]], 1, [(3, [0, 1]), (4, [1])]⟩⟩) .nil .nil) .nil)) (.node (some ⟨[], 0, ⟨[hR 0 0 [4], hP 0 0 [1], hE 3 0 [20, 21], hP 7 1 [22], hP 15 1 [23], hP 31 1 [24, 2], hP 63 1 [24, 25], hP 127 1 [24, 26], hP 255 1 [27], hP 511 1 [28, 2], hP 511 1 [28, 4], hR 1535 1 [28, 30], hR 3583 1 [28, 31], hP 8191 1 [28, 29, 32], hP 16383 1 [28, 33], hP 32767 1 [34], hP 65535 1 [35, 7], hR 131071 1 [35, 36], hP 262143 1 [35, 37], hP 524287 1 [35, 38], hP 1048575 1 [39], hP 2097151 1 [40, 7], hR 4194303 1 [40, 41], hP 2097151 1 [40, 11], hR 10485759 1 [40, 43], hP 33554431 1 [40, 42, 44], hP 67108863 1 [40, 45], hP 134217727 1 [46], hP 268435455 1 [47, 7], hR 536870911 1 [47, 48], hE 1073741823 1 [47, 49], hP 268435455 2 [47, 4], hR 2415919103 2 [47, 51], hP 268435455 2 [47, 7], hR 8858370047 2 [47, 53], hP 32480690175 2 [47, 52, 54], hP 66840428543 2 [47, 55], hR 135559905279 2 [47, 56], hP 274877906943 2 [47, 50, 57], hP 549755813887 2 [47, 58]], 2, [(0, [0]), (11, [1]), (12, [1]), (17, [1]), (22, [1]), (24, [1]), (29, [1]), (32, [1, 2]), (34, [1, 2]), (37, [1, 2])]⟩⟩)
 (.node (some ⟨[], 0, ⟨[hP 0 0 [2], hP 0 0 [11], hP 0 0 [7], hR 4 0 [64], hP 14 0 [63, 65], hP 0 0 [4], hR 32 0 [67], hP 0 0 [7], hR 128 0 [69], hP 480 0 [68, 70], hP 992 0 [71], hR 2016 0 [72], hP 0 0 [11], hR 0 0 [7], hP 16383 0 [62, 66, 73, 74, 75], hP 32767 0 [76], hP 65535 0 [77]], 0, [(3, [0]), (6, [0]), (8, [0]), (11, [0]), (13, [0])]⟩⟩)
 (.node none (.node (some ⟨[], 0, ⟨[hP 0 0 [1], hE 1 0 [123], hP 0 1 [2], hP 0 1 [7], hR 8 1 [126], hP 0 1 [7], hR 32 1 [128], hP 96 1 [129], hP 252 1 [125, 127, 130], hP 3 1 [124], hE 1023 1 [9, 131], hP 2047 2 []], 2, [(4, [0, 1]), (6, [0, 1])]⟩⟩) .nil .nil) .nil) .nil) (.node none (.node none (.node (some ⟨[], 0, ⟨[hP 0 0 [11], hR 0 0 [17], hP 1 0 [134], hE 7 0 [9, 135], hP 15 1 []], 1, [(1, [0])]⟩⟩) .nil .nil) .nil) .nil))))
 .nil (.node none (.node (some (.node none (.node (some ⟨[], 0, ⟨[hR 0 0 [0], hP 1 0 [3], hP 3 0 [4], hR 7 0 [5], hP 15 0 [6], hP 31 0 [7], hR 63 0 [8], hR 127 0 [9], hR 0 0 [0], hP 256 0 [11], hP 768 0 [12], hR 1792 0 [13], hP 4095 0 [10, 14]], 0, [(0, [0]), (3, [0]), (6, [0]), (7, [0]), (8, [0]), (11, [0])]⟩⟩)
 (.node (some ⟨[], 0, ⟨[hR 0 0 [0], hP 1 0 [16], hP 3 0 [17], hR 7 0 [18], hR 0 0 [0], hP 16 0 [20], hP 48 0 [21], hR 112 0 [22], hP 240 0 [23], hP 496 0 [24], hR 1008 0 [25], hR 0 0 [0], hP 2048 0 [27], hP 6144 0 [28], hP 14336 0 [29], hR 30720 0 [30], hP 63488 0 [31], hE 131056 0 [26, 32], hP 262143 1 [19], hP 524287 1 [34], hE 1048575 1 [35, 33]], 2, [(0, [0, 1]), (3, [0, 1]), (4, [0]), (7, [0]), (10, [0]), (11, [0]), (15, [0])]⟩⟩) .nil .nil) .nil) .nil)) .nil .nil) .nil))) (.node (some (.node none (.node none (.node none (.node (some ⟨[], 0, ⟨[hP 0 0 [3], hP 0 0 [0], hP 0 0 [5], hP 6 0 [32, 33], hP 14 0 [34], hR 30 0 [35], hE 62 0 [36], hP 0 1 [6], hP 0 1 [0], hP 0 1 [5], hP 768 1 [39, 40], hP 1792 1 [41], hR 3840 1 [42], hE 8191 1 [31, 37, 38, 43], hP 16383 2 [44], hP 32767 2 [30], hP 32767 2 [30], hP 0 2 [], hE 196607 2 [7, 45], hP 524287 3 [46]], 3, [(5, [0]), (12, [0, 1])]⟩⟩) .nil .nil) .nil) .nil) .nil))
 (.node none (.node (some (.node none (.node none .nil (.node none (.node none (.node (some ⟨[], 0, ⟨[hR 0 0 [1], hR 0 0 [5], hP 0 0 [5], hR 4 0 [65], hP 0 0 [6], hP 28 0 [66, 67], hR 60 0 [68], hE 127 0 [63, 64, 69], hP 255 1 [70]], 1, [(0, [0]), (1, [0]), (3, [0]), (6, [0])]⟩⟩) .nil .nil) .nil) .nil)) (.node none .nil (.node (some ⟨[], 0, ⟨[hR 0 0 [1], hP 0 0 [1], hR 2 0 [27], hP 0 0 [3], hP 14 0 [28, 29], hR 30 0 [30], hE 63 0 [26, 31], hP 127 1 [32]], 1, [(0, [0]), (2, [0]), (5, [0])]⟩⟩) .nil .nil)))) .nil .nil) (.node none (.node (some (.node none .nil (.node (some ⟨[], 0, ⟨[hR 0 0 [0], hP 1 0 [6], hP 3 0 [7], hR 7 0 [8], hP 15 0 [9], hP 31 0 [10], hR 63 0 [11], hP 0 0 [3], hE 128 0 [13], hP 511 1 [12], hP 1023 1 [14]], 1, [(0, [0, 1]), (3, [0, 1]), (6, [0, 1])]⟩⟩) .nil .nil))) .nil .nil) .nil)) (.node none (.node none (.node none (.node (some (.node none (.node (some ⟨[], 0, ⟨[hP 0 0 [3], hR 1 0 [6], hP 0 0 [0], hP 4 0 [8], hP 12 0 [9], hR 28 0 [10], hP 0 0 [3], hR 64 0 [12], hR 252 0 [11, 13], hP 0 0 [0], hP 0 0 [3], hR 1024 0 [16], hE 3584 0 [15, 17], hP 8191 1 [7, 14, 18], hP 0 1 [], hE 32767 1 [4, 19]], 2, [(1, [0, 1]), (5, [0, 1]), (7, [0, 1]), (8, [0, 1]), (11, [0])]⟩⟩) .nil .nil) .nil)) .nil .nil) .nil) (.node (some (.node none .nil (.node (some ⟨[], 0, ⟨[hP 0 0 [0], hP 1 0 [6], hP 3 0 [7], hP 7 0 [8], hR 15 0 [9], hP 0 0 [3], hP 0 0 [0], hP 64 0 [12], hP 192 0 [13], hP 448 0 [14], hR 960 0 [15], hE 2016 0 [11, 16], hP 4064 1 [17], hP 8160 1 [18], hP 16383 1 [10, 19], hP 0 1 [], hE 65535 1 [4, 20]], 2, [(4, [0, 1]), (10, [0])]⟩⟩) .nil .nil))) .nil .nil)) .nil))) (.node none (.node (some (.node none (.node none (.node none (.node none (.node (some ⟨[], 0, ⟨[hR 0 0 [10], hP 0 0 [11], hP 0 0 [9], hP 0 0 [1], hP 0 0 [8], hP 24 0 [96, 97], hP 56 0 [98], hR 120 0 [99], hE 255 0 [93, 94, 95, 100], hP 511 1 [101]], 1, [(0, [0]), (7, [0])]⟩⟩) .nil .nil) .nil) .nil) .nil) (.node none (.node none (.node (some ⟨[], 0, ⟨[hP 0 0 [6], hP 0 0 [1], hP 0 0 [8], hP 6 0 [46, 47], hP 14 0 [48], hR 30 0 [49], hE 62 0 [50], hP 0 1 [9], hP 0 1 [1], hP 0 1 [8], hP 768 1 [53, 54], hP 1792 1 [55], hR 3840 1 [56], hE 8191 1 [45, 51, 52, 57], hP 16383 2 [58], hP 32767 2 [44], hP 32767 2 [44], hP 0 2 [], hE 196607 2 [10, 59], hP 524287 3 [60]], 3, [(5, [0]), (12, [0, 1])]⟩⟩) .nil .nil) .nil) (.node none (.node (some ⟨[], 0, ⟨[hR 0 0 [10], hP 0 0 [11], hP 0 0 [9], hP 0 0 [7], hP 8 0 [64], hR 24 0 [65], hE 63 0 [61, 62, 63, 66], hP 127 1 [67]], 1, [(0, [0]), (5, [0])]⟩⟩) .nil .nil) .nil))))
 (.node (some (.node none .nil (.node none (.node none .nil (.node (some ⟨[], 0, ⟨[hP 0 0 [6], hR 1 0 [76], hP 0 0 [8], hP 7 0 [77, 78], hR 15 0 [79], hP 0 0 [7], hR 32 0 [81], hP 0 0 [8], hP 224 0 [82, 83], hR 480 0 [84], hP 1023 0 [80, 85]], 0, [(1, [0]), (4, [0]), (6, [0]), (9, [0])]⟩⟩) .nil .nil)) (.node (some ⟨[], 0, ⟨[hP 0 0 [0], hP 0 0 [5], hP 3 0 [19, 20], hR 7 0 [21], hP 0 0 [1], hP 0 0 [5], hP 48 0 [23, 24], hR 112 0 [25], hP 0 0 [], hP 0 0 [], hE 783 0 [6, 22], hE 2047 1 [7, 26]], 2, [(3, [0]), (7, [0, 1])]⟩⟩) .nil .nil))))
 (.node none .nil (.node (some (.node none (.node (some ⟨[], 0, ⟨[hR 0 0 [0], hP 1 0 [3], hP 3 0 [4], hP 7 0 [5], hR 15 0 [6], hR 0 0 [0], hP 32 0 [8], hP 96 0 [9], hR 224 0 [10], hP 480 0 [11], hP 992 0 [12], hR 2016 0 [13], hR 0 0 [0], hP 4096 0 [15], hP 12288 0 [16], hP 28672 0 [17], hR 61440 0 [18], hP 131040 0 [14, 19], hE 262112 0 [20], hP 524287 1 [7], hP 1048575 1 [21]], 1, [(0, [0, 1]), (4, [0, 1]), (5, [0]), (8, [0]), (11, [0]), (12, [0]), (16, [0])]⟩⟩) .nil .nil) .nil))
 (.node (some (.node none .nil (.node (some ⟨[], 0, ⟨[hP 0 0 [0], hP 0 0 [3], hR 2 0 [10], hP 0 0 [3], hR 8 0 [12], hE 24 0 [13], hE 63 1 [9, 11, 14], hP 127 2 [15]], 2, [(2, [0, 1]), (4, [0])]⟩⟩)
 (.node none (.node (some ⟨[], 0, ⟨[hP 0 0 [0], hP 1 0 [27], hP 3 0 [28], hR 7 0 [29], hP 0 0 [3], hR 16 0 [31], hE 63 0 [30, 32]], 1, [(3, [0]), (5, [0])]⟩⟩) .nil .nil) .nil) .nil))) .nil .nil) .nil)) (.node none (.node (some (.node none (.node (some ⟨[], 0, ⟨[hR 0 0 [0], hP 1 0 [3], hP 3 0 [4], hR 7 0 [5], hP 15 0 [6], hP 31 0 [7], hR 63 0 [8], hR 0 0 [0], hP 128 0 [10], hP 384 0 [11], hR 896 0 [12], hP 2047 0 [9, 13]], 0, [(0, [0]), (3, [0]), (6, [0]), (7, [0]), (10, [0])]⟩⟩) .nil .nil) .nil)) .nil .nil) .nil)) (.node none (.node none (.node (some (.node none (.node none .nil (.node (some ⟨[], 0, ⟨[hR 0 0 [0], hP 1 0 [15], hP 3 0 [16], hR 7 0 [17], hR 0 0 [0], hP 16 0 [19], hP 48 0 [20], hR 112 0 [21], hP 240 0 [22], hP 496 0 [23], hR 1008 0 [24], hR 0 0 [0], hP 2048 0 [26], hP 6144 0 [27], hR 14336 0 [28], hP 30720 0 [29], hE 65520 0 [25, 30], hP 131071 1 [18], hP 262143 1 [32], hE 524287 1 [33, 31]], 2, [(0, [0, 1]), (3, [0, 1]), (4, [0]), (7, [0]), (10, [0]), (11, [0]), (14, [0])]⟩⟩) .nil .nil)) .nil)) .nil .nil) .nil) (.node none (.node (some (.node none (.node (some ⟨[], 0, ⟨[hR 0 0 [0], hP 1 0 [4], hP 3 0 [5], hR 7 0 [6], hR 0 0 [0], hP 16 0 [8], hP 48 0 [9], hR 112 0 [10], hP 255 0 [7, 11], hP 511 0 [12]], 0, [(0, [0]), (3, [0]), (4, [0]), (7, [0])]⟩⟩)
 .nil (.node (some ⟨[], 0, ⟨[hR 0 0 [0], hP 1 0 [25], hP 3 0 [26], hR 7 0 [27], hR 0 0 [0], hP 16 0 [29], hP 48 0 [30], hR 112 0 [31], hP 240 0 [32], hP 496 0 [33], hR 1008 0 [34], hP 0 0 [0], hE 4080 0 [35, 36], hR 0 1 [0], hP 8192 1 [38], hP 24576 1 [39], hR 57344 1 [40], hP 122880 1 [41], hE 262128 1 [37, 42], hP 524287 2 [28], hP 1048575 2 [44], hE 2097151 2 [45, 43]], 3, [(0, [0, 1, 2]), (3, [0, 1, 2]), (4, [0]), (7, [0]), (10, [0]), (13, [0, 1]), (16, [0, 1])]⟩⟩) .nil .nil)) (.node (some ⟨[], 0, ⟨[hP 0 0 [3], hP 1 0 [13], hP 3 0 [14], hR 7 0 [15], hR 0 0 [0], hP 16 0 [17], hP 48 0 [18], hR 112 0 [19], hP 255 0 [16, 20]], 0, [(3, [0]), (4, [0]), (7, [0])]⟩⟩) .nil .nil))) .nil .nil) (.node none (.node (some (.node none (.node none .nil (.node (some ⟨[], 0, ⟨[hP 0 0 [6], hR 0 0 [5], hR 0 0 [0], hE 4 0 [21], hP 14 1 [20, 22], hP 31 1 [19, 23], hE 63 1 [5, 24]], 2, [(1, [0, 1]), (2, [0])]⟩⟩) .nil .nil)) .nil)) .nil .nil) .nil)))) (.node (some (.node none (.node none (.node none (.node (some ⟨[], 0, ⟨[hR 0 0 [2], hP 0 0 [5], hP 0 0 [1], hP 0 0 [6], hP 12 0 [34, 35], hP 28 0 [36], hR 60 0 [37], hP 0 0 [1], hP 0 0 [6], hP 384 0 [39, 40], hP 896 0 [41], hR 1920 0 [42], hE 4095 0 [32, 33, 38, 43], hP 8191 1 [44], hP 16383 1 [31], hP 16383 1 [31], hP 16383 1 [31], hP 0 1 [], hP 163839 1 [45], hE 458751 1 [8, 46], hP 1048575 2 [47]], 2, [(0, [0]), (6, [0]), (11, [0])]⟩⟩) .nil .nil) (.node none (.node (some ⟨[], 0, ⟨[hR 0 0 [14], hR 0 0 [8], hP 3 0 [132, 133], hP 7 0 [134], hP 15 0 [135, 15], hP 15 0 [135, 9], hP 63 0 [135, 136, 137], hP 127 0 [135, 138], hP 255 0 [139], hP 511 0 [140, 13], hP 511 0 [140, 8], hR 1535 0 [140, 142], hP 511 0 [140, 8], hR 4607 0 [140, 144], hP 12799 0 [140, 145], hP 32767 0 [140, 141, 143, 146], hP 511 0 [140, 7], hP 511 0 [140, 8], hR 131583 0 [140, 149], hP 511 0 [140, 8], hR 524799 0 [140, 151], hP 1573375 0 [140, 152], hP 4129279 0 [140, 148, 150, 153], hE 8388607 0 [140, 147, 154], hP 16777215 1 [140, 155], hP 33554431 1 [140, 156]], 1, [(0, [0]), (1, [0]), (11, [0]), (13, [0]), (18, [0]), (20, [0])]⟩⟩) .nil .nil) .nil)) (.node none .nil (.node (some ⟨[], 0, ⟨[hP 0 0 [10], hP 0 0 [8], hR 2 0 [75], hP 7 0 [74, 76], hP 15 0 [77], hP 31 0 [78, 11], hP 63 0 [78, 79], hP 127 0 [78, 80], hP 255 0 [81], hP 511 0 [82, 5], hP 511 0 [82, 10], hP 511 0 [82, 10], hP 2559 0 [82, 85], hP 8191 0 [82, 83, 84, 86], hP 511 0 [82, 7], hP 511 0 [82, 10], hP 511 0 [82, 10], hP 66047 0 [82, 90], hP 246271 0 [82, 88, 89, 91], hE 524287 0 [82, 87, 92], hP 1048575 1 [82, 93], hP 2097151 1 [82, 94]], 1, [(2, [0])]⟩⟩) .nil .nil))) (.node none .nil (.node none (.node none (.node (some ⟨[], 0, ⟨[hR 0 0 [2], hP 0 0 [12], hP 0 0 [1], hP 0 0 [6], hP 12 0 [118, 119], hP 28 0 [120], hR 60 0 [121], hP 0 0 [1], hP 0 0 [6], hP 384 0 [123, 124], hP 896 0 [125], hR 1920 0 [126], hE 4095 0 [116, 117, 122, 127], hP 8191 1 [128], hP 16383 1 [115], hP 16383 1 [115], hP 16383 1 [115], hP 0 1 [], hP 163839 1 [129], hE 458751 1 [14, 130], hP 1048575 2 [131]], 2, [(0, [0]), (6, [0]), (11, [0])]⟩⟩) .nil .nil) .nil) .nil))))
 (.node (some (.node none .nil (.node none .nil (.node (some ⟨[], 0, ⟨[hP 0 0 [2], hR 1 0 [23], hP 0 0 [5], hP 7 0 [24, 25], hR 15 0 [26], hP 0 0 [1], hP 0 0 [5], hP 96 0 [28, 29], hR 224 0 [30], hP 0 0 [2], hR 512 0 [32], hR 1536 0 [33], hE 4095 0 [27, 31, 34], hP 8191 1 [35]], 1, [(1, [0]), (4, [0]), (8, [0]), (10, [0]), (11, [0])]⟩⟩) .nil .nil))))
 (.node (some (.node none (.node none .nil (.node none (.node (some ⟨[], 0, ⟨[hP 0 0 [4], hR 1 0 [101], hP 0 0 [10], hP 7 0 [102, 103], hR 15 0 [104], hP 31 0 [105], hP 63 0 [106], hP 127 0 [107, 4], hR 255 0 [107, 108], hP 127 0 [107, 10], hP 1023 0 [107, 109, 110], hR 2047 0 [107, 111], hP 127 0 [107, 2], hP 8191 0 [107, 112, 113], hP 16383 0 [107, 114], hP 32767 0 [115], hP 65535 0 [116, 4], hR 131071 0 [116, 117], hP 65535 0 [116, 10], hP 524287 0 [116, 118, 119], hR 1048575 0 [116, 120], hP 65535 0 [116, 4], hR 2162687 0 [116, 122], hP 65535 0 [116, 10], hP 14745599 0 [116, 123, 124], hE 33554431 0 [116, 121, 125], hP 67108863 1 [116, 126], hP 134217727 1 [116, 127]], 1, [(1, [0]), (4, [0]), (8, [0]), (11, [0]), (17, [0]), (20, [0]), (22, [0])]⟩⟩) .nil .nil) .nil)) .nil)) .nil .nil) (.node (some (.node none (.node (some ⟨[], 0, ⟨[hP 0 0 [5], hR 1 0 [9], hP 0 0 [4], hR 4 0 [11], hR 12 0 [12], hE 31 0 [10, 13], hP 0 1 [5], hR 64 1 [15], hP 0 1 [4], hR 256 1 [17], hR 768 1 [18], hP 1792 1 [19], hE 4095 1 [16, 20], hP 8191 2 [14], hP 16383 2 [21]], 2, [(1, [0]), (3, [0]), (4, [0]), (7, [0, 1]), (9, [0, 1]), (10, [0, 1])]⟩⟩) .nil .nil) (.node none (.node (some ⟨[], 0, ⟨[hP 0 0 [5], hR 1 0 [26], hP 3 0 [27], hP 7 0 [28], hP 15 0 [29, 5], hR 31 0 [29, 30], hP 63 0 [29, 31], hP 127 0 [29, 32], hP 255 0 [33], hP 511 0 [34, 5], hR 1023 0 [34, 35], hP 511 0 [34, 3], hR 2559 0 [34, 37], hR 6655 0 [34, 38], hE 16383 0 [34, 36, 39], hP 32767 1 [34, 40], hP 65535 1 [34, 41], hP 131071 1 [42], hP 262143 1 [43, 3], hR 524287 1 [43, 44], hP 262143 1 [43, 5], hR 1310719 1 [43, 46], hP 4194303 1 [43, 45, 47], hP 8388607 1 [43, 48], hR 16777215 1 [43, 49], hP 262143 1 [43, 5], hR 33816575 1 [43, 51], hE 100925439 1 [43, 52], hP 268435455 2 [43, 50, 53], hP 536870911 2 [43, 54], hP 1073741823 2 [55], hP 2147483647 2 [56, 5], hR 4294967295 2 [56, 57], hR 8589934591 2 [56, 58], hP 2147483647 2 [56, 5], hR 19327352831 2 [56, 60], hE 53687091199 2 [56, 61], hP 137438953471 3 [56, 59, 62], hP 274877906943 3 [56, 63], hP 549755813887 3 [64], hP 1099511627775 3 [65, 5], hR 2199023255551 3 [65, 66], hP 4398046511103 3 [65, 67], hP 8796093022207 3 [65, 68], hP 17592186044415 3 [69, 8], hP 35184372088831 3 [69, 70], hP 70368744177663 3 [65, 69, 71], hP 140737488355327 3 [65, 72]], 3, [(1, [0]), (5, [0]), (10, [0]), (12, [0]), (13, [0]), (19, [1, 2]), (21, [1, 2]), (24, [1, 2]), (26, [1]), (32, [2, 3]), (33, [2, 3]), (35, [2]), (41, [3])]⟩⟩) .nil .nil) .nil)))
 .nil (.node (some (.node none (.node none (.node none (.node none (.node (some ⟨[], 0, ⟨[hP 0 0 [9], hP 1 0 [61], hP 3 0 [62], hP 7 0 [63, 4], hR 15 0 [63, 64], hP 31 0 [63, 65], hP 63 0 [63, 66], hP 127 0 [67], hP 255 0 [68, 4], hR 511 0 [68, 69], hP 255 0 [68, 0], hP 1279 0 [68, 71], hP 3327 0 [68, 72], hR 7423 0 [68, 73], hP 16383 0 [68, 70, 74], hP 32767 0 [68, 75], hP 65535 0 [76], hP 131071 0 [77, 4], hR 262143 0 [77, 78], hP 524287 0 [77, 79], hP 1048575 0 [77, 80], hP 2097151 0 [77, 81], hE 4194303 0 [77, 82], hP 8388607 1 [77, 83], hP 16777215 1 [84]], 1, [(4, [0]), (9, [0]), (13, [0]), (18, [0])]⟩⟩) .nil .nil) .nil) .nil) .nil) .nil)) .nil .nil))) (.node none (.node (some (.node none (.node none (.node none (.node (some ⟨[], 0, ⟨[hP 0 0 [5], hR 1 0 [27], hP 0 0 [4], hE 4 0 [29], hP 12 1 [30], hE 31 1 [28, 31], hP 63 2 [5], hE 127 2 [33, 32]], 3, [(1, [0, 1])]⟩⟩) .nil .nil) .nil) .nil) (.node none .nil (.node none .nil (.node (some ⟨[], 0, ⟨[hP 0 0 [], hP 0 0 [4], hP 2 0 [58], hP 6 0 [59], hR 14 0 [60], hE 1 0 [2, 57], hE 63 1 [3, 61]], 2, [(4, [0, 1])]⟩⟩) .nil .nil))))) .nil .nil) .nil)))) (.node none (.node (some (.node none (.node none (.node none .nil (.node (some ⟨[], 0, ⟨[hP 0 0 [10], hP 1 0 [77], hP 3 0 [78], hP 7 0 [79, 9], hR 15 0 [79, 80], hP 7 0 [79, 1], hP 7 0 [79, 7], hP 103 0 [79, 82, 83], hP 231 0 [79, 84], hR 487 0 [79, 85], hP 1023 0 [79, 81, 86], hP 2047 0 [79, 87], hP 4095 0 [88, 9], hR 8191 0 [88, 89], hP 4095 0 [88, 1], hP 4095 0 [88, 7], hP 53247 0 [88, 91, 92], hP 118783 0 [88, 93], hP 249855 0 [88, 94], hR 511999 0 [88, 95], hP 1048575 0 [88, 90, 96], hP 2097151 0 [79, 88, 97], hP 4194303 0 [79, 98], hP 8388607 0 [99, 9], hR 16777215 0 [99, 100], hP 33554431 0 [99, 101], hP 67108863 0 [79, 99, 102], hP 134217727 0 [79, 103], hP 268435455 0 [104, 9], hR 536870911 0 [104, 105], hP 268435455 0 [104, 1], hP 268435455 0 [104, 7], hP 3489660927 0 [104, 107, 108], hP 7784628223 0 [104, 109], hP 16374562815 0 [104, 110], hR 33554431999 0 [104, 111], hP 68719476735 0 [104, 106, 112], hP 137438953471 0 [104, 113], hP 274877906943 0 [114, 9], hR 549755813887 0 [114, 115], hP 1099511627775 0 [114, 116], hP 2199023255551 0 [114, 117], hP 4398046511103 0 [118, 9], hR 8796093022207 0 [118, 119], hP 4398046511103 0 [118, 1], hP 4398046511103 0 [118, 7], hP 57174604644351 0 [118, 121, 122], hP 127543348822015 0 [118, 123], hP 268280837177343 0 [118, 124], hR 549755813887999 0 [118, 125], hP 1112705767309311 0 [118, 126], hP 2251799813685247 0 [118, 120, 127], hP 4503599627370495 0 [114, 118, 128], hP 9007199254740991 0 [104, 114, 129], hP 18014398509481983 0 [79, 104, 130], hP 36028797018963967 0 [79, 131]], 0, [(4, [0]), (9, [0]), (13, [0]), (19, [0]), (24, [0]), (29, [0]), (35, [0]), (39, [0]), (43, [0]), (49, [0])]⟩⟩)
 (.node (some ⟨[], 0, ⟨[hP 0 0 [9], hR 1 0 [178], hP 3 0 [179], hP 7 0 [180], hP 15 0 [181, 8], hP 15 0 [181, 9], hR 47 0 [181, 183], hP 127 0 [181, 182, 184], hP 255 0 [181, 185], hR 511 0 [181, 186], hP 15 0 [181, 9], hR 1039 0 [181, 188], hP 4095 0 [181, 187, 189], hP 8191 0 [181, 190], hP 16383 0 [191, 8], hP 16383 0 [191, 9], hR 49151 0 [191, 193], hP 131071 0 [191, 192, 194], hP 262143 0 [191, 195], hR 524287 0 [191, 196], hR 1048575 0 [191, 197], hP 2097151 0 [191, 198], hP 4194303 0 [181, 191, 199], hP 8388607 0 [181, 200], hP 16777215 0 [201]], 0, [(1, [0]), (6, [0]), (9, [0]), (11, [0]), (16, [0]), (19, [0]), (20, [0])]⟩⟩) .nil .nil) .nil)) .nil) (.node none (.node none (.node (some ⟨[], 0, ⟨[hR 0 0 [2], hP 0 0 [5], hP 0 0 [1], hP 0 0 [7], hP 12 0 [30, 31], hP 28 0 [32], hR 60 0 [33], hP 0 0 [1], hP 0 0 [7], hP 384 0 [35, 36], hP 896 0 [37], hR 1920 0 [38], hE 4095 0 [28, 29, 34, 39], hP 8191 1 [40], hP 16383 1 [27], hP 16383 1 [27], hP 16383 1 [27], hP 0 1 [], hP 163839 1 [41], hE 458751 1 [9, 42], hP 1048575 2 [43]], 2, [(0, [0]), (6, [0]), (11, [0])]⟩⟩)
 (.node (some ⟨[], 0, ⟨[hP 0 0 [6], hP 0 0 [9], hR 2 0 [153], hR 7 0 [152, 154], hR 15 0 [155], hP 31 0 [156], hP 63 0 [157], hP 127 0 [158, 6], hP 127 0 [158, 9], hR 383 0 [158, 160], hR 1023 0 [158, 159, 161], hP 2047 0 [158, 162], hR 4095 0 [158, 163], hP 127 0 [158, 9], hR 8319 0 [158, 165], hP 32767 0 [158, 164, 166], hP 65535 0 [158, 167]], 0, [(2, [0]), (3, [0]), (4, [0]), (9, [0]), (10, [0]), (12, [0]), (14, [0])]⟩⟩) .nil .nil) .nil) .nil) (.node none (.node none (.node (some ⟨[], 0, ⟨[hP 0 0 [6], hP 0 0 [9], hR 2 0 [170], hP 0 0 [6], hP 0 0 [9], hR 16 0 [173], hR 56 0 [172, 174], hP 120 0 [175], hE 255 0 [169, 171, 176]], 1, [(2, [0]), (5, [0]), (6, [0])]⟩⟩) .nil .nil) .nil) (.node (some ⟨[], 0, ⟨[hP 0 0 [6], hP 0 0 [9], hR 2 0 [138], hP 0 0 [6], hP 0 0 [9], hR 16 0 [141], hR 56 0 [140, 142], hP 0 0 [9], hR 128 0 [144], hP 384 0 [145], hE 1016 0 [143, 146], hE 2047 1 [137, 139, 147]], 2, [(2, [0, 1]), (5, [0]), (6, [0]), (8, [0])]⟩⟩) .nil .nil)))))
 (.node none (.node none (.node none (.node (some (.node none (.node (some ⟨[], 0, ⟨[hP 0 0 [0], hP 1 0 [3], hP 3 0 [4], hR 7 0 [5], hP 15 0 [6], hP 31 0 [7], hR 63 0 [8], hP 0 0 [0], hP 128 0 [10], hP 384 0 [11], hR 896 0 [12], hP 2047 0 [9, 13], hP 4095 0 [14], hP 8191 0 [15, 0], hP 16383 0 [15, 16], hP 32767 0 [15, 17], hR 65535 0 [15, 18], hP 131071 0 [15, 19], hP 262143 0 [15, 20], hR 524287 0 [15, 21], hP 8191 0 [15, 0], hP 1056767 0 [15, 23], hP 3153919 0 [15, 24], hR 7348223 0 [15, 25], hE 16777215 0 [15, 22, 26], hP 33554431 1 [15, 27], hP 67108863 1 [28]], 1, [(3, [0]), (6, [0]), (10, [0]), (16, [0]), (19, [0]), (23, [0])]⟩⟩) .nil .nil) .nil)) .nil .nil) (.node (some (.node none (.node none .nil (.node (some ⟨[], 0, ⟨[hR 0 0 [0], hP 1 0 [23], hP 3 0 [24], hR 7 0 [25], hP 15 0 [26], hP 31 0 [27], hR 63 0 [28], hR 0 0 [0], hP 128 0 [30], hP 384 0 [31], hR 896 0 [32], hP 2047 0 [29, 33]], 0, [(0, [0]), (3, [0]), (6, [0]), (7, [0]), (10, [0])]⟩⟩) .nil .nil)) (.node none .nil (.node (some ⟨[], 0, ⟨[hR 0 0 [0], hP 1 0 [35], hP 3 0 [36], hR 7 0 [37], hR 0 0 [0], hP 16 0 [39], hP 48 0 [40], hR 112 0 [41], hP 0 0 [3], hP 256 0 [43], hP 255 0 [38], hP 1279 0 [45], hE 3327 0 [46], hP 8191 1 [42], hP 16383 1 [47], hE 32767 1 [48, 44]], 2, [(0, [0]), (3, [0]), (4, [0]), (7, [0])]⟩⟩) .nil .nil)))) .nil .nil)) (.node (some (.node none .nil (.node none .nil (.node (some ⟨[], 0, ⟨[hP 0 0 [9], hP 1 0 [47], hP 3 0 [48, 3], hR 7 0 [48, 49], hP 3 0 [48, 5], hR 19 0 [48, 51], hP 63 0 [48, 50, 52], hP 127 0 [48, 53], hR 255 0 [48, 54], hR 3 0 [48, 5], hP 3 0 [48, 7], hE 2047 0 [48, 55, 56, 57], hP 4095 1 [48, 58], hP 8191 1 [59], hP 16383 1 [60, 5], hR 32767 1 [60, 61], hP 65535 1 [60, 62], hP 131071 1 [60, 63], hP 262143 1 [64, 8], hP 524287 1 [60, 64, 65], hP 1048575 1 [60, 66], hP 2097151 1 [67]], 1, [(3, [0]), (5, [0]), (8, [0]), (9, [0]), (15, [1])]⟩⟩) .nil .nil))))
 .nil (.node (some (.node none .nil (.node none .nil (.node none (.node (some ⟨[], 0, ⟨[hP 0 0 [3], hP 1 0 [34], hP 3 0 [35], hR 7 0 [36], hP 0 0 [5], hR 16 0 [38], hP 0 0 [5], hR 64 0 [40], hE 255 0 [37, 39, 41]], 1, [(3, [0]), (5, [0]), (7, [0])]⟩⟩) .nil .nil) .nil))))
 (.node (some (.node none (.node none .nil (.node none (.node (some ⟨[], 0, ⟨[hP 0 0 [1], hR 1 0 [43], hP 3 0 [44], hP 7 0 [45], hP 15 0 [46, 3], hP 31 0 [46, 47], hP 63 0 [46, 48], hP 127 0 [49], hP 255 0 [50, 3], hP 511 0 [50, 51], hP 1023 0 [50, 52], hP 2047 0 [53], hP 4095 0 [54, 3], hP 8191 0 [54, 55], hP 16383 0 [54, 4, 56], hR 32767 0 [54, 57], hP 4095 0 [54, 1], hR 69631 0 [54, 59], hE 262143 0 [54, 58, 60], hP 524287 1 [54, 61], hP 1048575 1 [62]], 1, [(1, [0]), (15, [0]), (17, [0])]⟩⟩) .nil .nil) .nil)) .nil)) .nil .nil) .nil))) (.node (some (.node none (.node none (.node none .nil (.node (some ⟨[], 0, ⟨[hP 0 0 [11], hP 0 0 [2], hP 0 0 [7], hR 4 0 [88], hP 0 0 [7], hR 16 0 [90], hP 0 0 [12], hP 126 0 [87, 89, 91, 92], hP 1 0 [86], hE 511 0 [9, 93], hP 1023 1 []], 1, [(3, [0]), (5, [0])]⟩⟩) .nil .nil)) (.node none (.node (some ⟨[], 0, ⟨[hP 0 0 [1], hE 1 0 [75], hP 0 1 [2], hP 0 1 [7], hR 8 1 [78], hP 0 1 [7], hR 32 1 [80], hP 96 1 [81], hP 252 1 [77, 79, 82], hP 3 1 [76], hE 1023 1 [9, 83], hP 2047 2 []], 2, [(4, [0, 1]), (6, [0, 1])]⟩⟩) .nil .nil) .nil)) (.node (some ⟨[], 0, ⟨[hR 0 0 [4], hP 0 0 [1], hE 3 0 [16, 17], hP 7 1 [18], hP 15 1 [19], hP 31 1 [20, 2], hP 63 1 [20, 21], hP 127 1 [20, 22], hP 255 1 [23], hP 511 1 [24, 2], hP 511 1 [24, 4], hR 1535 1 [24, 26], hR 3583 1 [24, 27], hP 8191 1 [24, 25, 28], hP 16383 1 [24, 29], hP 32767 1 [30], hP 65535 1 [31, 7], hR 131071 1 [31, 32], hP 262143 1 [31, 33], hP 524287 1 [31, 34], hP 1048575 1 [35], hP 2097151 1 [36, 7], hR 4194303 1 [36, 37], hP 2097151 1 [36, 4], hR 10485759 1 [36, 39], hR 27262975 1 [36, 40], hP 67108863 1 [36, 38, 41], hP 134217727 1 [36, 42], hP 268435455 1 [43], hP 536870911 1 [44, 7], hR 1073741823 1 [44, 45], hE 2147483647 1 [44, 46], hP 536870911 2 [44, 4], hR 4831838207 2 [44, 48], hP 536870911 2 [44, 7], hR 17716740095 2 [44, 50], hP 64961380351 2 [44, 49, 51], hP 133680857087 2 [44, 52], hR 271119810559 2 [44, 53], hP 549755813887 2 [44, 47, 54], hP 1099511627775 2 [44, 55]], 2, [(0, [0]), (11, [1]), (12, [1]), (17, [1]), (22, [1]), (24, [1]), (25, [1]), (30, [1]), (33, [1, 2]), (35, [1, 2]), (38, [1, 2])]⟩⟩)
 (.node none .nil (.node (some ⟨[], 0, ⟨[hP 0 0 [11], hP 0 0 [2], hP 0 0 [7], hR 4 0 [96], hP 0 0 [7], hR 16 0 [98], hP 0 0 [12], hP 126 0 [95, 97, 99, 100], hP 1 0 [94], hE 511 0 [9, 101], hP 1023 1 []], 1, [(3, [0]), (5, [0])]⟩⟩) .nil .nil)) .nil)))
 (.node none (.node (some (.node none (.node none (.node (some ⟨[], 0, ⟨[hR 0 0 [0], hP 1 0 [5], hP 3 0 [6], hP 7 0 [7], hR 15 0 [8], hR 0 0 [0], hP 32 0 [10], hP 96 0 [11], hP 224 0 [12], hR 480 0 [13], hP 1023 0 [9, 14], hE 2047 0 [15], hP 4095 1 [], hP 8191 1 [16]], 1, [(0, [0]), (4, [0]), (5, [0]), (9, [0])]⟩⟩) .nil .nil) .nil) .nil))
 (.node (some (.node none (.node (some ⟨[], 0, ⟨[hP 0 0 [0], hP 1 0 [9], hP 3 0 [10], hR 7 0 [11], hP 0 0 [3], hR 16 0 [13], hR 63 0 [12, 14], hP 127 0 [15], hP 255 0 [8], hP 255 0 [8], hP 511 0 [16], hP 2047 0 [17]], 0, [(3, [0]), (5, [0]), (6, [0])]⟩⟩) .nil .nil) .nil)) .nil .nil) .nil) .nil) (.node none (.node (some (.node none .nil (.node none (.node (some ⟨[], 0, ⟨[hR 0 0 [0], hP 1 0 [22], hP 3 0 [23], hR 7 0 [24], hR 0 0 [0], hP 16 0 [26], hP 48 0 [27], hR 112 0 [28], hP 240 0 [29], hP 496 0 [30], hR 1008 0 [31], hP 2032 0 [32], hP 4095 0 [25], hP 8191 0 [34], hE 16383 0 [35, 33]], 1, [(0, [0]), (3, [0]), (4, [0]), (7, [0]), (10, [0])]⟩⟩) .nil .nil) .nil)))
 (.node (some (.node none (.node (some ⟨[], 0, ⟨[hR 0 0 [0], hP 0 0 [2], hE 3 0 [8, 9]], 1, [(0, [0])]⟩⟩) .nil .nil) (.node (some ⟨[], 0, ⟨[hP 0 0 [2], hR 0 0 [0], hP 2 0 [12], hP 6 0 [13], hP 14 0 [14], hR 30 0 [15], hE 63 0 [11, 16], hP 127 1 [17], hP 255 1 [18], hP 127 1 [1], hE 639 1 [20], hP 2047 2 [1], hE 4095 2 [21, 19]], 3, [(1, [0]), (5, [0])]⟩⟩) .nil .nil))) .nil .nil) .nil) .nil))) (.node none (.node (some (.node none .nil (.node none .nil (.node (some ⟨[], 0, ⟨[hP 0 0 [2], hR 1 0 [25], hP 0 0 [5], hP 7 0 [26, 27], hR 15 0 [28], hR 0 0 [6], hP 0 0 [2], hR 64 0 [31], hR 192 0 [32], hE 511 0 [29, 30, 33], hP 1023 1 [34]], 1, [(1, [0]), (4, [0]), (5, [0]), (7, [0]), (8, [0])]⟩⟩) .nil .nil))))
 (.node none (.node (some (.node none (.node (some ⟨[], 0, ⟨[hP 0 0 [0], hP 1 0 [3], hP 3 0 [4], hR 7 0 [5], hP 15 0 [6], hP 31 0 [7], hR 63 0 [8], hP 0 0 [0], hP 128 0 [10], hP 384 0 [11], hR 896 0 [12], hP 2047 0 [9, 13]], 0, [(3, [0]), (6, [0]), (10, [0])]⟩⟩) .nil .nil) .nil)) .nil .nil) .nil) (.node none (.node none (.node (some (.node none (.node (some ⟨[], 0, ⟨[hP 0 0 [0], hP 0 0 [1], hP 0 0 [2], hP 6 0 [11, 12], hP 1 0 [10], hP 31 0 [14, 13], hR 63 0 [15], hP 127 0 [16]], 0, [(6, [0])]⟩⟩) .nil .nil) (.node none (.node none (.node (some ⟨[], 0, ⟨[hP 0 0 [8], hP 0 0 [1], hR 2 0 [39], hP 7 0 [38, 40], hP 15 0 [41], hP 31 0 [42, 0], hP 31 0 [42, 1], hP 31 0 [42, 8], hP 223 0 [42, 44, 45], hP 63 0 [42, 43], hP 1023 0 [42, 47, 46], hR 2047 0 [42, 48], hP 4095 0 [42, 49], hP 8191 0 [42, 50], hP 16383 0 [51, 0], hP 16383 0 [51, 1], hP 16383 0 [51, 8], hP 114687 0 [51, 53, 54], hP 32767 0 [51, 52], hP 524287 0 [51, 56, 55], hR 1048575 0 [51, 57], hP 2097151 0 [51, 58], hP 4194303 0 [51, 59], hP 8388607 0 [60, 7], hP 16777215 0 [60, 61], hP 33554431 0 [51, 60, 62], hP 67108863 0 [42, 51, 63], hP 134217727 0 [42, 64]], 0, [(2, [0]), (11, [0]), (20, [0])]⟩⟩) .nil .nil) .nil) .nil))) .nil .nil) .nil) .nil)) (.node (some (.node none (.node (some ⟨[], 0, ⟨[hP 0 0 [0], hP 1 0 [16], hP 3 0 [17], hR 7 0 [18], hP 0 0 [0], hP 16 0 [20], hP 48 0 [21], hR 112 0 [22], hP 0 0 [1], hP 0 0 [2], hP 0 0 [3], hP 0 0 [4], hP 3584 0 [25, 26, 27], hE 8191 0 [19, 23, 24, 28], hP 16383 1 [29], hP 32767 1 [15], hP 32767 1 [15], hP 32767 1 [15], hP 0 1 [], hP 327679 1 [30], hE 917503 1 [13, 31], hP 2097151 2 [32]], 2, [(3, [0]), (7, [0])]⟩⟩) .nil .nil) .nil))
 (.node (some (.node none (.node none (.node (some ⟨[], 0, ⟨[hP 0 0 [10], hP 1 0 [27], hP 3 0 [28], hR 7 0 [29], hP 0 0 [2], hP 31 0 [30, 31], hP 0 0 [10], hP 64 0 [33], hP 192 0 [34], hR 448 0 [35], hP 960 0 [36], hP 63 0 [32], hP 4095 0 [37]], 0, [(3, [0]), (9, [0])]⟩⟩)
 .nil (.node none .nil (.node none .nil (.node (some ⟨[], 0, ⟨[hP 0 0 [10], hP 0 0 [10], hP 2 0 [183], hP 6 0 [184], hR 14 0 [185], hP 0 0 [7], hR 32 0 [187], hP 96 0 [188], hE 254 0 [186, 189], hP 511 1 [182], hP 1023 1 [191], hE 2047 1 [192, 190]], 2, [(4, [0]), (6, [0])]⟩⟩) .nil .nil)))) .nil) .nil))
 (.node (some (.node none (.node none .nil (.node (some ⟨[], 0, ⟨[hP 0 0 [0], hP 0 0 [1], hP 3 0 [20, 21], hP 0 0 [0], hP 0 0 [2], hP 24 0 [23, 24], hE 63 0 [22, 25], hP 127 1 [26]], 1, []⟩⟩) .nil .nil)) .nil)) .nil .nil) .nil) (.node none (.node (some (.node none .nil (.node none (.node (some ⟨[], 0, ⟨[hR 0 0 [0], hP 1 0 [22], hP 3 0 [23], hR 7 0 [24], hR 0 0 [0], hP 16 0 [26], hP 48 0 [27], hR 112 0 [28], hP 240 0 [29], hP 496 0 [30], hR 1008 0 [31], hP 2032 0 [32], hP 4095 0 [25], hP 8191 0 [34], hE 16383 0 [35, 33]], 1, [(0, [0]), (3, [0]), (4, [0]), (7, [0]), (10, [0])]⟩⟩) .nil .nil) .nil))) .nil .nil) (.node (some (.node none (.node none .nil (.node none (.node none .nil (.node (some ⟨[], 0, ⟨[hP 0 0 [], hP 0 0 [7], hR 2 0 [87], hP 6 0 [88], hE 1 0 [4, 86], hE 31 1 [5, 89]], 2, [(2, [0, 1])]⟩⟩) .nil .nil)) .nil)) .nil)) .nil .nil))))) (.node none (.node none (.node none (.node (some (.node none .nil (.node none .nil (.node none .nil (.node (some ⟨[], 0, ⟨[hR 0 0 [1], hR 0 0 [7], hP 0 0 [7], hR 4 0 [67], hP 0 0 [8], hP 28 0 [68, 69], hR 60 0 [70], hE 127 0 [65, 66, 71], hP 255 1 [72], hP 511 1 [73], hP 1023 1 [74, 7], hR 2047 1 [74, 75], hP 1023 1 [74, 8], hP 8191 1 [74, 76, 77], hP 16383 1 [74, 78], hR 32767 1 [74, 79], hP 1023 1 [74, 7], hE 131071 1 [74, 80, 81], hP 262143 2 [74, 82], hP 524287 2 [83]], 2, [(0, [0]), (1, [0]), (3, [0]), (6, [0]), (11, [1]), (15, [1])]⟩⟩) .nil .nil)))))
 (.node (some (.node none (.node none (.node (some ⟨[], 0, ⟨[hP 0 0 [0], hP 1 0 [11], hP 3 0 [12], hR 7 0 [13], hP 0 0 [0], hP 16 0 [15], hP 48 0 [16], hR 112 0 [17], hP 255 0 [14], hP 511 0 [19], hE 1023 0 [20, 18]], 1, [(3, [0]), (7, [0])]⟩⟩) .nil .nil) .nil) .nil)) .nil .nil) (.node (some (.node none (.node none (.node (some ⟨[], 0, ⟨[hR 0 0 [0], hP 1 0 [12], hP 3 0 [13], hR 7 0 [14], hP 15 0 [15], hP 31 0 [16], hR 63 0 [17], hR 0 0 [0], hP 128 0 [19], hP 384 0 [20], hR 896 0 [21], hP 2047 0 [18, 22], hP 4095 0 [23]], 0, [(0, [0]), (3, [0]), (6, [0]), (7, [0]), (10, [0])]⟩⟩) .nil .nil) .nil) .nil))
 (.node (some (.node (some ⟨[], 0, ⟨[hR 0 0 [0], hP 1 0 [2], hP 3 0 [3], hP 7 0 [4], hR 15 0 [5], hR 0 0 [1], hR 0 0 [0], hE 64 0 [8], hP 255 1 [6, 7], hP 511 1 [10], hE 1023 1 [11, 9]], 2, [(0, [0, 1]), (4, [0, 1]), (5, [0, 1]), (6, [0])]⟩⟩) .nil .nil)) .nil .nil) .nil)) (.node none (.node (some (.node none (.node (some ⟨[], 0, ⟨[hR 0 0 [0], hP 1 0 [3], hP 3 0 [4], hP 7 0 [5], hR 15 0 [6], hR 0 0 [0], hP 32 0 [8], hP 96 0 [9], hR 224 0 [10], hP 480 0 [11], hP 992 0 [12], hR 2016 0 [13], hP 4064 0 [14], hP 8191 0 [7, 15], hP 16383 0 [16], hR 32767 0 [17, 0], hP 65535 0 [17, 18], hP 131071 0 [17, 19], hP 262143 0 [17, 20], hR 524287 0 [17, 21], hR 32767 0 [17, 0], hP 1081343 0 [17, 23], hP 3178495 0 [17, 24], hR 7372799 0 [17, 25], hP 15761407 0 [17, 26], hP 32538623 0 [17, 27], hR 66093055 0 [17, 28], hP 133201919 0 [17, 29], hP 268435455 0 [17, 22, 30], hP 536870911 0 [17, 31]], 0, [(0, [0]), (4, [0]), (5, [0]), (8, [0]), (11, [0]), (15, [0]), (19, [0]), (20, [0]), (23, [0]), (26, [0])]⟩⟩)
 (.node (some ⟨[], 0, ⟨[hR 0 0 [0], hP 1 0 [33], hP 3 0 [34], hR 7 0 [35], hP 15 0 [36], hP 31 0 [37], hR 63 0 [38], hR 0 0 [0], hP 128 0 [40], hP 384 0 [41], hP 896 0 [42], hR 1920 0 [43], hP 4095 0 [39, 44], hP 8191 0 [36], hP 16383 0 [46], hE 32767 0 [47, 45]], 1, [(0, [0]), (3, [0]), (6, [0]), (7, [0]), (11, [0])]⟩⟩) .nil .nil) .nil) .nil))
 (.node (some (.node none .nil (.node (some ⟨[], 0, ⟨[hP 0 0 [0], hP 0 0 [1], hP 0 0 [2], hP 6 0 [13, 14], hP 1 0 [12], hP 31 0 [16, 15], hR 63 0 [17]], 0, [(6, [0])]⟩⟩) .nil .nil))) .nil .nil) .nil) (.node none (.node (some (.node none .nil (.node none (.node (some ⟨[], 0, ⟨[hP 0 0 [6], hR 1 0 [13], hP 3 0 [14], hP 7 0 [15], hP 15 0 [16, 0], hP 31 0 [16, 17], hP 63 0 [16, 18], hR 127 0 [16, 19], hP 15 0 [16, 6], hR 271 0 [16, 21], hR 1023 0 [16, 20, 22], hP 2047 0 [16, 23], hP 4095 0 [16, 24], hP 8191 0 [25], hP 16383 0 [26, 0], hP 16383 0 [26, 6], hR 49151 0 [26, 28], hE 131071 0 [26, 27, 29], hP 262143 1 [26, 30], hP 524287 1 [26, 31]], 1, [(1, [0]), (7, [0]), (9, [0]), (10, [0]), (16, [0])]⟩⟩) .nil .nil) .nil))) .nil .nil) .nil))) (.node (some (.node none .nil (.node (some ⟨[], 0, ⟨[hR 0 0 [3], hR 0 0 [3], hE 2 0 [8], hP 7 1 [7, 9], hP 15 1 [10], hP 31 1 [11]], 1, [(0, [0, 1]), (1, [0])]⟩⟩) .nil .nil)))
 (.node none (.node (some (.node none (.node (some ⟨[], 0, ⟨[hR 0 0 [0], hP 1 0 [4], hP 3 0 [5], hR 7 0 [6], hP 15 0 [7], hP 31 0 [8], hR 63 0 [9], hR 0 0 [0], hP 128 0 [11], hP 384 0 [12], hR 896 0 [13], hE 2047 0 [10, 14], hP 4095 1 [15]], 1, [(0, [0]), (3, [0]), (6, [0]), (7, [0]), (10, [0])]⟩⟩) .nil .nil) (.node none (.node (some ⟨[], 0, ⟨[hR 0 0 [0], hP 1 0 [18], hP 3 0 [19], hR 7 0 [20], hR 0 0 [0], hP 16 0 [22], hP 48 0 [23], hR 112 0 [24], hP 240 0 [25], hP 496 0 [26], hR 1008 0 [27], hP 0 0 [3], hP 0 0 [3], hP 4096 0 [30], hE 16368 0 [28, 29, 31], hP 32767 1 [21], hP 65535 1 [33], hE 131071 1 [34, 32]], 2, [(0, [0, 1]), (3, [0, 1]), (4, [0]), (7, [0]), (10, [0])]⟩⟩) .nil .nil) .nil)))
 (.node (some (.node none (.node none .nil (.node (some ⟨[], 0, ⟨[hP 0 0 [5], hR 1 0 [13], hE 3 0 [14], hP 0 1 [5], hR 8 1 [16], hE 31 1 [17], hP 63 2 [15, 18], hP 127 2 [19]], 2, [(1, [0]), (4, [0, 1])]⟩⟩) .nil .nil)) .nil)) .nil .nil) .nil) .nil) (.node none (.node none (.node (some (.node none .nil (.node none (.node (some ⟨[], 9, ⟨[hP 0 0 [1], hP 1 0 [23], hP 3 0 [24], hR 7 0 [25], hP 0 0 [0], hE 16 0 [27], hR 15 1 [26], hP 0 1 [], hE 255 1 [26, 30]], 2, [(3, [0, 1]), (6, [0, 1])]⟩⟩) .nil .nil) .nil))) .nil .nil) .nil) .nil))) (.node (some (.node none (.node none .nil (.node (some ⟨[], 0, ⟨[hP 0 0 [3], hP 0 0 [1], hR 2 0 [22], hP 0 0 [4], hP 14 0 [23, 24], hP 30 0 [25], hR 62 0 [26], hR 126 0 [27], hP 0 0 [1], hR 256 0 [29], hP 0 0 [4], hP 1792 0 [30, 31], hP 3840 0 [32], hR 7936 0 [33], hR 16128 0 [34], hP 32766 0 [28, 35], hP 65535 0 [21, 36], hP 131071 0 [37]], 0, [(2, [0]), (6, [0]), (7, [0]), (9, [0]), (13, [0]), (14, [0])]⟩⟩) .nil .nil)) .nil))
 (.node (some (.node none .nil (.node none .nil (.node (some ⟨[], 0, ⟨[hP 0 0 [], hP 0 0 [5], hR 2 0 [17], hE 7 0 [16, 18], hP 0 1 [], hP 0 1 [5], hR 32 1 [21], hE 127 1 [20, 22], hP 111 2 [5], hE 511 2 [24, 19], hP 1023 3 [5], hE 2047 3 [25, 23]], 4, [(2, [0]), (6, [0, 1])]⟩⟩) .nil .nil))))
 (.node (some (.node none (.node none .nil (.node (some ⟨[], 0, ⟨[hP 0 0 [0], hP 0 0 [3], hP 0 0 [0], hP 0 0 [3], hP 0 0 [0], hP 0 0 [3], hP 48 0 [15, 16], hP 112 0 [17], hR 240 0 [18], hE 496 0 [19], hP 0 1 [0], hP 0 1 [3], hP 3072 1 [21, 22], hP 7168 1 [23], hR 15360 1 [24], hE 32752 1 [25], hP 65523 2 [11, 12], hP 131059 2 [27], hE 262131 2 [28, 20], hP 524287 3 [13, 14], hP 1048575 3 [29], hE 2097151 3 [30, 26]], 4, [(8, [0]), (14, [0, 1])]⟩⟩) .nil .nil)) .nil))
 .nil (.node (some (.node none (.node none (.node none .nil (.node none (.node none .nil (.node (some ⟨[], 0, ⟨[hP 0 0 [10], hP 0 0 [10], hP 2 0 [217], hP 6 0 [218], hR 14 0 [219], hP 0 0 [7], hR 32 0 [221], hP 126 0 [220, 222], hP 255 0 [216], hP 511 0 [224], hE 1023 0 [225, 223]], 1, [(4, [0]), (6, [0])]⟩⟩) .nil .nil)) .nil)) (.node none (.node none (.node none (.node (some ⟨[], 0, ⟨[hP 0 0 [10], hP 1 0 [142], hP 3 0 [143], hR 7 0 [144], hP 0 0 [7], hR 16 0 [146], hP 63 0 [145, 147]], 0, [(3, [0]), (5, [0])]⟩⟩) .nil .nil) (.node (some ⟨[], 0, ⟨[hP 0 0 [7], hR 1 0 [188], hP 3 0 [189], hP 7 0 [190], hP 15 0 [191, 7], hR 31 0 [191, 192], hP 63 0 [191, 193], hP 127 0 [191, 194], hP 255 0 [195], hP 511 0 [196, 10], hP 1023 0 [196, 197], hP 2047 0 [196, 198], hR 4095 0 [196, 199], hP 511 0 [196, 7], hR 8703 0 [196, 201], hP 32767 0 [196, 200, 202], hP 65535 0 [196, 203], hP 131071 0 [196, 204], hP 262143 0 [205], hP 524287 0 [206, 10], hP 1048575 0 [206, 207], hP 2097151 0 [206, 208], hR 4194303 0 [206, 209], hP 524287 0 [206, 7], hR 8912895 0 [206, 211], hP 33554431 0 [206, 210, 212], hP 67108863 0 [206, 213], hP 134217727 0 [206, 214]], 0, [(1, [0]), (5, [0]), (12, [0]), (14, [0]), (22, [0]), (24, [0])]⟩⟩) .nil .nil)) .nil) .nil)) .nil)) .nil .nil)) (.node none (.node (some (.node none (.node (some ⟨[], 0, ⟨[hR 0 0 [0], hP 1 0 [3], hP 3 0 [4], hR 7 0 [5], hR 0 0 [0], hP 16 0 [7], hP 48 0 [8], hP 112 0 [9], hR 240 0 [10], hP 511 0 [6], hP 1023 0 [12], hE 2047 0 [13, 11]], 1, [(0, [0]), (3, [0]), (4, [0]), (8, [0])]⟩⟩) .nil .nil) .nil)) .nil .nil) .nil)) (.node none (.node (some (.node none (.node none (.node (some ⟨[], 0, ⟨[hP 0 0 [], hR 0 0 [4], hE 1 0 [2, 17], hE 7 1 [3, 18]], 2, [(1, [0, 1])]⟩⟩) .nil .nil) (.node none .nil (.node none (.node (some ⟨[], 0, ⟨[hP 0 0 [5], hR 1 0 [78], hP 0 0 [11], hP 4 0 [80], hP 12 0 [81], hR 28 0 [82], hP 60 0 [83], hE 127 0 [79, 84], hP 255 1 [5], hE 511 1 [86, 85]], 2, [(1, [0]), (5, [0])]⟩⟩) .nil .nil) .nil))) .nil))
 (.node none (.node (some (.node none .nil (.node (some ⟨[], 0, ⟨[hR 0 0 [2], hR 0 0 [2], hP 2 0 [9], hP 6 0 [10], hP 14 0 [11], hR 30 0 [12], hR 0 0 [3], hP 64 0 [14], hE 254 0 [13, 15], hP 511 1 [8], hP 1023 1 [17], hP 2047 1 [18], hE 4095 1 [19, 16]], 2, [(0, [0, 1]), (1, [0]), (5, [0]), (6, [0])]⟩⟩) .nil .nil))) .nil .nil) .nil) .nil) (.node none (.node (some (.node none (.node (some ⟨[], 0, ⟨[hR 0 0 [0], hP 1 0 [4], hP 3 0 [5], hR 7 0 [6], hR 0 0 [0], hP 16 0 [8], hP 48 0 [9], hR 112 0 [10], hP 255 0 [7, 11], hP 511 0 [12]], 0, [(0, [0]), (3, [0]), (4, [0]), (7, [0])]⟩⟩) .nil .nil) (.node (some ⟨[], 0, ⟨[hR 0 0 [0], hP 1 0 [13], hP 3 0 [14], hR 7 0 [15], hP 15 0 [16], hP 31 0 [17], hR 63 0 [18], hR 0 0 [0], hP 128 0 [20], hP 384 0 [21], hR 896 0 [22], hE 2047 0 [19, 23], hP 4095 1 [24], hP 8191 1 [25, 3], hP 16383 1 [25, 26], hP 32767 1 [25, 27], hR 65535 1 [25, 28], hP 131071 1 [25, 29], hP 262143 1 [25, 30]], 1, [(0, [0]), (3, [0]), (6, [0]), (7, [0]), (10, [0]), (16, [1])]⟩⟩) .nil .nil)))
 (.node (some (.node none .nil (.node none (.node (some ⟨[], 0, ⟨[hP 0 0 [1], hR 1 0 [15], hP 3 0 [16], hP 7 0 [17], hP 15 0 [18, 1], hR 31 0 [18, 19], hP 63 0 [18, 20], hP 127 0 [18, 21], hP 255 0 [22], hP 511 0 [23, 1], hR 1023 0 [23, 24], hE 2047 0 [23, 25], hP 4095 1 [23, 26], hP 8191 1 [23, 27], hP 16383 1 [28], hP 32767 1 [29, 1], hR 65535 1 [29, 30], hP 131071 1 [29, 31], hP 262143 1 [29, 32], hP 524287 1 [33], hP 1048575 1 [34, 1], hR 2097151 1 [34, 35], hR 4194303 1 [34, 36], hP 1048575 1 [34, 1], hR 9437183 1 [34, 38], hE 26214399 1 [34, 39], hP 67108863 2 [34, 37, 40], hP 134217727 2 [34, 41], hP 268435455 2 [42], hP 536870911 2 [43, 1], hR 1073741823 2 [43, 44], hR 2147483647 2 [43, 45], hP 4294967295 2 [43, 46], hP 8589934591 2 [43, 47], hP 17179869183 2 [48], hP 34359738367 2 [49, 3], hP 68719476735 2 [49, 50], hP 137438953471 2 [49, 51], hP 274877906943 2 [52, 1], hR 549755813887 2 [52, 53], hP 1099511627775 2 [52, 54], hP 2199023255551 2 [49, 52, 55], hP 4398046511103 2 [49, 56]], 2, [(1, [0]), (5, [0]), (10, [0]), (16, [1]), (21, [1, 2]), (22, [1, 2]), (24, [1]), (30, [2]), (31, [2]), (39, [2])]⟩⟩) .nil .nil) .nil))) .nil .nil) .nil) .nil))))))
end Go.As.Try
end
section
namespace Go.As.Try
open Go Go.As Go.Proofs
set_option maxRecDepth 100000
theorem aaM : (List.range 262).map tab.get = (List.range 262).map (aiG Tryz.prog) := by kernel_rfl
theorem TN : (List.range 225).map P8.get = (List.range 225).map (fun g => Tryz.prog.funcs[g]?) := by kernel_rfl
theorem aeL : (List.range 225).all (fun g => match P8.get g with | some f => apX (Rt (lim 262 tab) (hAt htab) g) f | none => true) = true := by kernel_rfl
theorem mixed : Tryz.prog.follows .mixedOrders = true := by kernel_rfl
end Go.As.Try
namespace Go.Proofs
open Go.Shelf
def Tryz.laysM144_ren : Go.Shelf.Ren := ⟨fun | 144 => 150 | 143 => 170 | 219 => 184 | 217 => 183 | 225 => 192 | 224 => 193 | 267 => 194 | 266 => 191 | 314 => 200 | n => n, fun | 9 => 9 | 4 => 4 | 3 => 3 | 5 => 5 | 46 => 237 | 146 => 243 | 51 => 240 | n => n, fun | 1 => 0 | n => n⟩
theorem Tryz.laysM144 : Go.Proofs.LaysM.n144 Tryz.prog Tryz.laysM144_ren where
 mixed := by kernel_rfl
 f143 := Tryz.func170.trans (congrArg some (by kernel_rfl))
 f144 := Tryz.func150.trans (congrArg some (by kernel_rfl))
 f217 := Tryz.func183.trans (congrArg some (by kernel_rfl))
 f219 := Tryz.func184.trans (congrArg some (by kernel_rfl))
 f224 := Tryz.func193.trans (congrArg some (by kernel_rfl))
 f225 := Tryz.func192.trans (congrArg some (by kernel_rfl))
 f266 := Tryz.func191.trans (congrArg some (by kernel_rfl))
 f267 := Tryz.func194.trans (congrArg some (by kernel_rfl))
 f314 := Tryz.func200.trans (congrArg some (by kernel_rfl))
 t3 := Tryz.underlying3
 a3 := Tryz.isAgg3
 z3 := Tryz.sizeOf3
 v3 := Tryz.zeroValue3
 t4 := Tryz.underlying4
 a4 := Tryz.isAgg4
 z4 := Tryz.sizeOf4
 v4 := Tryz.zeroValue4
 t5 := Tryz.underlying5
 a5 := Tryz.isAgg5
 z5 := Tryz.sizeOf5
 v5 := Tryz.zeroValue5
 t9 := Tryz.underlying9
 a9 := Tryz.isAgg9
 z9 := Tryz.sizeOf9
 v9 := Tryz.zeroValue9
 t46 := Tryz.underlying237
 a46 := Tryz.isAgg237
 z46 := Tryz.sizeOf237
 v46 := Tryz.zeroValue237
 t51 := Tryz.underlying240
 a51 := Tryz.isAgg240
 z51 := Tryz.sizeOf240
 v51 := Tryz.zeroValue240
 t146 := Tryz.underlying243
 a146 := Tryz.isAgg243
 z146 := Tryz.sizeOf243
 v146 := Tryz.zeroValue243
 g1 := by kernel_rfl
 i3 := by kernel_rfl
 i4 := by kernel_rfl
 i5 := by kernel_rfl
 i9 := by kernel_rfl
 i46 := by kernel_rfl
 i51 := by kernel_rfl
 i146 := by kernel_rfl
 m1 := by kernel_rfl
 s1_3 := fun w h => Go.Proofs.cell_of_shapedOpen_int (zero := #[.int .i64 0]) (t := 3) h (of_decide_eq_true (by kernel_rfl)) (by kernel_rfl) rfl (by kernel_rfl) (by kernel_rfl) Tryz.underlying3
end Go.Proofs
end
section
namespace Go.As
noncomputable section
open Go.RowKit
def xX : List AV → St → T (AV × St) := fun args s => match args with
 | [.lJ e, .int .u8 (.lit (.ofNat c))] => if c < 256 then .ret (.int .i64 (.op .cnt e (.lit (Int.ofNat c))), s) else .fail
 | args => Gf args s
def xW : List AV → St → T (AV × St) := fun args s => match args with
 | [.lJ e, .int .u8 (.lit (.ofNat c))] => if c < 256 then .ret (.int .i64 (.op .idx e (.lit (Int.ofNat c))), s) else .fail
 | args => F9 args s
def qB : List AV → St → T (AV × St) := fun args s => match args with
 | [.str b, .lJ e] => if b.length < 4294967281 then .ret (.bool (.not (.eq (.op .con (.dat (mQ b)) e) (.lit 0))), s) else .fail
 | args => xY args s
theorem Yr {x : UInt8} {c : Nat} (hc : c < 256) : (D.i (x.toNat : Int) = .i (c : Int)) ↔ x = UInt8.ofNat c := by
 simp only [D.i.injEq, Int.ofNat_inj]
 constructor
 ·intro h
  rw [← h]
  simp
 ·intro h
  rw [h, UInt8.toNat_ofNat']
  omega
theorem Yu {c : Nat} (hc : c < 256) : ∀ l : List UInt8, (Lib.countByte l (UInt8.ofNat c) : Int) = amK (l.map fun b => .i (b.toNat : Int)) (c : Int)
 | [] => rfl
 | x :: xs => by
   have ih := Yu hc xs
   unfold Lib.countByte at *
   rw [List.count_cons, List.map_cons]
   simp only [amK]
   rw [← ih]
   by_cases h : x = UInt8.ofNat c
   ·rw [if_pos ((Yr hc).2 h), if_pos (by simpa using h)]
    omega
   ·rw [if_neg (fun q => h ((Yr hc).1 q)), if_neg (by simpa using h)]
    omega
theorem Ur {c : Nat} (hc : c < 256) : ∀ (l : List UInt8) (i : Nat), (Lib.indexByte l (UInt8.ofNat c) = -1 → uZ (c : Int) (l.map fun b => .i (b.toNat : Int)) (i : Int) = -1) ∧ (Lib.indexByte l (UInt8.ofNat c) ≠ -1 → uZ (c : Int) (l.map fun b => .i (b.toNat : Int)) (i : Int) = (i : Int) + Lib.indexByte l (UInt8.ofNat c))
 | [], i => ⟨fun _ => rfl, fun h => absurd rfl h⟩
 | x :: xs, i => by
   obtain ⟨ih1, ih2⟩ := Ur hc xs (i + 1)
   have hge := Lib.indexByte_ge xs (UInt8.ofNat c)
   have hcast : (((i + 1 : Nat) : Int)) = (i : Int) + 1 := by omega
   rw [hcast] at ih1 ih2
   have key : Lib.indexByte (x :: xs) (UInt8.ofNat c) = if x = UInt8.ofNat c then 0 else if Lib.indexByte xs (UInt8.ofNat c) = -1 then -1 else Lib.indexByte xs (UInt8.ofNat c) + 1 := by
    simp only [Lib.indexByte, beq_iff_eq]
   have key2 : uZ (c : Int) ((x :: xs).map fun b => .i (b.toNat : Int)) (i : Int) = if (x.toNat : Int) = (c : Int) then (i : Int) else uZ (c : Int) (xs.map fun b => .i (b.toNat : Int)) ((i : Int) + 1) := rfl
   by_cases h : x = UInt8.ofNat c
   ·have h' := (Yr hc).2 h
    simp only [D.i.injEq] at h'
    rw [key, key2, if_pos h, if_pos h']
    exact ⟨fun q => by omega, fun _ => by omega⟩
   ·have h' : ¬ (x.toNat : Int) = (c : Int) := fun q => h ((Yr hc).1 (by rw [q]))
    rw [key, key2, if_neg h, if_neg h']
    by_cases hi : Lib.indexByte xs (UInt8.ofNat c) = -1
    ·rw [if_pos hi]
     exact ⟨fun _ => ih1 hi, fun q => absurd rfl q⟩
    ·rw [if_neg hi]
     exact ⟨fun q => by omega, fun _ => by rw [ih2 hi]; omega⟩
theorem amJ {c : Nat} (hc : c < 256) (l : List UInt8) : L9 (l.map fun b => .i (b.toNat : Int)) (c : Int) = Lib.indexByte l (UInt8.ofNat c) := by
 obtain ⟨h1, h2⟩ := Ur hc l 0
 unfold L9
 by_cases h : Lib.indexByte l (UInt8.ofNat c) = -1
 ·have := h1 h
  rw [h]; exact this
 ·have := h2 h
  rw [show ((0 : Nat) : Int) = 0 from rfl, Int.zero_add] at this
  exact this
theorem Yp : ∀ (c s : List UInt8), WT (c.map fun b => .i (b.toNat : Int)) (s.map fun b => .i (b.toNat : Int)) = c.isPrefixOf s
 | [], s => by simp [WT]
 | _ :: _, [] => rfl
 | a :: x, b :: y => by
   simp only [List.map_cons, WT, List.isPrefixOf, Yp x y]
   congr 1
   rw [Bool.eq_iff_iff, decide_eq_true_eq, beq_iff_eq]
   simp only [D.i.injEq, Int.ofNat_inj]
   exact UInt8.toNat_inj
theorem Yt (c : List UInt8) : ∀ s : List UInt8, agU (s.map fun b => .i (b.toNat : Int)) (c.map fun b => .i (b.toNat : Int)) = Lib.contains s c
 | [] => by
   cases c <;> simp [agU, WT, Lib.contains, Lib.index]
 | b :: bs => by
   have ih := Yt c bs
   have hp := Yp c (b :: bs)
   simp only [List.map_cons] at hp
   unfold Lib.contains at *
   simp only [List.map_cons, Lib.index, agU]
   rw [hp, ih]
   have hge := index_ge c bs
   have key : (0 ≤ (if c.isPrefixOf (b :: bs) = true then (0 : Int) else if (Lib.index bs c == -1) = true then -1 else Lib.index bs c + 1)) ↔ (c.isPrefixOf (b :: bs) = true ∨ 0 ≤ Lib.index bs c) := by
    by_cases hq : c.isPrefixOf (b :: bs) = true
    ·simp [hq]
    ·by_cases h1 : Lib.index bs c = -1
     ·simp [hq, h1]
     ·simp only [beq_iff_eq, hq, h1, if_false, false_or, Bool.false_eq_true]
      omega
   rw [Bool.eq_iff_iff, Bool.or_eq_true, decide_eq_true_eq]
   exact key.symm.trans decide_eq_true_iff.symm
section
variable {P : Program}
theorem ZN [Glob] {g : FuncId} {fn : Func} (hf : P.funcs[g]? = some fn) (hname : (fn.name == "runtime.NumGoroutine") = false) (hb : fn.body.isNone = true) (hn : Extern.findNext fn = none) (he : Extern.find fn = some Extern.BytealgCount.count) : mY P g xX := by
 intro aAX s E w vals u s' r hv hp hl
 unfold xX at hl
 split at hl
 ·rename_i e c
  split at hl
  ·rename_i hc
   have := aF hl
   simp only [Prod.mk.injEq] at this
   obtain ⟨rfl, rfl⟩ := this
   simp only [bD, VR, SE.den] at hv
   obtain ⟨u1, r1, rfl, hrd, u2, r2, rfl, rfl, rfl⟩ := hv
   obtain ⟨st, rfl, hd⟩ := hrd.string
   refine ⟨rfl, hp, ?_⟩
   unfold uK uJ
   rw [Bv hf hname hb hn he (Lib.run_countString st (Int.ofNat c) w)]
   refine ⟨E, Stp.refl _ _ _, r, ?_⟩
   simp only [VR, SE.den, aN.den]
   have : (Int.ofNat c).toNat.toUInt8 = UInt8.ofNat c := rfl
   rw [this, Yu hc, hd]
   unfold yN uF
   rw [bC]
   rfl
  ·simp [T.leaf] at hl
 ·exact agV hf hname hb hn he _ _ _ _ _ _ _ r hv hp hl
theorem Zq [Glob] {g : FuncId} {fn : Func} (hf : P.funcs[g]? = some fn) (hname : (fn.name == "runtime.NumGoroutine") = false) (hb : fn.body.isNone = true) (hn : Extern.findNext fn = none) (he : Extern.find fn = some Extern.BytealgIndexByte.indexByte) : mY P g xW := by
 intro aAX s E w vals u s' r hv hp hl
 unfold xW at hl
 split at hl
 ·rename_i e c
  split at hl
  ·rename_i hc
   have := aF hl
   simp only [Prod.mk.injEq] at this
   obtain ⟨rfl, rfl⟩ := this
   simp only [bD, VR, SE.den] at hv
   obtain ⟨u1, r1, rfl, hrd, u2, r2, rfl, rfl, rfl⟩ := hv
   obtain ⟨st, rfl, hd⟩ := hrd.string
   refine ⟨rfl, hp, ?_⟩
   unfold uK uJ
   rw [Bv hf hname hb hn he (Lib.run_indexByteString st (Int.ofNat c) w)]
   refine ⟨E, Stp.refl _ _ _, r, ?_⟩
   simp only [VR, SE.den, aN.den]
   have : (Int.ofNat c).toNat.toUInt8 = UInt8.ofNat c := rfl
   rw [this, ← amJ hc, hd]
   unfold yN uF
   rw [bC]
   rfl
  ·simp [T.leaf] at hl
 ·exact adR hf hname hb hn he _ _ _ _ _ _ _ r hv hp hl
theorem Rn [Glob] {g : FuncId} (hg : ∀ (ρ : Nat → Int) (ro : Nat → Prop) (w : World), Glob.ok ρ ro w.heap → ∀ s sub : ByteArray, s.size < 4294967281 → Calls P g #[.string s, .string sub] w fun e w' => e = .returned (.bool (Lib.contains s.data.toList sub.data.toList)) ∧ w' = w)
 (hrun : ∀ (args : Array Value) (w : World), (callFunc g args).run P w = .ok (.enter g args) w) : mY P g qB := by
 intro aAX s E w vals u s' r hv hp hl
 unfold qB at hl
 split at hl
 ·rename_i b e
  split at hl
  ·rename_i hlen
   have := aF hl
   simp only [Prod.mk.injEq] at this
   obtain ⟨rfl, rfl⟩ := this
   simp only [bD, VR] at hv
   obtain ⟨u1, r1, rfl, ⟨rfl, hbb⟩, u2, r2, rfl, hrd, rfl⟩ := hv
   obtain ⟨st, rfl, hd⟩ := hrd.string
   refine ⟨rfl, hp, ?_⟩
   unfold uK uJ
   rw [hrun]
   refine Calls.mono (hg E.ρ E.ro w r.glob (bP b) st (by simpa [bP, ByteArray.size] using hlen)) fun e' w' ⟨he, hw⟩ => ?_
   subst hw
   refine ⟨_, he, E, Stp.refl _ _ _, r, ?_⟩
   simp only [VR, SB.den, SE.den, aN.den, aC]
   have h2 : (bP b).data.toList = b.map UInt8.ofNat := by simp [bP]
   rw [h2, hd, EO b hbb]
   unfold yN uF
   rw [bC, bC, Yt]
   cases Lib.contains (b.map UInt8.ofNat) st.data.toList <;> rfl
  ·simp [T.leaf] at hl
 ·exact Us hg hrun _ _ _ _ _ _ _ r hv hp hl
end
end
end Go.As
end
section
namespace Go.As.Try
open Go Go.As Go.Proofs Go.RowKit
set_option maxRecDepth 100000
def maxLen : Nat := Tryz.laysM144_ren.g 1
def base : UO where
 ok ro h := ro maxLen ∧ ∃ m, hcell h maxLen 0 = some (.int .i64 m)
 keep := by
  intro ro ro' h h' hk h1 h2
  obtain ⟨a, m, hm⟩ := hk
  refine ⟨h1 _ a, m, ?_⟩
  unfold hcell at *
  rw [h2 _ a]
  exact hm
noncomputable def tt0 : TT := lim 262 tab
noncomputable def ft : Nat → Option Func := lim 225 P8
def owns : List (Nat × Nat) := [(22, 3), (23, 4), (26, 7), (27, 9), (48, 0), (49, 0), (53, 14), (57, 11), (63, 14), (76, 2), (77, 5), (81, 6), (119, 14), (47, 2), (55, 0), (158, 1)]
noncomputable def ttE : TT := SX owns tt0
noncomputable def hints : Nat → Nat → Option OI := hAt htab
theorem RX : dW Tryz.prog tt0 := aiB aaM
theorem aaN : dW Tryz.prog ttE := ajY RX
theorem aeM : ZY Tryz.prog (Rt tt0 hints) ft := akQ TN aeL
theorem aqZ : ZY Tryz.prog (Rt ttE hints) ft := by unfold ttE; rw [agY]; exact aeM
def b (n : Nat) : AV := .int .u8 (.lit (.ofNat n))
def Lr : AV := .agg [b 0, b 0, b 0, b 0, b 0, b 0, b 0, b 0, b 0, b 1, b 1, b 0, b 0, b 1, b 0, b 0, b 0, b 0, b 0, b 0, b 0, b 0, b 0, b 0, b 0, b 0, b 0, b 0, b 0, b 0, b 0, b 0, b 1, b 0, b 0, b 2, b 0, b 0, b 0, b 0, b 5, b 5, b 5, b 5, b 0, b 5, b 0, b 0, b 3, b 3, b 3, b 3, b 3, b 3, b 3, b 3, b 3, b 3, b 0, b 5, b 5, b 5, b 0, b 0, b 0, b 4, b 4, b 4, b 4, b 4, b 4, b 4, b 4, b 4, b 4, b 4, b 4, b 4, b 4, b 4, b 4, b 4, b 4, b 4, b 4, b 4, b 4, b 4, b 4, b 4, b 4, b 0, b 0, b 0, b 0, b 4, b 0, b 4, b 4, b 4, b 4, b 4, b 4, b 4, b 4, b 4, b 4, b 4, b 4, b 4, b 4, b 4, b 4, b 4, b 4, b 4, b 4, b 4, b 4, b 4, b 4, b 4, b 4, b 5, b 0, b 5, b 0, b 0, b 0, b 0, b 0, b 0, b 0, b 0, b 0, b 0, b 0, b 0, b 0, b 0, b 0, b 0, b 0, b 0, b 0, b 0, b 0, b 0, b 0, b 0, b 0, b 0, b 0, b 0, b 0, b 0, b 0, b 0, b 0, b 0, b 0, b 0, b 0, b 0, b 0, b 0, b 0, b 0, b 0, b 0, b 0, b 0, b 0, b 0, b 0, b 0, b 0, b 0, b 0, b 0, b 0, b 0, b 0, b 0, b 0, b 0, b 0, b 0, b 0, b 0, b 0, b 0, b 0, b 0, b 0, b 0, b 0, b 0, b 0, b 0, b 0, b 0, b 0, b 0, b 0, b 0, b 0, b 0, b 0, b 0, b 0, b 0, b 0, b 0, b 0, b 0, b 0, b 0, b 0, b 0, b 0, b 0, b 0, b 0, b 0, b 0, b 0, b 0, b 0, b 0, b 0, b 0, b 0, b 0, b 0, b 0, b 0, b 0, b 0, b 0, b 0, b 0, b 0, b 0, b 0, b 0, b 0, b 0, b 0, b 0, b 0, b 0, b 0, b 0, b 0, b 0]
theorem Kr {g : Nat} {f : Func} (h : P8.get g = some f) (hg : g < 225) : Tryz.prog.funcs[g]? = some f := by
 have := congrArg (fun l => l[g]?) TN
 simp only [List.getElem?_map, List.getElem?_range hg, Option.map_some, Option.some.injEq] at this
 rw [← this]
 exact h
theorem apR {g : Nat} {f : Func} (hf : Tryz.prog.funcs[g]? = some f) (hn : (f.name == "runtime.NumGoroutine") = false) (hb : f.body.isNone = false) : ∀ (args : Array Value) (w : World), (callFunc g args).run Tryz.prog w = .ok (.enter g args) w := by
 intro args w
 unfold callFunc
 simp only [Sem.run_bind, run_program, Result.andThen_ok, hf]
 rw [hn, hb]
 simp
def X7 (g : Nat) : Option (List AV → St → T (AV × St)) :=
 match Nat.beq g 169 with
 | true => some xX
 | false => match Nat.beq g 191 with
   | true => some xW
   | false => match Nat.beq g 150 with
     | true => some qB
     | false => none
theorem apS : Tryz.laysM144_ren.f 144 = 150 := by kernel_rfl
section
variable (I : Glob) (hI : ∀ ρ ro h, I.ok ρ ro h → base.ok ro h)
theorem f169 : @mY I Tryz.prog 169 xX := @ZN _ I 169 Tryz.f169 (Kr (by kernel_rfl) (by decide)) (by kernel_rfl) (by kernel_rfl) (by kernel_rfl) (by kernel_rfl)
theorem f191 : @mY I Tryz.prog 191 xW := @Zq _ I 191 Tryz.f191 (Kr (by kernel_rfl) (by decide)) (by kernel_rfl) (by kernel_rfl) (by kernel_rfl) (by kernel_rfl)
include hI in
theorem f150 : @mY I Tryz.prog 150 qB := by
 letI := I
 refine Rn ?_ (apR (f := Tryz.f150) (Kr (by kernel_rfl) (by decide)) (by kernel_rfl) (by kernel_rfl))
 intro ρ ro w hw s sub hs
 obtain ⟨_, m, hm⟩ := hI _ _ _ hw
 have := Any.strings_Contains { Tryz.laysM144 with } s sub m w hs (by rw [qY]; exact hm)
 rw [apS] at this
 exact this
include hI in
theorem TJ : ∀ (g : Nat) (h : List AV → St → T (AV × St)), X7 g = some h → @mY I Tryz.prog g h := by
 intro g h hh
 unfold X7 at hh
 split at hh
 ·rename_i hg
  have := Nat.eq_of_beq_eq_true hg
  subst this
  simp at hh
  subst hh
  exact f169 I
 ·split at hh
  ·rename_i hg
   have := Nat.eq_of_beq_eq_true hg
   subst this
   simp at hh
   subst hh
   exact f191 I
  ·split at hh
   ·rename_i hg
    have := Nat.eq_of_beq_eq_true hg
    subst this
    simp at hh
    subst hh
    exact f150 I hI
   ·simp at hh
end
noncomputable def avO (g : Nat) : List AV → St → T (AV × St) := Uc tt0 ft X7 (Uk tt0 hints) 100000 60 g
theorem ajR (I : Glob) (hI : ∀ ρ ro h, I.ok ρ ro h → base.ok ro h) (g : Nat) : @mY I Tryz.prog g (avO g) := @IX _ I _ RX _ _ aeM _ (TJ I hI) _ (fun _ hc => @KY _ I _ RX mixed _ _ hc) 100000 60 g
theorem Uu : gives [] Lr (avO 145) = true := by kernel_rfl
theorem I9 {f : Func} (h : f.body.isSome = true) : ∃ c, f.body = some c := Option.isSome_iff_exists.1 h
theorem WW (I : Glob) (hI : ∀ ρ ro h, I.ok ρ ro h → base.ok ro h) : @mY I Tryz.prog 145 (memo [] Lr) := by
 letI := I
 obtain ⟨c, hb⟩ := I9 (f := Tryz.f145) (by kernel_rfl)
 exact IJ (ajR I hI 145) (fn := Tryz.f145) (Kr (by kernel_rfl) (by decide)) (by kernel_rfl) hb Uu
def X6 (g : Nat) : Option (List AV → St → T (AV × St)) :=
 match Nat.beq g 145 with
 | true => some (memo [] Lr)
 | false => X7 g
theorem TG (I : Glob) (hI : ∀ ρ ro h, I.ok ρ ro h → base.ok ro h) : ∀ (g : Nat) (h : List AV → St → T (AV × St)), X6 g = some h → @mY I Tryz.prog g h := by
 intro g h hh
 unfold X6 at hh
 split at hh
 ·rename_i hg
  have := Nat.eq_of_beq_eq_true hg
  subst this
  simp at hh
  subst hh
  exact WW I hI
 ·exact TJ I hI g h hh
noncomputable def ajQ (g : Nat) : List AV → St → T (AV × St) := Uc tt0 ft X6 (Uk tt0 hints) 100000 60 g
theorem Pj (I : Glob) (hI : ∀ ρ ro h, I.ok ρ ro h → base.ok ro h) (g : Nat) : @mY I Tryz.prog g (ajQ g) := @IX _ I _ RX _ _ aeM _ (TG I hI) _ (fun _ hc => @KY _ I _ RX mixed _ _ hc) 100000 60 g
theorem aqD : gives [.str [97]] (.bool (.lit true)) (ajQ 133) = true := by kernel_rfl
theorem aqC : gives [.str [98]] (.bool (.lit true)) (ajQ 133) = true := by kernel_rfl
theorem ZP : gives [] (.bool (.lit true)) (ajQ 16) = true := by kernel_rfl
section
variable (I : Glob) (hI : ∀ ρ ro h, I.ok ρ ro h → base.ok ro h)
include hI
theorem Zk : @mY I Tryz.prog 133 (memo [.str [97]] (.bool (.lit true))) := by
 letI := I
 obtain ⟨c, hb⟩ := I9 (f := Tryz.f133) (by kernel_rfl)
 exact IJ (Pj I hI 133) (fn := Tryz.f133) (Kr (by kernel_rfl) (by decide)) (by kernel_rfl) hb aqD
theorem Zj : @mY I Tryz.prog 133 (memo [.str [98]] (.bool (.lit true))) := by
 letI := I
 obtain ⟨c, hb⟩ := I9 (f := Tryz.f133) (by kernel_rfl)
 exact IJ (Pj I hI 133) (fn := Tryz.f133) (Kr (by kernel_rfl) (by decide)) (by kernel_rfl) hb aqC
theorem ahJ : @mY I Tryz.prog 16 (memo [] (.bool (.lit true))) := by
 letI := I
 obtain ⟨c, hb⟩ := I9 (f := Tryz.f16) (by kernel_rfl)
 exact IJ (Pj I hI 16) (fn := Tryz.f16) (Kr (by kernel_rfl) (by decide)) (by kernel_rfl) hb ZP
end
def VZ (g : Nat) : Option (List AV → St → T (AV × St)) :=
 match Nat.beq g 16 with
 | true => some (memo [] (.bool (.lit true)))
 | false => match Nat.beq g 133 with
   | true => some (orElse (memo [.str [97]] (.bool (.lit true))) (memo [.str [98]] (.bool (.lit true))))
   | false => X6 g
theorem Zr (I : Glob) (hI : ∀ ρ ro h, I.ok ρ ro h → base.ok ro h) : ∀ (g : Nat) (h : List AV → St → T (AV × St)), VZ g = some h → @mY I Tryz.prog g h := by
 intro g h hh
 unfold VZ at hh
 split at hh
 ·rename_i hg
  have := Nat.eq_of_beq_eq_true hg
  subst this
  simp at hh
  subst hh
  exact ahJ I hI
 ·split at hh
  ·rename_i hg
   have := Nat.eq_of_beq_eq_true hg
   subst this
   simp at hh
   subst hh
   letI := I
   exact ND (Zk I hI) (Zj I hI)
  ·exact TG I hI g h hh
end Go.As.Try
end
section
namespace Go.As.Try
open Go hiding Stat Spec shape
open Go.As Go.Proofs
set_option maxRecDepth 100000
abbrev aI (n : Nat) : AV := .int .i64 (.aA n)
abbrev aJ (n : Int) : AV := .int .i64 (.lit n)
abbrev aU (n : Nat) : AV := .int .u8 (.aA n)
abbrev aD (n t : Nat) : AV := .dat (.aA n) t
abbrev aS (n : Nat) : AV := .lJ (.aA n)
abbrev aB (n : Nat) : AV := .bool (.not (.eq (.aA n) (.lit 0)))
abbrev aV (b n t : Nat) : AV := .uM b (.op .len (.aA n) (.lit 0)) t
abbrev aE (n t : Nat) : AV := .Fv (.aA n) t
def arF : FE := ⟨9000, 38, [], [], some (⟨2, [(0, aD 1 7) ],[], [], .lit 0⟩, [], 0), [⟨2, [(0, aV 0 1 7)], [.vec (.aA 1) 7 51 [] ],[], .lit 0⟩, ⟨1, [(0, .aP) ],[], [], .lit 0⟩, ⟨1, [(0, .slice 0 0 0 (.exact 0))], [.cells [] 51 ],[], .lit 0⟩, ⟨8, [(0, aV 0 1 7)], [.vec (.aA 1) 7 51 [(.aA 0, [aI 2, aI 3, aB 4, aI 5, aV 1 6 0, aV 2 7 0])],
 .vec (.aA 6) 0 3 [],
 .vec (.aA 7) 0 2 [] ],[], .aA 0⟩, ⟨8, [(0, aV 0 1 7)], [.vec (.aA 1) 7 51 [(.aA 0, [aI 2, aI 3, aB 4, aI 5, aV 1 6 0, aE 7 0])],
 .vec (.aA 6) 0 3 [] ],[], .aA 0⟩, ⟨8, [(0, aV 0 1 7)], [.vec (.aA 1) 7 51 [(.aA 0, [aI 2, aI 3, aB 4, aI 5, aE 6 0, aV 1 7 0])],
 .vec (.aA 7) 0 2 [] ],[], .aA 0⟩, ⟨8, [(0, aV 0 1 7)], [.vec (.aA 1) 7 51 [(.aA 0, [aI 2, aI 3, aB 4, aI 5, aE 6 0, aE 7 0])] ],[], .aA 0⟩], [(3, 1)], [11], 1, [(8, 0)],
 [([0, 1, 0, 1, 1], ⟨4, [(0, aV 0 1 7), (7, aI 2), (8, aI 3)], [.vec (.aA 1) 7 51 [] ],[], .lit 0⟩), ([0, 1, 0, 1, 1], ⟨1, [(0, .aP), (7, aJ 0), (8, aJ 0) ],[], [], .lit 0⟩), ([0, 1, 0, 1, 1], ⟨1, [(0, .slice 0 0 0 (.exact 0)), (7, aJ 0), (8, aJ 0)], [.cells [] 51 ],[], .lit 0⟩), ([0, 1, 0, 1, 1], ⟨10, [(0, aV 0 1 7), (7, aI 2), (8, aI 3)], [.vec (.aA 1) 7 51 [(.aA 0, [aI 4, aI 5, aB 6, aI 7, aV 1 8 0, aV 2 9 0])],
  .vec (.aA 8) 0 3 [],
  .vec (.aA 9) 0 2 [] ],[], .lit 0⟩), ([0, 1, 0, 1, 1], ⟨10, [(0, aV 0 1 7), (7, aI 2), (8, aI 3)], [.vec (.aA 1) 7 51 [(.aA 0, [aI 4, aI 5, aB 6, aI 7, aV 1 8 0, aE 9 0])],
  .vec (.aA 8) 0 3 [] ],[], .lit 0⟩), ([0, 1, 0, 1, 1], ⟨10, [(0, aV 0 1 7), (7, aI 2), (8, aI 3)], [.vec (.aA 1) 7 51 [(.aA 0, [aI 4, aI 5, aB 6, aI 7, aE 8 0, aV 1 9 0])],
  .vec (.aA 9) 0 2 [] ],[], .lit 0⟩), ([0, 1, 0, 1, 1], ⟨10, [(0, aV 0 1 7), (7, aI 2), (8, aI 3)], [.vec (.aA 1) 7 51 [(.aA 0, [aI 4, aI 5, aB 6, aI 7, aE 8 0, aE 9 0])] ],[], .lit 0⟩)]⟩
def fe0 : FE := ⟨0, 13, [.agg [(.sl 3), (.sl 4)], .one (.sl 9)], [.one .bool], none, [], [], [], 0, [],
 [([0, 1, 0, 1, 1, 1], ⟨5, [(1, aD 0 9), (2, .ptr 0 0), (5, aD 1 7), (6, aI 2)], [.cells [aD 3 3, aD 4 4] 25 ],[], .lit 0⟩), ([0, 1, 0, 1, 1, 0, 0, 1, 0, 0, 1, 0, 1, 1, 1], ⟨14, [(1, aD 0 9), (2, .ptr 0 0), (5, aD 1 7), (6, aI 2), (7, aD 3 7), (8, .ptr 1 0), (9, aU 4), (51, aI 5), (52, aI 6)], [.cells [aD 7 3, aD 8 4] 25,
  .cells [aI 9, aU 10, aI 11, aI 12, aI 13] 38 ],[], .lit 0⟩)]⟩
def axW : FE := ⟨100, 14, [.agg [(.sl 3), (.sl 4)]], [.one .bool], none, [], [], [], 0, [],
 [([0, 1, 0, 1, 1], ⟨5, [(1, .ptr 0 0), (3, aI 0), (17, aI 1), (18, aI 2)], [.cells [aD 3 3, aD 4 4] 25 ],[], .lit 0⟩), ([0, 1, 1, 1, 0, 0, 1, 1, 0, 0, 1, 0, 1, 1], ⟨6, [(1, .ptr 0 0), (3, aI 0), (4, aI 1), (5, aI 2), (17, aI 3), (18, aI 1)], [.cells [aD 4 3, aD 5 4] 25 ],[], .lit 0⟩), ([0, 1, 0, 0, 1, 0, 0, 1, 1, 1, 0, 0, 1, 1, 0, 0, 1, 0, 1, 1], ⟨9, [(1, .ptr 0 0), (3, aI 0), (4, aI 1), (5, aI 2), (17, aI 3), (18, aI 1), (62, aD 4 6), (63, aI 5), (64, aI 6)], [.cells [aD 7 3, aD 8 4] 25 ],[], .lit 0⟩)]⟩
def axV : FE := ⟨150, 32, [.agg [(.int .u8), .str, (.int .i64), (.sl 6)], .one (.int .i64)], [.one (.int .i64)], none, [], [], [], 0, [],
 [([0, 1, 0, 1, 1, 1], ⟨7, [(1, aI 0), (2, .ptr 0 0), (5, aI 1), (6, aI 2)], [.cells [aU 3, aS 4, aI 5, aD 6 6] 86 ],[], .lit 0⟩)]⟩
def axU : FE := ⟨200, 17, [.one (.sl 7), .one (.sl 7)], [.one .bool], none, [], [], [], 0, [],
 [([0, 1, 0, 1, 1], ⟨4, [(0, aD 0 7), (1, aD 1 7), (15, aI 2), (16, aI 3) ],[], [], .lit 0⟩), ([0, 1, 1, 1, 1, 0, 0, 1, 1, 0, 0, 1, 0, 1, 1], ⟨18, [(0, aD 0 7), (1, aD 1 7), (6, .ptr 0 0), (7, .ptr 1 0), (15, aI 2), (16, aI 3), (72, aI 4), (73, aI 5)], [.cells [aI 6, aI 7, aB 8, aI 9, aD 10 0, aD 11 0] 51,
  .cells [aI 12, aI 13, aB 14, aI 15, aD 16 0, aD 17 0] 51 ],[], .lit 0⟩)]⟩
def axT : FE := ⟨250, 31, [.one (.sl 0), .one (.sl 0)], [.one .bool], none, [], [], [], 0, [],
 [([0, 1, 0, 1, 1], ⟨3, [(0, aD 0 0), (1, aD 1 0), (5, aI 2) ],[], [], .lit 0⟩)]⟩
def axS : FE := ⟨300, 18, [.agg [(.sl 3), (.sl 4)]], [.one (.sl 7)], none, [], [], [], 0, [],
 [([0, 1, 0, 1, 0, 1, 1], ⟨2, [(3, .aP), (11, aD 0 3), (12, aI 1), (13, aJ 0) ],[], [], .lit 0⟩), ([0, 1, 0, 1, 0, 1, 1], ⟨4, [(3, aV 0 0 7), (11, aD 1 3), (12, aI 2), (13, aI 3)], [.vec (.aA 0) 7 51 [] ],[], .lit 0⟩)]⟩
def axR : FE := ⟨350, 20, [.agg [(.sl 3), (.sl 4)], .one (.sl 7)], [.one .bool], none, [], [], [], 0, [],
 [([0, 1, 0, 1, 1], ⟨5, [(2, .ptr 0 0), (18, aD 0 7), (19, aI 1), (20, aI 2)], [.cells [aD 3 3, aD 4 4] 25 ],[], .lit 0⟩)]⟩
def axQ : FE := ⟨400, 23, [.agg [(.sl 3), (.sl 4)], .one (.sl 7), .one (.int .i64), .agg [(.int .u8), (.int .i64), (.int .i64), (.int .i64)]], [.one (.sl 7), .agg [(.int .i64), (.int .u8), (.int .i64), (.int .i64), (.int .i64)], .one (.int .u8)], none, [], [], [], 0, [],
 []⟩
def axP : FE := ⟨450, 34, [.agg [(.sl 3), (.sl 4)]], [.one (.int .i64)], none, [], [], [], 0, [],
 [([0, 1, 0, 1, 1], ⟨4, [(1, .ptr 0 0), (3, .bool (.lit true)), (20, aD 0 3), (21, aI 1), (22, aI 2)], [.cells [aD 0 3, aD 3 4] 25 ],[], .lit 0⟩), ([0, 1, 0, 1, 1], ⟨4, [(1, .ptr 0 0), (3, .bool (.lit false)), (20, aD 0 3), (21, aI 1), (22, aI 2)], [.cells [aD 0 3, aD 3 4] 25 ],[], .lit 0⟩), ([0, 1, 0, 1, 1, 1], ⟨4, [(1, .ptr 0 0), (3, .bool (.lit true)), (35, aD 0 4), (36, aI 1), (37, aI 2)], [.cells [aD 3 3, aD 0 4] 25 ],[], .lit 0⟩), ([0, 1, 0, 1, 1, 1], ⟨4, [(1, .ptr 0 0), (3, .bool (.lit false)), (35, aD 0 4), (36, aI 1), (37, aI 2)], [.cells [aD 3 3, aD 0 4] 25 ],[], .lit 0⟩), ([0, 1, 1, 1, 0, 0, 1, 1, 0, 0, 1, 0, 1, 1, 1], ⟨8, [(1, .ptr 0 0), (3, .bool (.lit true)), (7, .ptr 1 0), (8, aI 0), (35, aD 1 4), (36, aI 2), (37, aI 3)], [.cells [aD 4 3, aD 1 4] 25,
  .cells [aS 5, aD 6 2, aD 7 5] 79 ],[], .lit 0⟩), ([0, 1, 1, 1, 0, 0, 1, 1, 0, 0, 1, 0, 1, 1, 1], ⟨8, [(1, .ptr 0 0), (3, .bool (.lit false)), (7, .ptr 1 0), (8, aI 0), (35, aD 1 4), (36, aI 2), (37, aI 3)], [.cells [aD 4 3, aD 1 4] 25,
  .cells [aS 5, aD 6 2, aD 7 5] 79 ],[], .lit 0⟩)]⟩
def axO : FE := ⟨500, 36, [.agg [(.int .u8), .str, (.int .i64), .str, (.int .i64)], .agg [(.int .i64), (.int .i64), .bool, (.int .i64), (.sl 0), (.sl 0)], .one (.int .i64)], [.one .bool], none, [], [], [], 0, [],
 [([0, 1, 0, 1, 1, 1, 1, 1, 1], ⟨15, [(2, aI 0), (3, .ptr 0 0), (4, .ptr 1 0), (10, .map 2), (98, aD 1 0), (99, aI 2), (100, aI 3)], [.cells [aU 4, aS 5, aI 6, aS 7, aI 8] 75,
  .cells [aI 9, aI 10, aB 11, aI 12, aD 1 0, aD 13 0] 51,
  .iI (.aA 14) 0 ],[], .lit 0⟩)]⟩
def axN : FE := ⟨550, 38, [.one (.sl 7)], [.one (.sl 7)], none, [], [], [], 0, [],
 [([0, 1, 0, 1, 1], ⟨3, [(0, aV 0 0 7), (7, aI 1), (8, aI 2)], [.vec (.aA 0) 7 51 [] ],[], .lit 0⟩), ([0, 1, 0, 1, 1], ⟨0, [(0, .aP), (7, aJ 0), (8, aJ 0) ],[], [], .lit 0⟩), ([0, 1, 0, 1, 1], ⟨0, [(0, .slice 0 0 0 (.exact 0)), (7, aJ 0), (8, aJ 0)], [.cells [] 51 ],[], .lit 0⟩)]⟩
def axM : FE := ⟨600, 39, [.one (.int .u8)], [.one (.int .u8)], none, [], [], [], 0, [],
 []⟩
def axL : FE := ⟨650, 58, [.agg [(.int .u8), .str, (.int .i64), .str, (.int .i64)]], [.one (.int .i64), .one .bool], none, [], [], [], 0, [],
 []⟩
def axK : FE := ⟨700, 47, [.agg [(.sl 3), (.sl 4)], .agg [(.int .u8), .str, (.int .i64), .str, (.int .i64)]], [.one .bool], none, [], [], [], 0, [],
 []⟩
def axJ : FE := ⟨750, 48, [.agg [(.sl 3), (.sl 4)], .agg [.str, (.sl 2), (.sl 5)], .agg [(.int .u8), (.int .u8), (.int .i64), (.int .i64), (.int .i64), (.int .i64), (.sl 6)]], [.one .bool], none, [], [], [], 0, [],
 []⟩
def axI : FE := ⟨800, 51, [.agg [(.int .u8), .str, (.int .i64), (.sl 6)], .one (.int .i64)], [.one .bool], none, [], [], [], 0, [],
 []⟩
def axH : FE := ⟨850, 75, [.one (.sl 0), .one (.int .i64)], [.one (.int .i64)], none, [], [], [], 0, [],
 [([0, 1, 0, 1], ⟨4, [(0, aD 0 0), (1, aI 1), (7, aI 2), (8, aI 3) ],[], [], .lit 0⟩)]⟩
def axG : FE := ⟨900, 95, [.one (.sl 0), .one (.int .i64)], [.one .bool], none, [], [], [], 0, [],
 []⟩
def axF : FE := ⟨950, 115, [.one (.int .u8), .agg [(.int .u8), (.int .u8), (.int .i64), (.int .i64), (.int .i64), (.int .i64), (.sl 6)], .one .bool], [.one .bool], none, [], [], [], 0, [],
 [([0, 1, 0, 1, 1], ⟨9, [(0, aU 0), (2, .bool (.lit false)), (4, .ptr 0 0), (7, .ptr 1 0), (16, aI 1), (17, aJ 0)], [.cells [aU 2, aU 3, aI 4, aI 5, aI 6, aI 7, aD 8 6] 83,
  .cells [.int .u8 (.lit 1), aU 3, .str [97], .str [], aJ 0, .aP, .aP, .aP, aJ 0] 186 ],[], .lit 0⟩), ([0, 1, 0, 1, 1], ⟨9, [(0, aU 0), (2, .bool (.lit true)), (4, .ptr 0 0), (7, .ptr 1 0), (16, aI 1), (17, aJ 0)], [.cells [aU 2, aU 3, aI 4, aI 5, aI 6, aI 7, aD 8 6] 83,
  .cells [.int .u8 (.lit 1), aU 3, .str [97], .str [], aJ 0, .aP, .aP, .aP, aJ 0] 186 ],[], .lit 0⟩), ([0, 1, 0, 1, 1], ⟨11, [(0, aU 0), (2, .bool (.lit false)), (4, .ptr 0 0), (7, .ptr 1 0), (16, aI 1), (17, aI 2)], [.cells [aU 3, aU 4, aI 5, aI 6, aI 7, aI 8, aD 9 6] 83,
  .cells [.int .u8 (.lit 1), aU 4, .str [97], .str [], aJ 0, aV 2 10 6, .aP, .aP, aJ 0] 186,
  .vec (.aA 10) 6 86 [] ],[], .lit 0⟩), ([0, 1, 0, 1, 1], ⟨11, [(0, aU 0), (2, .bool (.lit true)), (4, .ptr 0 0), (7, .ptr 1 0), (16, aI 1), (17, aI 2)], [.cells [aU 3, aU 4, aI 5, aI 6, aI 7, aI 8, aD 9 6] 83,
  .cells [.int .u8 (.lit 1), aU 4, .str [97], .str [], aJ 0, aV 2 10 6, .aP, .aP, aJ 0] 186,
  .vec (.aA 10) 6 86 [] ],[], .lit 0⟩)]⟩
def asB : FE := ⟨1000, 133, [.one .str], [.one .bool], none, [], [], [], 0, [],
 []⟩
def asA : FE := ⟨1050, 124, [.one .str, .one (.int .i64)], [.agg [(.int .u8), .str, (.int .i64), (.int .i64), (.int .i64), (.int .i64)], .agg [(.int .i64), (.int .i64)]], none, [], [], [], 0, [],
 []⟩
def arZ : FE := ⟨1100, 149, [.one .str], [.one (.int .i64), .one .bool], none, [], [], [], 0, [],
 [([0, 1, 0, 1, 1], ⟨0, [(4, aJ 0), (9, .slice 0 0 0 (.rest 1)), (10, aJ 0), (11, aJ 0)], [.cells [] 5 ],[], .lit 0⟩), ([0, 1, 0, 1, 1], ⟨4, [(4, aI 0), (9, aV 0 1 14), (10, aI 2), (11, aI 3)], [.vec (.aA 1) 14 5 [] ],[], .lit 0⟩)]⟩
def arY : FE := ⟨1150, 176, [.agg [(.int .u8), .str, (.int .i64), (.sl 6)]], [.one .bool], none, [], [], [], 0, [],
 []⟩
def arX : FE := ⟨1200, 177, [.one (.int .u8)], [.one (.int .u8)], none, [], [], [], 0, [],
 []⟩
def arW : FE := ⟨1250, 171, [.one (.int .u8)], [.one (.int .i64)], none, [], [], [], 0, [],
 []⟩
def arV : FE := ⟨1300, 172, [.one (.int .u8)], [.one .bool], none, [], [], [], 0, [],
 []⟩
def arU : FE := ⟨1350, 127, [.one (.int .u8)], [.one .bool], none, [], [], [], 0, [],
 []⟩
def arT : FE := ⟨1400, 132, [.agg [(.int .u8), .str, (.int .i64), .str, (.int .i64)]], [.one .bool], none, [], [], [], 0, [],
 []⟩
def arS : FE := ⟨5000, 49, [], [.one .bool], some (⟨4, [(0, aD 0 6), (1, .func (.func 50) [] [.ptr 0 0])], [.cells [aS 1, aD 2 2, aD 3 5] 79 ],[], .lit 0⟩, [.cells [aS 0, aD 1 2, aD 2 5] 79], 3), [], [], [], 0, [],
 []⟩
def arR : FE := ⟨5050, 117, [], [.one .bool], some (⟨7, [(0, .ptr 0 0), (1, .agg [aU 0, aS 1, aI 2, aD 3 6]), (2, aI 4)], [.cells [aI 5, aI 6] 168 ],[], .lit 0⟩, [.cells [aI 0, aI 1] 168], 2), [], [], [], 0, [],
 [([0, 1, 0, 1, 1, 1], ⟨9, [(0, .ptr 0 0), (2, aI 0), (4, .ptr 1 0), (27, aD 1 6), (28, aI 2), (29, aI 3)], [.cells [aI 4, aI 5] 168,
  .cells [aU 6, aS 7, aI 8, aD 1 6] 86 ],[], .lit 0⟩)]⟩
def arQ : FE := ⟨5100, 159, [], [], some (⟨2, [(0, .ptr 0 0), (1, .aP), (2, aI 0)], [.cells [aI 1, .bool (.lit true), .bool (.lit false)] 155 ],[], .lit 0⟩, [.cells [aI 0, .bool (.lit true), .bool (.lit false)] 155], 1), [], [], [], 0, [],
 [([0, 1], ⟨2, [(0, .ptr 0 0), (2, aI 0), (8, .aP), (9, aJ 0), (10, aJ 0)], [.cells [aI 1, .bool (.lit true), .bool (.lit false)] 155 ],[], .lit 0⟩)]⟩
def arP : FE := ⟨5150, 178, [], [.one .bool], some (⟨2, [(0, .ptr 0 0), (1, .aP)], [.cells [.map 1, .map 2] 193,
 .map [(.str [97], aU 0, 0)] 0,
 .iI (.aA 1) 1 ],[], .lit 0⟩, [.cells [.map 1, .map 2] 193, .map [(.str [97], aU 0, 0)] 0, .iI (.aA 1) 1], 2), [], [], [], 0, [],
 [([0, 1, 0, 1], ⟨2, [(0, .ptr 0 0), (7, .aP), (8, aJ 0), (9, aJ 0)], [.cells [.map 1, .map 2] 193,
  .map [(.str [97], aU 0, 0)] 0,
  .iI (.aA 1) 1 ],[], .lit 0⟩)]⟩
def arO : FE := ⟨5200, 178, [], [.one .bool], some (⟨2, [(0, .ptr 0 0), (1, .aP)], [.cells [.map 1, .map 2] 193,
 .map [(.str [98], .int .u8 (.lit 1), 0), (.str [97], aU 0, 0)] 0,
 .iI (.aA 1) 1 ],[], .lit 0⟩, [.cells [.map 1, .map 2] 193, .map [(.str [98], aU 0, 0), (.str [97], aU 1, 0)] 0, .iI (.aA 2) 1], 3), [], [], [], 0, [],
 [([0, 1, 0, 1], ⟨2, [(0, .ptr 0 0), (7, .aP), (8, aJ 0), (9, aJ 0)], [.cells [.map 1, .map 2] 193,
  .map [(.str [98], .int .u8 (.lit 1), 0), (.str [97], aU 0, 0)] 0,
  .iI (.aA 1) 1 ],[], .lit 0⟩)]⟩
def arN : FE := ⟨5250, 159, [], [], some (⟨3, [(0, .ptr 0 0), (1, aV 1 0 6), (2, aI 1)], [.cells [aI 2, .bool (.lit true), .bool (.lit false)] 155,
 .vec (.aA 0) 6 86 [] ],[], .lit 0⟩, [.cells [aI 0, .bool (.lit true), .bool (.lit false)] 155, .vec (.aA 1) 6 86 []], 2), [], [], [], 0, [],
 [([0, 1], ⟨5, [(0, .ptr 0 0), (2, aI 0), (8, aV 1 1 6), (9, aI 2), (10, aI 3)], [.cells [aI 4, .bool (.lit true), .bool (.lit false)] 155,
  .vec (.aA 1) 6 86 [] ],[], .lit 0⟩)]⟩
def arM : FE := ⟨5300, 178, [], [.one .bool], some (⟨4, [(0, .ptr 0 0), (1, .uM 1 (.aA 0) 6)], [.cells [.map 2, .map 3] 193,
 .vec (.aA 1) 6 86 [],
 .map [(.str [97], aU 2, 0)] 0,
 .iI (.aA 3) 1 ],[], .lit 0⟩, [.cells [.map 2, .map 3] 193, .vec (.aA 0) 6 86 [], .map [(.str [97], aU 1, 0)] 0, .iI (.aA 2) 1], 3), [], [], [], 0, [],
 [([0, 1, 0, 1], ⟨5, [(0, .ptr 0 0), (7, .uM 1 (.aA 0) 6), (8, aI 0), (9, aI 1)], [.cells [.map 2, .map 3] 193,
  .vec (.aA 2) 6 86 [],
  .map [(.str [97], aU 3, 0)] 0,
  .iI (.aA 4) 1 ],[], .lit 0⟩)]⟩
def arL : FE := ⟨5350, 178, [], [.one .bool], some (⟨4, [(0, .ptr 0 0), (1, .uM 1 (.aA 0) 6)], [.cells [.map 2, .map 3] 193,
 .vec (.aA 1) 6 86 [],
 .map [(.str [98], .int .u8 (.lit 1), 0), (.str [97], aU 2, 0)] 0,
 .iI (.aA 3) 1 ],[], .lit 0⟩, [.cells [.map 2, .map 3] 193, .vec (.aA 0) 6 86 [], .map [(.str [98], aU 1, 0), (.str [97], aU 2, 0)] 0, .iI (.aA 3) 1], 4), [], [], [], 0, [],
 [([0, 1, 0, 1], ⟨6, [(0, .ptr 0 0), (7, .uM 1 (.aA 0) 6), (8, aI 0), (9, aI 1)], [.cells [.map 2, .map 3] 193,
  .vec (.aA 2) 6 86 [],
  .map [(.str [98], aU 3, 0), (.str [97], aU 4, 0)] 0,
  .iI (.aA 5) 1 ],[], .lit 0⟩)]⟩
def arK : FE := ⟨5400, 116, [], [.one (.int .i64)], some (⟨4, [(0, aD 0 6), (1, .func (.func 50) [] [.ptr 0 0])], [.cells [aS 1, aD 2 2, aD 3 5] 79 ],[], .lit 0⟩, [.cells [aS 0, aD 1 2, aD 2 5] 79], 3), [], [], [], 0, [],
 [([0, 1, 0, 1], ⟨6, [(0, aD 0 6), (1, .func (.func 50) [] [.ptr 0 0]), (7, aI 1), (8, aI 2)], [.cells [aS 3, aD 4 2, aD 5 5] 79 ],[], .lit 0⟩)]⟩
def arJ : FE := ⟨5450, 159, [], [], some (⟨3, [(0, .ptr 0 0), (1, aD 0 6), (2, aI 1)], [.cells [aI 2, .bool (.lit true), .bool (.lit false)] 155 ],[], .lit 0⟩, [.cells [aI 0, .bool (.lit true), .bool (.lit false)] 155], 1), [], [], [], 0, [],
 [([0, 1], ⟨5, [(0, .ptr 0 0), (2, aI 0), (8, aD 1 6), (9, aI 2), (10, aI 3)], [.cells [aI 4, .bool (.lit true), .bool (.lit false)] 155 ],[], .lit 0⟩)]⟩
def arI : FE := ⟨5500, 178, [], [.one .bool], some (⟨3, [(0, .ptr 0 0), (1, aD 0 6)], [.cells [.map 1, .map 2] 193,
 .map [(.str [97], aU 1, 0)] 0,
 .iI (.aA 2) 1 ],[], .lit 0⟩, [.cells [.map 1, .map 2] 193, .map [(.str [97], aU 0, 0)] 0, .iI (.aA 1) 1], 2), [], [], [], 0, [],
 [([0, 1, 0, 1], ⟨5, [(0, .ptr 0 0), (7, aD 0 6), (8, aI 1), (9, aI 2)], [.cells [.map 1, .map 2] 193,
  .map [(.str [97], aU 3, 0)] 0,
  .iI (.aA 4) 1 ],[], .lit 0⟩)]⟩
def arH : FE := ⟨5550, 178, [], [.one .bool], some (⟨3, [(0, .ptr 0 0), (1, aD 0 6)], [.cells [.map 1, .map 2] 193,
 .map [(.str [98], .int .u8 (.lit 1), 0), (.str [97], aU 1, 0)] 0,
 .iI (.aA 2) 1 ],[], .lit 0⟩, [.cells [.map 1, .map 2] 193, .map [(.str [98], aU 0, 0), (.str [97], aU 1, 0)] 0, .iI (.aA 2) 1], 3), [], [], [], 0, [],
 [([0, 1, 0, 1], ⟨6, [(0, .ptr 0 0), (7, aD 0 6), (8, aI 1), (9, aI 2)], [.cells [.map 1, .map 2] 193,
  .map [(.str [98], aU 3, 0), (.str [97], aU 4, 0)] 0,
  .iI (.aA 5) 1 ],[], .lit 0⟩)]⟩
def arG : FE := ⟨5600, 178, [], [.one .bool], some (⟨4, [(0, .ptr 0 0), (1, aD 0 6)], [.cells [.map 1, .map 2] 193,
 .map [(.str [98], aU 1, 0), (.str [97], aU 2, 0)] 0,
 .iI (.aA 3) 1 ],[], .lit 0⟩, [.cells [.map 1, .map 2] 193, .map [(.str [98], aU 0, 0), (.str [97], aU 1, 0)] 0, .iI (.aA 2) 1], 3), [], [], [], 0, [],
 [([0, 1, 0, 1], ⟨6, [(0, .ptr 0 0), (7, aD 0 6), (8, aI 1), (9, aI 2)], [.cells [.map 1, .map 2] 193,
  .map [(.str [98], aU 3, 0), (.str [97], aU 4, 0)] 0,
  .iI (.aA 5) 1 ],[], .lit 0⟩)]⟩
def alN : FE := ⟨12000, 90, [], [], some (⟨13, [(0, aV 0 0 0), (1, .func (.func 91) [] [.ptr 1 0])], [.vec (.aA 0) 0 3 [],
 .cells [.ptr 2 0] 93,
 .cells [aI 1, .nY 3 6 (.aA 2) 0, aI 3, aV 3 4 7, aU 5, aI 2, aI 6, aI 7] 96,
 .vec (.aA 4) 7 51 [(.aA 2, [aI 8, aI 9, aB 10, aI 11, aV 0 0 0, aV 4 12 0])],
 .vec (.aA 12) 0 2 [] ],[], .lit 0⟩, [.vec (.aA 0) 0 3 [], .cells [.ptr 2 0] 93, .cells [aI 1, .nY 3 6 (.aA 2) 0, aI 3, aV 3 4 7, aU 5, aI 2, aI 6, aI 7] 96, .vec (.aA 4) 7 51 [(.aA 2, [aI 8, aI 9, aB 10, aI 11, aV 0 0 0, aV 4 12 0])], .vec (.aA 12) 0 2 []], 13), [⟨13, [(0, aV 0 0 0)], [.vec (.aA 0) 0 3 [],
 .cells [.ptr 2 0] 93,
 .cells [aI 1, .nY 3 6 (.aA 2) 0, aI 3, aV 3 4 7, aU 5, aI 2, aI 6, aI 7] 96,
 .vec (.aA 4) 7 51 [(.aA 2, [aI 8, aI 9, aB 10, aI 11, aV 0 0 0, aV 4 12 0])],
 .vec (.aA 12) 0 2 [] ],[], .lit 0⟩, ⟨16, [(0, .yX 0 (.lit 0) (.aA 13) 0)], [.vec (.aA 14) 0 3 [],
 .cells [.ptr 2 0] 93,
 .cells [aI 1, .nY 3 6 (.aA 2) 0, aI 3, aV 3 4 7, aU 5, aI 2, aI 6, aI 7] 96,
 .vec (.aA 4) 7 51 [(.aA 2, [aI 8, aI 9, aB 10, aI 11, .uM 0 (.aA 15) 0, aV 4 12 0])],
 .vec (.aA 12) 0 2 [] ],[], .lit 0⟩], [], [], 13, [],
 [([0, 1, 0, 1, 1, 1], ⟨16, [(0, aV 0 13 0), (1, .func (.func 91) [] [.ptr 1 0]), (5, aI 14), (6, aI 15)], [.vec (.aA 13) 0 3 [],
  .cells [.ptr 2 0] 93,
  .cells [aI 1, .nY 3 6 (.aA 2) 0, aI 3, aV 3 4 7, aU 5, aI 2, aI 6, aI 7] 96,
  .vec (.aA 4) 7 51 [(.aA 2, [aI 8, aI 9, aB 10, aI 11, aV 0 13 0, aV 4 12 0])],
  .vec (.aA 12) 0 2 [] ],[], .lit 0⟩)]⟩
def alM : FE := ⟨12050, 123, [], [], some (⟨13, [(0, aV 0 0 0), (1, .func (.func 91) [] [.ptr 1 0])], [.vec (.aA 0) 0 3 [],
 .cells [.ptr 2 0] 93,
 .cells [aI 1, .nY 3 6 (.aA 2) 0, aI 3, aV 3 4 7, aU 5, aI 2, aI 6, aI 7] 96,
 .vec (.aA 4) 7 51 [(.aA 2, [aI 8, aI 9, aB 10, aI 11, aV 0 0 0, aV 4 12 0])],
 .vec (.aA 12) 0 2 [] ],[], .lit 0⟩, [.vec (.aA 0) 0 3 [], .cells [.ptr 2 0] 93, .cells [aI 1, .nY 3 6 (.aA 2) 0, aI 3, aV 3 4 7, aU 5, aI 2, aI 6, aI 7] 96, .vec (.aA 4) 7 51 [(.aA 2, [aI 8, aI 9, aB 10, aI 11, aV 0 0 0, aV 4 12 0])], .vec (.aA 12) 0 2 []], 13), [⟨14, [(0, aI 13)], [.vec (.aA 0) 0 3 [],
 .cells [.ptr 2 0] 93,
 .cells [aI 1, .nY 3 6 (.aA 2) 0, aI 3, aV 3 4 7, aU 5, aI 2, aI 6, aI 7] 96,
 .vec (.aA 4) 7 51 [(.aA 2, [aI 8, aI 9, aB 10, aI 11, aV 0 0 0, aV 4 12 0])],
 .vec (.aA 12) 0 2 [] ],[], .lit 0⟩], [], [], 13, [],
 [([0, 1, 0, 1], ⟨15, [(0, aV 0 0 0), (1, .func (.func 91) [] [.ptr 1 0]), (7, aI 13), (8, aI 14)], [.vec (.aA 0) 0 3 [],
  .cells [.ptr 2 0] 93,
  .cells [aI 1, .nY 3 6 (.aA 2) 0, aI 3, aV 3 4 7, aU 5, aI 2, aI 6, aI 7] 96,
  .vec (.aA 4) 7 51 [(.aA 2, [aI 8, aI 9, aB 10, aI 11, aV 0 0 0, aV 4 12 0])],
  .vec (.aA 12) 0 2 [] ],[], .lit 0⟩)]⟩
def alL : FE := ⟨12100, 90, [], [], some (⟨13, [(0, aV 0 0 0), (1, .func (.func 91) [] [.ptr 1 0])], [.vec (.aA 0) 0 3 [],
 .cells [.ptr 2 0] 93,
 .cells [aI 1, .nY 3 6 (.aA 2) 0, aI 3, aV 3 4 7, aU 5, aI 2, aI 6, aI 7] 96,
 .vec (.aA 4) 7 51 [(.aA 2, [aI 8, aI 9, aB 10, aI 11, aV 0 0 0, aE 12 0])] ],[], .lit 0⟩, [.vec (.aA 0) 0 3 [], .cells [.ptr 2 0] 93, .cells [aI 1, .nY 3 6 (.aA 2) 0, aI 3, aV 3 4 7, aU 5, aI 2, aI 6, aI 7] 96, .vec (.aA 4) 7 51 [(.aA 2, [aI 8, aI 9, aB 10, aI 11, aV 0 0 0, aE 12 0])]], 13), [⟨13, [(0, aV 0 0 0)], [.vec (.aA 0) 0 3 [],
 .cells [.ptr 2 0] 93,
 .cells [aI 1, .nY 3 6 (.aA 2) 0, aI 3, aV 3 4 7, aU 5, aI 2, aI 6, aI 7] 96,
 .vec (.aA 4) 7 51 [(.aA 2, [aI 8, aI 9, aB 10, aI 11, aV 0 0 0, aE 12 0])] ],[], .lit 0⟩, ⟨16, [(0, .yX 0 (.lit 0) (.aA 13) 0)], [.vec (.aA 14) 0 3 [],
 .cells [.ptr 2 0] 93,
 .cells [aI 1, .nY 3 6 (.aA 2) 0, aI 3, aV 3 4 7, aU 5, aI 2, aI 6, aI 7] 96,
 .vec (.aA 4) 7 51 [(.aA 2, [aI 8, aI 9, aB 10, aI 11, .uM 0 (.aA 15) 0, aE 12 0])] ],[], .lit 0⟩], [], [], 13, [],
 [([0, 1, 0, 1, 1, 1], ⟨16, [(0, aV 0 13 0), (1, .func (.func 91) [] [.ptr 1 0]), (5, aI 14), (6, aI 15)], [.vec (.aA 13) 0 3 [],
  .cells [.ptr 2 0] 93,
  .cells [aI 1, .nY 3 6 (.aA 2) 0, aI 3, aV 3 4 7, aU 5, aI 2, aI 6, aI 7] 96,
  .vec (.aA 4) 7 51 [(.aA 2, [aI 8, aI 9, aB 10, aI 11, aV 0 13 0, aE 12 0])] ],[], .lit 0⟩)]⟩
def alK : FE := ⟨12150, 123, [], [], some (⟨13, [(0, aV 0 0 0), (1, .func (.func 91) [] [.ptr 1 0])], [.vec (.aA 0) 0 3 [],
 .cells [.ptr 2 0] 93,
 .cells [aI 1, .nY 3 6 (.aA 2) 0, aI 3, aV 3 4 7, aU 5, aI 2, aI 6, aI 7] 96,
 .vec (.aA 4) 7 51 [(.aA 2, [aI 8, aI 9, aB 10, aI 11, aV 0 0 0, aE 12 0])] ],[], .lit 0⟩, [.vec (.aA 0) 0 3 [], .cells [.ptr 2 0] 93, .cells [aI 1, .nY 3 6 (.aA 2) 0, aI 3, aV 3 4 7, aU 5, aI 2, aI 6, aI 7] 96, .vec (.aA 4) 7 51 [(.aA 2, [aI 8, aI 9, aB 10, aI 11, aV 0 0 0, aE 12 0])]], 13), [⟨14, [(0, aI 13)], [.vec (.aA 0) 0 3 [],
 .cells [.ptr 2 0] 93,
 .cells [aI 1, .nY 3 6 (.aA 2) 0, aI 3, aV 3 4 7, aU 5, aI 2, aI 6, aI 7] 96,
 .vec (.aA 4) 7 51 [(.aA 2, [aI 8, aI 9, aB 10, aI 11, aV 0 0 0, aE 12 0])] ],[], .lit 0⟩], [], [], 13, [],
 [([0, 1, 0, 1], ⟨15, [(0, aV 0 0 0), (1, .func (.func 91) [] [.ptr 1 0]), (7, aI 13), (8, aI 14)], [.vec (.aA 0) 0 3 [],
  .cells [.ptr 2 0] 93,
  .cells [aI 1, .nY 3 6 (.aA 2) 0, aI 3, aV 3 4 7, aU 5, aI 2, aI 6, aI 7] 96,
  .vec (.aA 4) 7 51 [(.aA 2, [aI 8, aI 9, aB 10, aI 11, aV 0 0 0, aE 12 0])] ],[], .lit 0⟩)]⟩
def alJ : FE := ⟨12200, 90, [], [], some (⟨13, [(0, aE 0 0), (1, .func (.func 91) [] [.ptr 0 0])], [.cells [.ptr 1 0] 93,
 .cells [aI 1, .nY 2 6 (.aA 2) 0, aI 3, aV 2 4 7, aU 5, aI 2, aI 6, aI 7] 96,
 .vec (.aA 4) 7 51 [(.aA 2, [aI 8, aI 9, aB 10, aI 11, aE 0 0, aV 3 12 0])],
 .vec (.aA 12) 0 2 [] ],[], .lit 0⟩, [.cells [.ptr 1 0] 93, .cells [aI 1, .nY 2 6 (.aA 2) 0, aI 3, aV 2 4 7, aU 5, aI 2, aI 6, aI 7] 96, .vec (.aA 4) 7 51 [(.aA 2, [aI 8, aI 9, aB 10, aI 11, aE 0 0, aV 3 12 0])], .vec (.aA 12) 0 2 []], 13), [⟨13, [(0, aE 0 0)], [.cells [.ptr 1 0] 93,
 .cells [aI 1, .nY 2 6 (.aA 2) 0, aI 3, aV 2 4 7, aU 5, aI 2, aI 6, aI 7] 96,
 .vec (.aA 4) 7 51 [(.aA 2, [aI 8, aI 9, aB 10, aI 11, aE 0 0, aV 3 12 0])],
 .vec (.aA 12) 0 2 [] ],[], .lit 0⟩], [], [], 13, [],
 []⟩
def alI : FE := ⟨12250, 123, [], [], some (⟨13, [(0, aE 0 0), (1, .func (.func 91) [] [.ptr 0 0])], [.cells [.ptr 1 0] 93,
 .cells [aI 1, .nY 2 6 (.aA 2) 0, aI 3, aV 2 4 7, aU 5, aI 2, aI 6, aI 7] 96,
 .vec (.aA 4) 7 51 [(.aA 2, [aI 8, aI 9, aB 10, aI 11, aE 0 0, aV 3 12 0])],
 .vec (.aA 12) 0 2 [] ],[], .lit 0⟩, [.cells [.ptr 1 0] 93, .cells [aI 1, .nY 2 6 (.aA 2) 0, aI 3, aV 2 4 7, aU 5, aI 2, aI 6, aI 7] 96, .vec (.aA 4) 7 51 [(.aA 2, [aI 8, aI 9, aB 10, aI 11, aE 0 0, aV 3 12 0])], .vec (.aA 12) 0 2 []], 13), [⟨13, [(0, aJ (-1))], [.cells [.ptr 1 0] 93,
 .cells [aI 1, .nY 2 6 (.aA 2) 0, aI 3, aV 2 4 7, aU 5, aI 2, aI 6, aI 7] 96,
 .vec (.aA 4) 7 51 [(.aA 2, [aI 8, aI 9, aB 10, aI 11, aE 0 0, aV 3 12 0])],
 .vec (.aA 12) 0 2 [] ],[], .lit 0⟩], [], [], 13, [],
 [([0, 1, 0, 1], ⟨13, [(0, aE 0 0), (1, .func (.func 91) [] [.ptr 0 0]), (7, aJ 0), (8, aJ 0)], [.cells [.ptr 1 0] 93,
  .cells [aI 1, .nY 2 6 (.aA 2) 0, aI 3, aV 2 4 7, aU 5, aI 2, aI 6, aI 7] 96,
  .vec (.aA 4) 7 51 [(.aA 2, [aI 8, aI 9, aB 10, aI 11, aE 0 0, aV 3 12 0])],
  .vec (.aA 12) 0 2 [] ],[], .lit 0⟩)]⟩
def alH : FE := ⟨12300, 90, [], [], some (⟨13, [(0, aE 0 0), (1, .func (.func 91) [] [.ptr 0 0])], [.cells [.ptr 1 0] 93,
 .cells [aI 1, .nY 2 6 (.aA 2) 0, aI 3, aV 2 4 7, aU 5, aI 2, aI 6, aI 7] 96,
 .vec (.aA 4) 7 51 [(.aA 2, [aI 8, aI 9, aB 10, aI 11, aE 0 0, aE 12 0])] ],[], .lit 0⟩, [.cells [.ptr 1 0] 93, .cells [aI 1, .nY 2 6 (.aA 2) 0, aI 3, aV 2 4 7, aU 5, aI 2, aI 6, aI 7] 96, .vec (.aA 4) 7 51 [(.aA 2, [aI 8, aI 9, aB 10, aI 11, aE 0 0, aE 12 0])]], 13), [⟨13, [(0, aE 0 0)], [.cells [.ptr 1 0] 93,
 .cells [aI 1, .nY 2 6 (.aA 2) 0, aI 3, aV 2 4 7, aU 5, aI 2, aI 6, aI 7] 96,
 .vec (.aA 4) 7 51 [(.aA 2, [aI 8, aI 9, aB 10, aI 11, aE 0 0, aE 12 0])] ],[], .lit 0⟩], [], [], 13, [],
 []⟩
def alG : FE := ⟨12350, 123, [], [], some (⟨13, [(0, aE 0 0), (1, .func (.func 91) [] [.ptr 0 0])], [.cells [.ptr 1 0] 93,
 .cells [aI 1, .nY 2 6 (.aA 2) 0, aI 3, aV 2 4 7, aU 5, aI 2, aI 6, aI 7] 96,
 .vec (.aA 4) 7 51 [(.aA 2, [aI 8, aI 9, aB 10, aI 11, aE 0 0, aE 12 0])] ],[], .lit 0⟩, [.cells [.ptr 1 0] 93, .cells [aI 1, .nY 2 6 (.aA 2) 0, aI 3, aV 2 4 7, aU 5, aI 2, aI 6, aI 7] 96, .vec (.aA 4) 7 51 [(.aA 2, [aI 8, aI 9, aB 10, aI 11, aE 0 0, aE 12 0])]], 13), [⟨13, [(0, aJ (-1))], [.cells [.ptr 1 0] 93,
 .cells [aI 1, .nY 2 6 (.aA 2) 0, aI 3, aV 2 4 7, aU 5, aI 2, aI 6, aI 7] 96,
 .vec (.aA 4) 7 51 [(.aA 2, [aI 8, aI 9, aB 10, aI 11, aE 0 0, aE 12 0])] ],[], .lit 0⟩], [], [], 13, [],
 [([0, 1, 0, 1], ⟨13, [(0, aE 0 0), (1, .func (.func 91) [] [.ptr 0 0]), (7, aJ 0), (8, aJ 0)], [.cells [.ptr 1 0] 93,
  .cells [aI 1, .nY 2 6 (.aA 2) 0, aI 3, aV 2 4 7, aU 5, aI 2, aI 6, aI 7] 96,
  .vec (.aA 4) 7 51 [(.aA 2, [aI 8, aI 9, aB 10, aI 11, aE 0 0, aE 12 0])] ],[], .lit 0⟩)]⟩
def alF : FE := ⟨12400, 135, [], [], some (⟨7, [(0, .agg [.slice 0 0 1 (.exact 1), .slice 1 0 1 (.exact 1)])], [.cells [aU 0, .str [97], aI 1, .str [], aI 2] 75,
 .cells [.str [97], .slice 2 0 1 (.exact 1), aI 3] 149,
 .cells [.int .u8 (.lit 1), aU 4, .str [97], .str [], aI 5, .aP, .aP, .aP, aI 6] 186 ],[], .lit 0⟩, [.cells [aU 0, .str [97], aI 1, .str [], aI 2] 75, .cells [.str [97], .slice 2 0 1 (.exact 1), aI 3] 149, .cells [.int .u8 (.lit 1), aU 4, .str [97], .str [], aI 5, .aP, .aP, .aP, aI 6] 186], 7), [⟨7, [(0, .bool (.lit false))], [.cells [aU 0, .str [97], aI 1, .str [], aI 2] 75,
 .cells [.str [97], .slice 2 0 1 (.exact 1), aI 3] 149,
 .cells [.int .u8 (.lit 1), aU 4, .str [97], .str [], aI 5, .aP, .aP, .aP, aI 6] 186 ],[], .lit 0⟩, ⟨7, [(0, .bool (.lit true))], [.cells [aU 0, .str [97], aI 1, .str [], aI 2] 75,
 .cells [.str [97], .slice 2 0 1 (.exact 1), aI 3] 149,
 .cells [.int .u8 (.lit 1), aU 4, .str [97], .str [], aI 5, .aP, .aP, .aP, aI 6] 186 ],[], .lit 0⟩], [], [], 7, [],
 []⟩
def alE : FE := ⟨12450, 135, [], [], some (⟨9, [(0, .agg [.slice 0 0 2 (.exact 2), .slice 1 0 1 (.exact 1)])], [.cells [.int .u8 (.lit 1), .str [98], aI 0, .str [], aI 1, aU 2, .str [97], aI 3, .str [98], aI 4] 75,
 .cells [.str [97], .slice 2 0 1 (.exact 1), aI 5] 149,
 .cells [.int .u8 (.lit 1), aU 6, .str [97], .str [], aI 7, .aP, .aP, .aP, aI 8] 186 ],[], .lit 0⟩, [.cells [.int .u8 (.lit 1), .str [98], aI 0, .str [], aI 1, aU 2, .str [97], aI 3, .str [98], aI 4] 75, .cells [.str [97], .slice 2 0 1 (.exact 1), aI 5] 149, .cells [.int .u8 (.lit 1), aU 6, .str [97], .str [], aI 7, .aP, .aP, .aP, aI 8] 186], 9), [⟨9, [(0, .bool (.lit false))], [.cells [.int .u8 (.lit 1), .str [98], aI 0, .str [], aI 1, aU 2, .str [97], aI 3, .str [98], aI 4] 75,
 .cells [.str [97], .slice 2 0 1 (.exact 1), aI 5] 149,
 .cells [.int .u8 (.lit 1), aU 6, .str [97], .str [], aI 7, .aP, .aP, .aP, aI 8] 186 ],[], .lit 0⟩, ⟨9, [(0, .bool (.lit true))], [.cells [.int .u8 (.lit 1), .str [98], aI 0, .str [], aI 1, aU 2, .str [97], aI 3, .str [98], aI 4] 75,
 .cells [.str [97], .slice 2 0 1 (.exact 1), aI 5] 149,
 .cells [.int .u8 (.lit 1), aU 6, .str [97], .str [], aI 7, .aP, .aP, .aP, aI 8] 186 ],[], .lit 0⟩], [], [], 9, [],
 []⟩
def alD : FE := ⟨12500, 135, [], [], some (⟨7, [(0, .agg [.slice 0 0 1 (.exact 1), .slice 1 0 1 (.exact 1)])], [.cells [aU 0, .str [97], aI 1, .str [], aI 2] 75,
 .cells [.str [97], .slice 2 0 1 (.exact 1), aI 3] 149,
 .cells [.int .u8 (.lit 1), aU 4, .str [97], .str [97], aI 5, .aP, .aP, .aP, aI 6] 186 ],[], .lit 0⟩, [.cells [aU 0, .str [97], aI 1, .str [], aI 2] 75, .cells [.str [97], .slice 2 0 1 (.exact 1), aI 3] 149, .cells [.int .u8 (.lit 1), aU 4, .str [97], .str [97], aI 5, .aP, .aP, .aP, aI 6] 186], 7), [⟨7, [(0, .bool (.lit false))], [.cells [aU 0, .str [97], aI 1, .str [], aI 2] 75,
 .cells [.str [97], .slice 2 0 1 (.exact 1), aI 3] 149,
 .cells [.int .u8 (.lit 1), aU 4, .str [97], .str [97], aI 5, .aP, .aP, .aP, aI 6] 186 ],[], .lit 0⟩, ⟨7, [(0, .bool (.lit true))], [.cells [aU 0, .str [97], aI 1, .str [], aI 2] 75,
 .cells [.str [97], .slice 2 0 1 (.exact 1), aI 3] 149,
 .cells [.int .u8 (.lit 1), aU 4, .str [97], .str [97], aI 5, .aP, .aP, .aP, aI 6] 186 ],[], .lit 0⟩], [], [], 7, [],
 []⟩
def alC : FE := ⟨12550, 135, [], [], some (⟨9, [(0, .agg [.slice 0 0 2 (.exact 2), .slice 1 0 1 (.exact 1)])], [.cells [.int .u8 (.lit 1), .str [98], aI 0, .str [], aI 1, aU 2, .str [97], aI 3, .str [98], aI 4] 75,
 .cells [.str [97], .slice 2 0 1 (.exact 1), aI 5] 149,
 .cells [.int .u8 (.lit 1), aU 6, .str [97], .str [97], aI 7, .aP, .aP, .aP, aI 8] 186 ],[], .lit 0⟩, [.cells [.int .u8 (.lit 1), .str [98], aI 0, .str [], aI 1, aU 2, .str [97], aI 3, .str [98], aI 4] 75, .cells [.str [97], .slice 2 0 1 (.exact 1), aI 5] 149, .cells [.int .u8 (.lit 1), aU 6, .str [97], .str [97], aI 7, .aP, .aP, .aP, aI 8] 186], 9), [⟨9, [(0, .bool (.lit false))], [.cells [.int .u8 (.lit 1), .str [98], aI 0, .str [], aI 1, aU 2, .str [97], aI 3, .str [98], aI 4] 75,
 .cells [.str [97], .slice 2 0 1 (.exact 1), aI 5] 149,
 .cells [.int .u8 (.lit 1), aU 6, .str [97], .str [97], aI 7, .aP, .aP, .aP, aI 8] 186 ],[], .lit 0⟩, ⟨9, [(0, .bool (.lit true))], [.cells [.int .u8 (.lit 1), .str [98], aI 0, .str [], aI 1, aU 2, .str [97], aI 3, .str [98], aI 4] 75,
 .cells [.str [97], .slice 2 0 1 (.exact 1), aI 5] 149,
 .cells [.int .u8 (.lit 1), aU 6, .str [97], .str [97], aI 7, .aP, .aP, .aP, aI 8] 186 ],[], .lit 0⟩], [], [], 9, [],
 []⟩
def alB : FE := ⟨12600, 135, [], [], some (⟨8, [(0, .agg [.slice 0 0 1 (.exact 1), .slice 1 0 1 (.exact 1)])], [.cells [aU 0, .str [97], aI 1, .str [], aI 2] 75,
 .cells [.str [97], .slice 2 0 1 (.exact 1), aI 3] 149,
 .cells [.int .u8 (.lit 1), aU 4, .str [97], .str [], aI 5, aV 3 6 6, .aP, .aP, aI 7] 186,
 .vec (.aA 6) 6 86 [] ],[], .lit 0⟩, [.cells [aU 0, .str [97], aI 1, .str [], aI 2] 75, .cells [.str [97], .slice 2 0 1 (.exact 1), aI 3] 149, .cells [.int .u8 (.lit 1), aU 4, .str [97], .str [], aI 5, aV 3 6 6, .aP, .aP, aI 7] 186, .vec (.aA 6) 6 86 []], 8), [⟨8, [(0, .bool (.lit false))], [.cells [aU 0, .str [97], aI 1, .str [], aI 2] 75,
 .cells [.str [97], .slice 2 0 1 (.exact 1), aI 3] 149,
 .cells [.int .u8 (.lit 1), aU 4, .str [97], .str [], aI 5, aV 3 6 6, .aP, .aP, aI 7] 186,
 .vec (.aA 6) 6 86 [] ],[], .lit 0⟩, ⟨10, [(0, .bool (.lit true))], [.cells [aU 0, .str [97], aI 1, .str [], aI 2] 75,
 .cells [.str [97], .slice 2 0 1 (.exact 1), aI 3] 149,
 .cells [.int .u8 (.lit 1), aU 4, .str [97], .str [], aI 5, .uM 3 (.aA 8) 6, .aP, .aP, aI 7] 186,
 .vec (.aA 9) 6 86 [] ],[], .lit 0⟩], [], [], 8, [],
 []⟩
def alA : FE := ⟨12650, 135, [], [], some (⟨10, [(0, .agg [.slice 0 0 2 (.exact 2), .slice 1 0 1 (.exact 1)])], [.cells [.int .u8 (.lit 1), .str [98], aI 0, .str [], aI 1, aU 2, .str [97], aI 3, .str [98], aI 4] 75,
 .cells [.str [97], .slice 2 0 1 (.exact 1), aI 5] 149,
 .cells [.int .u8 (.lit 1), aU 6, .str [97], .str [], aI 7, aV 3 8 6, .aP, .aP, aI 9] 186,
 .vec (.aA 8) 6 86 [] ],[], .lit 0⟩, [.cells [.int .u8 (.lit 1), .str [98], aI 0, .str [], aI 1, aU 2, .str [97], aI 3, .str [98], aI 4] 75, .cells [.str [97], .slice 2 0 1 (.exact 1), aI 5] 149, .cells [.int .u8 (.lit 1), aU 6, .str [97], .str [], aI 7, aV 3 8 6, .aP, .aP, aI 9] 186, .vec (.aA 8) 6 86 []], 10), [⟨10, [(0, .bool (.lit false))], [.cells [.int .u8 (.lit 1), .str [98], aI 0, .str [], aI 1, aU 2, .str [97], aI 3, .str [98], aI 4] 75,
 .cells [.str [97], .slice 2 0 1 (.exact 1), aI 5] 149,
 .cells [.int .u8 (.lit 1), aU 6, .str [97], .str [], aI 7, aV 3 8 6, .aP, .aP, aI 9] 186,
 .vec (.aA 8) 6 86 [] ],[], .lit 0⟩, ⟨12, [(0, .bool (.lit true))], [.cells [.int .u8 (.lit 1), .str [98], aI 0, .str [], aI 1, aU 2, .str [97], aI 3, .str [98], aI 4] 75,
 .cells [.str [97], .slice 2 0 1 (.exact 1), aI 5] 149,
 .cells [.int .u8 (.lit 1), aU 6, .str [97], .str [], aI 7, .uM 3 (.aA 10) 6, .aP, .aP, aI 9] 186,
 .vec (.aA 11) 6 86 [] ],[], .lit 0⟩], [], [], 10, [],
 []⟩
def akZ : FE := ⟨12700, 135, [], [], some (⟨8, [(0, .agg [.slice 0 0 1 (.exact 1), .slice 1 0 1 (.exact 1)])], [.cells [aU 0, .str [97], aI 1, .str [], aI 2] 75,
 .cells [.str [97], .slice 2 0 1 (.exact 1), aI 3] 149,
 .cells [.int .u8 (.lit 1), aU 4, .str [97], .str [97], aI 5, aV 3 6 6, .aP, .aP, aI 7] 186,
 .vec (.aA 6) 6 86 [] ],[], .lit 0⟩, [.cells [aU 0, .str [97], aI 1, .str [], aI 2] 75, .cells [.str [97], .slice 2 0 1 (.exact 1), aI 3] 149, .cells [.int .u8 (.lit 1), aU 4, .str [97], .str [97], aI 5, aV 3 6 6, .aP, .aP, aI 7] 186, .vec (.aA 6) 6 86 []], 8), [⟨8, [(0, .bool (.lit false))], [.cells [aU 0, .str [97], aI 1, .str [], aI 2] 75,
 .cells [.str [97], .slice 2 0 1 (.exact 1), aI 3] 149,
 .cells [.int .u8 (.lit 1), aU 4, .str [97], .str [97], aI 5, aV 3 6 6, .aP, .aP, aI 7] 186,
 .vec (.aA 6) 6 86 [] ],[], .lit 0⟩, ⟨10, [(0, .bool (.lit true))], [.cells [aU 0, .str [97], aI 1, .str [], aI 2] 75,
 .cells [.str [97], .slice 2 0 1 (.exact 1), aI 3] 149,
 .cells [.int .u8 (.lit 1), aU 4, .str [97], .str [97], aI 5, .uM 3 (.aA 8) 6, .aP, .aP, aI 7] 186,
 .vec (.aA 9) 6 86 [] ],[], .lit 0⟩], [], [], 8, [],
 []⟩
def akY : FE := ⟨12750, 135, [], [], some (⟨10, [(0, .agg [.slice 0 0 2 (.exact 2), .slice 1 0 1 (.exact 1)])], [.cells [.int .u8 (.lit 1), .str [98], aI 0, .str [], aI 1, aU 2, .str [97], aI 3, .str [98], aI 4] 75,
 .cells [.str [97], .slice 2 0 1 (.exact 1), aI 5] 149,
 .cells [.int .u8 (.lit 1), aU 6, .str [97], .str [97], aI 7, aV 3 8 6, .aP, .aP, aI 9] 186,
 .vec (.aA 8) 6 86 [] ],[], .lit 0⟩, [.cells [.int .u8 (.lit 1), .str [98], aI 0, .str [], aI 1, aU 2, .str [97], aI 3, .str [98], aI 4] 75, .cells [.str [97], .slice 2 0 1 (.exact 1), aI 5] 149, .cells [.int .u8 (.lit 1), aU 6, .str [97], .str [97], aI 7, aV 3 8 6, .aP, .aP, aI 9] 186, .vec (.aA 8) 6 86 []], 10), [⟨10, [(0, .bool (.lit false))], [.cells [.int .u8 (.lit 1), .str [98], aI 0, .str [], aI 1, aU 2, .str [97], aI 3, .str [98], aI 4] 75,
 .cells [.str [97], .slice 2 0 1 (.exact 1), aI 5] 149,
 .cells [.int .u8 (.lit 1), aU 6, .str [97], .str [97], aI 7, aV 3 8 6, .aP, .aP, aI 9] 186,
 .vec (.aA 8) 6 86 [] ],[], .lit 0⟩, ⟨12, [(0, .bool (.lit true))], [.cells [.int .u8 (.lit 1), .str [98], aI 0, .str [], aI 1, aU 2, .str [97], aI 3, .str [98], aI 4] 75,
 .cells [.str [97], .slice 2 0 1 (.exact 1), aI 5] 149,
 .cells [.int .u8 (.lit 1), aU 6, .str [97], .str [97], aI 7, .uM 3 (.aA 10) 6, .aP, .aP, aI 9] 186,
 .vec (.aA 11) 6 86 [] ],[], .lit 0⟩], [], [], 10, [],
 []⟩
def akX : FE := ⟨12800, 146, [], [], some (⟨2, [(0, .ptr 0 0), (1, aS 0), (2, aI 1)], [.cells (u8L [0, 0, 0, 0, 0, 0, 0, 0, 0, 1, 1, 0, 0, 1, 0, 0, 0, 0, 0, 0, 0, 0, 0, 0, 0, 0, 0, 0, 0, 0, 0, 0, 1, 0, 0, 2, 0, 0, 0, 0, 5, 5, 5, 5, 0, 5, 0, 0, 3, 3, 3, 3, 3, 3, 3, 3, 3, 3, 0, 5, 5, 5, 0, 0, 0, 4, 4, 4, 4, 4, 4, 4, 4, 4, 4, 4, 4, 4, 4, 4, 4, 4, 4, 4, 4, 4, 4, 4, 4, 4, 4, 0, 0, 0, 0, 4, 0, 4, 4, 4, 4, 4, 4, 4, 4, 4, 4, 4, 4, 4, 4, 4, 4, 4, 4, 4, 4, 4, 4, 4, 4, 4, 4, 5, 0, 5, 0, 0, 0, 0, 0, 0, 0, 0, 0, 0, 0, 0, 0, 0, 0, 0, 0, 0, 0, 0, 0, 0, 0, 0, 0, 0, 0, 0, 0, 0, 0, 0, 0, 0, 0, 0, 0, 0, 0, 0, 0, 0, 0, 0, 0, 0, 0, 0, 0, 0, 0, 0, 0, 0, 0, 0, 0, 0, 0, 0, 0, 0, 0, 0, 0, 0, 0, 0, 0, 0, 0, 0, 0, 0, 0, 0, 0, 0, 0, 0, 0, 0, 0, 0, 0, 0, 0, 0, 0, 0, 0, 0, 0, 0, 0, 0, 0, 0, 0, 0, 0, 0, 0, 0, 0, 0, 0, 0, 0, 0, 0, 0, 0, 0, 0, 0, 0, 0, 0, 0, 0, 0, 0, 0, 0, 0, 0, 0, 0, 0]) 202 ],[], .lit 0⟩, [.cells (u8L [0, 0, 0, 0, 0, 0, 0, 0, 0, 1, 1, 0, 0, 1, 0, 0, 0, 0, 0, 0, 0, 0, 0, 0, 0, 0, 0, 0, 0, 0, 0, 0, 1, 0, 0, 2, 0, 0, 0, 0, 5, 5, 5, 5, 0, 5, 0, 0, 3, 3, 3, 3, 3, 3, 3, 3, 3, 3, 0, 5, 5, 5, 0, 0, 0, 4, 4, 4, 4, 4, 4, 4, 4, 4, 4, 4, 4, 4, 4, 4, 4, 4, 4, 4, 4, 4, 4, 4, 4, 4, 4, 0, 0, 0, 0, 4, 0, 4, 4, 4, 4, 4, 4, 4, 4, 4, 4, 4, 4, 4, 4, 4, 4, 4, 4, 4, 4, 4, 4, 4, 4, 4, 4, 5, 0, 5, 0, 0, 0, 0, 0, 0, 0, 0, 0, 0, 0, 0, 0, 0, 0, 0, 0, 0, 0, 0, 0, 0, 0, 0, 0, 0, 0, 0, 0, 0, 0, 0, 0, 0, 0, 0, 0, 0, 0, 0, 0, 0, 0, 0, 0, 0, 0, 0, 0, 0, 0, 0, 0, 0, 0, 0, 0, 0, 0, 0, 0, 0, 0, 0, 0, 0, 0, 0, 0, 0, 0, 0, 0, 0, 0, 0, 0, 0, 0, 0, 0, 0, 0, 0, 0, 0, 0, 0, 0, 0, 0, 0, 0, 0, 0, 0, 0, 0, 0, 0, 0, 0, 0, 0, 0, 0, 0, 0, 0, 0, 0, 0, 0, 0, 0, 0, 0, 0, 0, 0, 0, 0, 0, 0, 0, 0, 0, 0, 0, 0]) 202], 2), [⟨3, [(0, aI 2)], [.cells (u8L [0, 0, 0, 0, 0, 0, 0, 0, 0, 1, 1, 0, 0, 1, 0, 0, 0, 0, 0, 0, 0, 0, 0, 0, 0, 0, 0, 0, 0, 0, 0, 0, 1, 0, 0, 2, 0, 0, 0, 0, 5, 5, 5, 5, 0, 5, 0, 0, 3, 3, 3, 3, 3, 3, 3, 3, 3, 3, 0, 5, 5, 5, 0, 0, 0, 4, 4, 4, 4, 4, 4, 4, 4, 4, 4, 4, 4, 4, 4, 4, 4, 4, 4, 4, 4, 4, 4, 4, 4, 4, 4, 0, 0, 0, 0, 4, 0, 4, 4, 4, 4, 4, 4, 4, 4, 4, 4, 4, 4, 4, 4, 4, 4, 4, 4, 4, 4, 4, 4, 4, 4, 4, 4, 5, 0, 5, 0, 0, 0, 0, 0, 0, 0, 0, 0, 0, 0, 0, 0, 0, 0, 0, 0, 0, 0, 0, 0, 0, 0, 0, 0, 0, 0, 0, 0, 0, 0, 0, 0, 0, 0, 0, 0, 0, 0, 0, 0, 0, 0, 0, 0, 0, 0, 0, 0, 0, 0, 0, 0, 0, 0, 0, 0, 0, 0, 0, 0, 0, 0, 0, 0, 0, 0, 0, 0, 0, 0, 0, 0, 0, 0, 0, 0, 0, 0, 0, 0, 0, 0, 0, 0, 0, 0, 0, 0, 0, 0, 0, 0, 0, 0, 0, 0, 0, 0, 0, 0, 0, 0, 0, 0, 0, 0, 0, 0, 0, 0, 0, 0, 0, 0, 0, 0, 0, 0, 0, 0, 0, 0, 0, 0, 0, 0, 0, 0, 0]) 202 ],[], .lit 0⟩], [], [], 2, [],
 [([0, 0, 1, 0, 1], ⟨3, [(0, .ptr 0 0), (1, aS 0), (2, aI 2)], [.cells (u8L [0, 0, 0, 0, 0, 0, 0, 0, 0, 1, 1, 0, 0, 1, 0, 0, 0, 0, 0, 0, 0, 0, 0, 0, 0, 0, 0, 0, 0, 0, 0, 0, 1, 0, 0, 2, 0, 0, 0, 0, 5, 5, 5, 5, 0, 5, 0, 0, 3, 3, 3, 3, 3, 3, 3, 3, 3, 3, 0, 5, 5, 5, 0, 0, 0, 4, 4, 4, 4, 4, 4, 4, 4, 4, 4, 4, 4, 4, 4, 4, 4, 4, 4, 4, 4, 4, 4, 4, 4, 4, 4, 0, 0, 0, 0, 4, 0, 4, 4, 4, 4, 4, 4, 4, 4, 4, 4, 4, 4, 4, 4, 4, 4, 4, 4, 4, 4, 4, 4, 4, 4, 4, 4, 5, 0, 5, 0, 0, 0, 0, 0, 0, 0, 0, 0, 0, 0, 0, 0, 0, 0, 0, 0, 0, 0, 0, 0, 0, 0, 0, 0, 0, 0, 0, 0, 0, 0, 0, 0, 0, 0, 0, 0, 0, 0, 0, 0, 0, 0, 0, 0, 0, 0, 0, 0, 0, 0, 0, 0, 0, 0, 0, 0, 0, 0, 0, 0, 0, 0, 0, 0, 0, 0, 0, 0, 0, 0, 0, 0, 0, 0, 0, 0, 0, 0, 0, 0, 0, 0, 0, 0, 0, 0, 0, 0, 0, 0, 0, 0, 0, 0, 0, 0, 0, 0, 0, 0, 0, 0, 0, 0, 0, 0, 0, 0, 0, 0, 0, 0, 0, 0, 0, 0, 0, 0, 0, 0, 0, 0, 0, 0, 0, 0, 0, 0, 0]) 202 ],[], .lit 0⟩)]⟩
def akW : FE := ⟨12850, 148, [], [], some (⟨2, [(0, .ptr 0 0), (1, aS 0), (2, aI 1)], [.cells (u8L [0, 0, 0, 0, 0, 0, 0, 0, 0, 1, 1, 0, 0, 1, 0, 0, 0, 0, 0, 0, 0, 0, 0, 0, 0, 0, 0, 0, 0, 0, 0, 0, 1, 0, 0, 2, 0, 0, 0, 0, 5, 5, 5, 5, 0, 5, 0, 0, 3, 3, 3, 3, 3, 3, 3, 3, 3, 3, 0, 5, 5, 5, 0, 0, 0, 4, 4, 4, 4, 4, 4, 4, 4, 4, 4, 4, 4, 4, 4, 4, 4, 4, 4, 4, 4, 4, 4, 4, 4, 4, 4, 0, 0, 0, 0, 4, 0, 4, 4, 4, 4, 4, 4, 4, 4, 4, 4, 4, 4, 4, 4, 4, 4, 4, 4, 4, 4, 4, 4, 4, 4, 4, 4, 5, 0, 5, 0, 0, 0, 0, 0, 0, 0, 0, 0, 0, 0, 0, 0, 0, 0, 0, 0, 0, 0, 0, 0, 0, 0, 0, 0, 0, 0, 0, 0, 0, 0, 0, 0, 0, 0, 0, 0, 0, 0, 0, 0, 0, 0, 0, 0, 0, 0, 0, 0, 0, 0, 0, 0, 0, 0, 0, 0, 0, 0, 0, 0, 0, 0, 0, 0, 0, 0, 0, 0, 0, 0, 0, 0, 0, 0, 0, 0, 0, 0, 0, 0, 0, 0, 0, 0, 0, 0, 0, 0, 0, 0, 0, 0, 0, 0, 0, 0, 0, 0, 0, 0, 0, 0, 0, 0, 0, 0, 0, 0, 0, 0, 0, 0, 0, 0, 0, 0, 0, 0, 0, 0, 0, 0, 0, 0, 0, 0, 0, 0, 0]) 202 ],[], .lit 0⟩, [.cells (u8L [0, 0, 0, 0, 0, 0, 0, 0, 0, 1, 1, 0, 0, 1, 0, 0, 0, 0, 0, 0, 0, 0, 0, 0, 0, 0, 0, 0, 0, 0, 0, 0, 1, 0, 0, 2, 0, 0, 0, 0, 5, 5, 5, 5, 0, 5, 0, 0, 3, 3, 3, 3, 3, 3, 3, 3, 3, 3, 0, 5, 5, 5, 0, 0, 0, 4, 4, 4, 4, 4, 4, 4, 4, 4, 4, 4, 4, 4, 4, 4, 4, 4, 4, 4, 4, 4, 4, 4, 4, 4, 4, 0, 0, 0, 0, 4, 0, 4, 4, 4, 4, 4, 4, 4, 4, 4, 4, 4, 4, 4, 4, 4, 4, 4, 4, 4, 4, 4, 4, 4, 4, 4, 4, 5, 0, 5, 0, 0, 0, 0, 0, 0, 0, 0, 0, 0, 0, 0, 0, 0, 0, 0, 0, 0, 0, 0, 0, 0, 0, 0, 0, 0, 0, 0, 0, 0, 0, 0, 0, 0, 0, 0, 0, 0, 0, 0, 0, 0, 0, 0, 0, 0, 0, 0, 0, 0, 0, 0, 0, 0, 0, 0, 0, 0, 0, 0, 0, 0, 0, 0, 0, 0, 0, 0, 0, 0, 0, 0, 0, 0, 0, 0, 0, 0, 0, 0, 0, 0, 0, 0, 0, 0, 0, 0, 0, 0, 0, 0, 0, 0, 0, 0, 0, 0, 0, 0, 0, 0, 0, 0, 0, 0, 0, 0, 0, 0, 0, 0, 0, 0, 0, 0, 0, 0, 0, 0, 0, 0, 0, 0, 0, 0, 0, 0, 0, 0]) 202], 2), [⟨3, [(0, aI 2)], [.cells (u8L [0, 0, 0, 0, 0, 0, 0, 0, 0, 1, 1, 0, 0, 1, 0, 0, 0, 0, 0, 0, 0, 0, 0, 0, 0, 0, 0, 0, 0, 0, 0, 0, 1, 0, 0, 2, 0, 0, 0, 0, 5, 5, 5, 5, 0, 5, 0, 0, 3, 3, 3, 3, 3, 3, 3, 3, 3, 3, 0, 5, 5, 5, 0, 0, 0, 4, 4, 4, 4, 4, 4, 4, 4, 4, 4, 4, 4, 4, 4, 4, 4, 4, 4, 4, 4, 4, 4, 4, 4, 4, 4, 0, 0, 0, 0, 4, 0, 4, 4, 4, 4, 4, 4, 4, 4, 4, 4, 4, 4, 4, 4, 4, 4, 4, 4, 4, 4, 4, 4, 4, 4, 4, 4, 5, 0, 5, 0, 0, 0, 0, 0, 0, 0, 0, 0, 0, 0, 0, 0, 0, 0, 0, 0, 0, 0, 0, 0, 0, 0, 0, 0, 0, 0, 0, 0, 0, 0, 0, 0, 0, 0, 0, 0, 0, 0, 0, 0, 0, 0, 0, 0, 0, 0, 0, 0, 0, 0, 0, 0, 0, 0, 0, 0, 0, 0, 0, 0, 0, 0, 0, 0, 0, 0, 0, 0, 0, 0, 0, 0, 0, 0, 0, 0, 0, 0, 0, 0, 0, 0, 0, 0, 0, 0, 0, 0, 0, 0, 0, 0, 0, 0, 0, 0, 0, 0, 0, 0, 0, 0, 0, 0, 0, 0, 0, 0, 0, 0, 0, 0, 0, 0, 0, 0, 0, 0, 0, 0, 0, 0, 0, 0, 0, 0, 0, 0, 0]) 202 ],[], .lit 0⟩], [], [], 2, [],
 [([0, 0, 1, 1, 1, 1], ⟨4, [(0, .ptr 0 0), (1, aS 0), (7, aU 2), (8, aI 3)], [.cells (u8L [0, 0, 0, 0, 0, 0, 0, 0, 0, 1, 1, 0, 0, 1, 0, 0, 0, 0, 0, 0, 0, 0, 0, 0, 0, 0, 0, 0, 0, 0, 0, 0, 1, 0, 0, 2, 0, 0, 0, 0, 5, 5, 5, 5, 0, 5, 0, 0, 3, 3, 3, 3, 3, 3, 3, 3, 3, 3, 0, 5, 5, 5, 0, 0, 0, 4, 4, 4, 4, 4, 4, 4, 4, 4, 4, 4, 4, 4, 4, 4, 4, 4, 4, 4, 4, 4, 4, 4, 4, 4, 4, 0, 0, 0, 0, 4, 0, 4, 4, 4, 4, 4, 4, 4, 4, 4, 4, 4, 4, 4, 4, 4, 4, 4, 4, 4, 4, 4, 4, 4, 4, 4, 4, 5, 0, 5, 0, 0, 0, 0, 0, 0, 0, 0, 0, 0, 0, 0, 0, 0, 0, 0, 0, 0, 0, 0, 0, 0, 0, 0, 0, 0, 0, 0, 0, 0, 0, 0, 0, 0, 0, 0, 0, 0, 0, 0, 0, 0, 0, 0, 0, 0, 0, 0, 0, 0, 0, 0, 0, 0, 0, 0, 0, 0, 0, 0, 0, 0, 0, 0, 0, 0, 0, 0, 0, 0, 0, 0, 0, 0, 0, 0, 0, 0, 0, 0, 0, 0, 0, 0, 0, 0, 0, 0, 0, 0, 0, 0, 0, 0, 0, 0, 0, 0, 0, 0, 0, 0, 0, 0, 0, 0, 0, 0, 0, 0, 0, 0, 0, 0, 0, 0, 0, 0, 0, 0, 0, 0, 0, 0, 0, 0, 0, 0, 0, 0]) 202 ],[], .lit 0⟩)]⟩
def akV : FE := ⟨12900, 135, [], [], some (⟨2, [(0, .agg [.aP, .slice 0 0 1 (.exact 1)])], [.cells [aS 0, .aP, aI 1] 149 ],[], .lit 0⟩, [.cells [aS 0, .aP, aI 1] 149], 2), [⟨2, [(0, .bool (.lit false))], [.cells [aS 0, .aP, aI 1] 149 ],[], .lit 0⟩, ⟨2, [(0, .bool (.lit true))], [.cells [aS 0, .aP, aI 1] 149 ],[], .lit 0⟩], [], [], 2, [],
 []⟩
def feT : Tr FE := (.node (some fe0) (.node none (.node (some axV) (.node (some axR) (.node (some axJ) (.node none (.node none (.node none (.node (some akY) .nil .nil) .nil) .nil) .nil) (.node none .nil (.node (some arH) .nil .nil))) (.node (some arY) (.node none .nil (.node (some arP) .nil .nil)) (.node none .nil (.node none .nil (.node (some alG) .nil .nil))))) (.node (some axN) (.node (some axF) .nil (.node none .nil (.node none .nil (.node (some alK) .nil .nil)))) (.node (some arU) (.node none .nil (.node (some arL) .nil .nil)) (.node none .nil (.node none .nil (.node (some alC) .nil .nil)))))) (.node (some axT) (.node (some axP) (.node (some axH) (.node none (.node none (.node none (.node (some akW) .nil .nil) .nil) .nil) .nil) (.node none .nil (.node none .nil (.node (some alM) .nil .nil)))) (.node (some arW) (.node none .nil (.node (some arN) .nil .nil)) (.node none .nil (.node none .nil (.node (some alE) .nil .nil))))) (.node (some axL) (.node (some asA) (.node none .nil (.node (some arR) .nil .nil)) (.node none .nil (.node none .nil (.node (some alI) .nil .nil)))) (.node none (.node none .nil (.node (some arJ) .nil .nil)) (.node none .nil (.node none .nil (.node (some alA) .nil .nil))))))) (.node (some axW) (.node (some axU) (.node (some axQ) (.node (some axI) (.node none (.node none (.node none (.node (some akX) .nil .nil) .nil) .nil) .nil) (.node none .nil (.node (some arG) .nil (.node (some alN) .nil .nil)))) (.node (some arX) (.node none .nil (.node (some arO) .nil .nil)) (.node none .nil (.node none .nil (.node (some alF) .nil .nil))))) (.node (some axM) (.node (some asB) (.node none .nil (.node (some arS) .nil .nil)) (.node none .nil (.node none (.node (some arF) .nil .nil) (.node (some alJ) .nil .nil)))) (.node (some arT) (.node none .nil (.node (some arK) .nil .nil)) (.node none .nil (.node none .nil (.node (some alB) .nil .nil)))))) (.node (some axS) (.node (some axO) (.node (some axG) (.node none (.node none (.node none (.node (some akV) .nil .nil) .nil) .nil) .nil) (.node none .nil (.node none .nil (.node (some alL) .nil .nil)))) (.node (some arV) (.node none .nil (.node (some arM) .nil .nil)) (.node none .nil (.node none .nil (.node (some alD) .nil .nil))))) (.node (some axK) (.node (some arZ) (.node none .nil (.node (some arQ) .nil .nil)) (.node none .nil (.node none .nil (.node (some alH) .nil .nil)))) (.node none (.node none .nil (.node (some arI) .nil .nil)) (.node none .nil (.node none .nil (.node (some akZ) .nil .nil))))))))
def aqA : Tr (List Nat) := (.node none (.node none (.node none (.node none (.node none (.node (some [250]) (.node none (.node (some [1350]) .nil .nil) .nil) (.node (some [900]) (.node (some [5100, 5250, 5450]) .nil .nil) .nil)) (.node (some [700]) .nil .nil)) (.node (some [400]) (.node (some [600]) (.node none (.node (some [12400, 12450, 12500, 12550, 12600, 12650, 12700, 12750, 12900]) .nil .nil) .nil) .nil) .nil)) (.node none (.node none .nil (.node (some [800]) .nil (.node (some [950]) .nil .nil))) (.node none (.node none (.node (some [850]) .nil .nil) (.node none (.node (some [1250]) .nil .nil) .nil)) (.node none .nil (.node (some [12050, 12150, 12250, 12350]) .nil .nil))))) (.node none (.node none (.node (some [200]) .nil (.node (some [5000]) .nil (.node none (.node (some [1200]) .nil .nil) .nil))) .nil) (.node (some [0]) (.node none (.node none (.node none (.node (some [1000]) .nil .nil) .nil) .nil) (.node none (.node none (.node (some [1100]) .nil .nil) .nil) (.node (some [5050]) .nil .nil))) .nil))) (.node none (.node none (.node none (.node none (.node (some [150]) .nil .nil) (.node (some [750]) .nil (.node none (.node (some [1150]) .nil .nil) .nil))) .nil) (.node none (.node (some [350]) (.node (some [500]) (.node none (.node (some [1400]) .nil .nil) .nil) .nil) (.node none (.node none (.node (some [12850]) .nil .nil) .nil) (.node (some [5400]) .nil .nil))) (.node none (.node none .nil (.node none (.node (some [1300]) .nil .nil) .nil)) (.node none .nil (.node (some [1050]) .nil .nil))))) (.node none (.node none (.node (some [300]) (.node (some [450]) .nil .nil) (.node none (.node none (.node (some [12800]) .nil .nil) .nil) (.node none (.node (some [5150, 5200, 5300, 5350, 5500, 5550, 5600]) .nil .nil) .nil))) (.node none .nil (.node (some [650]) (.node (some [12000, 12100, 12200, 12300]) .nil .nil) .nil))) (.node (some [100]) (.node none (.node (some [9000, 550]) .nil .nil) .nil) .nil))))
noncomputable def St : ZR := ⟨Tryz.prog, base, ttE, ft, Rt ttE hints, Uk ttE hints, VZ, lim 259 feT, fun g => (lim 179 aqA g).getD []⟩
noncomputable def S : Sys := St.sys
theorem axE : (List.range 259).all (fun k => match feT.get k with | some f => aeO ft k f | none => true) = true := by kernel_rfl
theorem apZ : (List.range 179).all (fun g => Tc ft (lim 259 feT) g ((aqA.get g).getD [])) = true := by kernel_rfl
theorem apN : LP S := by
 refine ajG aaN aqZ (fun I call hc => @KY _ I _ aaN mixed _ _ hc) Zr (fun k f hf => ?_) fun g => ?_
 ·have hf' : lim 259 feT k = some f := hf
  unfold lim at hf'
  split at hf'
  ·simp at hf'
  ·rename_i hle
   have hlt : k < 259 := by
    rcases Nat.lt_or_ge k 259 with h | h
    ·exact h
    ·rw [Nat.ble_eq_true_of_le h] at hle; simp at hle
   have := List.all_eq_true.1 axE k (List.mem_range.2 hlt)
   rw [hf'] at this
   exact this
 ·show Tc ft (lim 259 feT) g ((lim 179 aqA g).getD []) = true
  unfold lim
  split
  ·rfl
  ·rename_i hle
   have hlt : g < 179 := by
    rcases Nat.lt_or_ge g 179 with h | h
    ·exact h
    ·rw [Nat.ble_eq_true_of_le h] at hle; simp at hle
   exact List.all_eq_true.1 apZ g (List.mem_range.2 hlt)
end Go.As.Try
end
