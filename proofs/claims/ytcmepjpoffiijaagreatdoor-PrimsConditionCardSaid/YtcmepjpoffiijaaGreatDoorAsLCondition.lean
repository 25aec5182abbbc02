import Derived.Test.YtcmepjpoffiijaaGreatDoorAsT5
/-
  AS: the law Condition: its loop's states, a round from each, the run up to the loop.
-/
namespace Go.As.Try.Condition
open Go hiding Stat
open Go.As Go.Proofs Go.RowKit Go.As.Try
set_option maxRecDepth 100000
def c0 : CS := ⟨1, [(0, .inp 0 [.i64, .i64, .i64]), (3, .ptr 0 0), (4, .int .i64 (.lit (-1))), (5, .nils), (6, .map 1), (7, .int .i64 (.atm 0))],
  [.cells [.slice 2 0 2 (.rest 5), .slice 3 0 4 (.rest 3), .slice 4 0 2 (.rest 6)] 69,
   .map [] 0,
   .cells [.int .u8 (.lit 1), .str [109], .int .i64 (.lit 0), .str [], .int .i64 (.lit 1), .int .u8 (.lit 4), .str [99], .int .i64 (.lit 0), .str [109], .int .i64 (.lit 1)] 75,
   .cells [.str [97], .nils, .nils, .str [98], .nils, .nils, .str [100], .nils, .nils, .str [101], .nils, .nils] 79,
   .cells [.int .i64 (.lit (-1)), .int .i64 (.lit 0), .bool (.lit false), .int .i64 (.lit 0), .nils, .nils, .int .i64 (.lit (-1)), .int .i64 (.lit 0), .bool (.lit false), .int .i64 (.lit 0), .nils, .nils] 51],
  [(.lt (.atm 0) (.lit 0), false)], .sub (.lit 80) (.atm 0)⟩
def h0 : Hint := ⟨[], [], 0⟩
def c1 : CS := ⟨2, [(0, .inp 0 [.i64, .i64, .i64]), (3, .ptr 0 0), (4, .int .i64 (.atm 1)), (5, .nils), (6, .map 1), (7, .int .i64 (.atm 0))],
  [.cells [.slice 2 0 2 (.rest 5), .slice 3 0 4 (.rest 3), .slice 4 0 2 (.rest 6)] 69,
   .map [] 0,
   .cells [.int .u8 (.lit 1), .str [109], .int .i64 (.lit 0), .str [], .int .i64 (.lit 1), .int .u8 (.lit 4), .str [99], .int .i64 (.lit 0), .str [109], .int .i64 (.lit 1)] 75,
   .cells [.str [97], .nils, .nils, .str [98], .nils, .nils, .str [100], .nils, .nils, .str [101], .nils, .nils] 79,
   .cells [.int .i64 (.atm 1), .int .i64 (.lit 0), .bool (.lit false), .int .i64 (.lit 0), .nils, .nils, .int .i64 (.lit (-1)), .int .i64 (.lit 0), .bool (.lit false), .int .i64 (.lit 0), .nils, .nils] 51],
  [(.lt (.atm 0) (.lit 0), false), (.lt (.atm 1) (.lit 0), false), (.lt (.atm 1) (.lit 4), true)], .sub (.lit 80) (.atm 0)⟩
def h1 : Hint := ⟨[(.eq (.rem (.add (.rem (.inp 0 (.atm 0)) (.lit 4)) (.lit 4)) (.lit 4)) (.atm 1), true)], [], 0⟩
def c2 : CS := ⟨2, [(0, .inp 0 [.i64, .i64, .i64]), (3, .ptr 0 0), (4, .int .i64 (.lit (-1))), (5, .slice 1 0 1 (.rest 1)), (6, .map 2), (7, .int .i64 (.atm 0))],
  [.cells [.slice 3 0 2 (.rest 5), .slice 4 0 4 (.rest 3), .slice 5 0 2 (.rest 6)] 69,
   .cells [.int .i64 (.atm 1)] 3,
   .map [(.int .i64 (.atm 1), .int .i64 (.lit 1), 0)] 0,
   .cells [.int .u8 (.lit 1), .str [109], .int .i64 (.lit 0), .str [], .int .i64 (.lit 1), .int .u8 (.lit 4), .str [99], .int .i64 (.lit 0), .str [109], .int .i64 (.lit 1)] 75,
   .cells [.str [97], .nils, .nils, .str [98], .nils, .nils, .str [100], .nils, .nils, .str [101], .nils, .nils] 79,
   .cells [.int .i64 (.lit (-1)), .int .i64 (.lit 0), .bool (.lit false), .int .i64 (.lit 0), .nils, .nils, .int .i64 (.lit (-1)), .int .i64 (.lit 0), .bool (.lit false), .int .i64 (.lit 0), .slice 6 0 1 (.rest 1), .nils] 51,
   .cells [.int .i64 (.atm 1)] 3],
  [(.lt (.atm 0) (.lit 0), false), (.lt (.atm 1) (.lit 0), false), (.lt (.atm 1) (.lit 4), true)], .sub (.lit 80) (.atm 0)⟩
def h2 : Hint := ⟨[(.eq (.rem (.add (.rem (.inp 0 (.atm 0)) (.lit 4)) (.lit 4)) (.lit 4)) (.atm 1), true)], [], 0⟩
def c3 : CS := ⟨3, [(0, .inp 0 [.i64, .i64, .i64]), (3, .ptr 0 0), (4, .int .i64 (.atm 1)), (5, .slice 1 0 1 (.rest 1)), (6, .map 2), (7, .int .i64 (.atm 0))],
  [.cells [.slice 3 0 2 (.rest 5), .slice 4 0 4 (.rest 3), .slice 5 0 2 (.rest 6)] 69,
   .cells [.int .i64 (.atm 2)] 3,
   .map [(.int .i64 (.atm 2), .int .i64 (.lit 1), 0)] 0,
   .cells [.int .u8 (.lit 1), .str [109], .int .i64 (.lit 0), .str [], .int .i64 (.lit 1), .int .u8 (.lit 4), .str [99], .int .i64 (.lit 0), .str [109], .int .i64 (.lit 1)] 75,
   .cells [.str [97], .nils, .nils, .str [98], .nils, .nils, .str [100], .nils, .nils, .str [101], .nils, .nils] 79,
   .cells [.int .i64 (.atm 1), .int .i64 (.lit 0), .bool (.lit false), .int .i64 (.lit 0), .nils, .nils, .int .i64 (.lit (-1)), .int .i64 (.lit 0), .bool (.lit false), .int .i64 (.lit 0), .slice 6 0 1 (.rest 1), .nils] 51,
   .cells [.int .i64 (.atm 2)] 3],
  [(.lt (.atm 0) (.lit 0), false), (.eq (.atm 1) (.atm 2), false), (.lt (.atm 2) (.lit 0), false), (.lt (.atm 2) (.lit 4), true), (.lt (.atm 1) (.lit 0), false), (.lt (.atm 1) (.lit 4), true)], .sub (.lit 80) (.atm 0)⟩
def h3 : Hint := ⟨[(.eq (.rem (.add (.rem (.inp 0 (.atm 0)) (.lit 4)) (.lit 4)) (.lit 4)) (.atm 1), true), (.eq (.rem (.add (.rem (.inp 0 (.atm 0)) (.lit 4)) (.lit 4)) (.lit 4)) (.atm 2), true)], [], 0⟩
def c4 : CS := ⟨2, [(0, .inp 0 [.i64, .i64, .i64]), (3, .ptr 0 0), (4, .int .i64 (.lit (-1))), (5, .slice 1 0 0 (.rest 1)), (6, .map 2), (7, .int .i64 (.atm 0))],
  [.cells [.slice 3 0 2 (.rest 5), .slice 4 0 4 (.rest 3), .slice 5 0 2 (.rest 6)] 69,
   .cells [] 3,
   .map [(.int .i64 (.atm 1), .int .i64 (.lit 1), 0)] 0,
   .cells [.int .u8 (.lit 1), .str [109], .int .i64 (.lit 0), .str [], .int .i64 (.lit 1), .int .u8 (.lit 4), .str [99], .int .i64 (.lit 0), .str [109], .int .i64 (.lit 1)] 75,
   .cells [.str [97], .nils, .nils, .str [98], .nils, .nils, .str [100], .nils, .nils, .str [101], .nils, .nils] 79,
   .cells [.int .i64 (.lit (-1)), .int .i64 (.lit 0), .bool (.lit false), .int .i64 (.lit 0), .nils, .nils, .int .i64 (.lit (-1)), .int .i64 (.lit 0), .bool (.lit false), .int .i64 (.lit 0), .slice 6 0 0 (.rest 1), .nils] 51,
   .cells [] 3],
  [(.lt (.atm 0) (.lit 0), false), (.lt (.atm 1) (.lit 0), false), (.lt (.atm 1) (.lit 4), true)], .sub (.lit 80) (.atm 0)⟩
def h4 : Hint := ⟨[(.eq (.rem (.add (.rem (.inp 0 (.atm 0)) (.lit 4)) (.lit 4)) (.lit 4)) (.atm 1), true)], [], 0⟩
def c5 : CS := ⟨2, [(0, .inp 0 [.i64, .i64, .i64]), (3, .ptr 0 0), (4, .int .i64 (.lit (-1))), (5, .nils), (6, .map 1), (7, .int .i64 (.atm 0))],
  [.cells [.slice 2 0 2 (.rest 5), .slice 3 0 4 (.rest 3), .slice 4 0 2 (.rest 6)] 69,
   .map [(.int .i64 (.atm 1), .int .i64 (.lit 1), 0)] 0,
   .cells [.int .u8 (.lit 1), .str [109], .int .i64 (.lit 0), .str [], .int .i64 (.lit 1), .int .u8 (.lit 4), .str [99], .int .i64 (.lit 0), .str [109], .int .i64 (.lit 1)] 75,
   .cells [.str [97], .nils, .nils, .str [98], .nils, .nils, .str [100], .nils, .nils, .str [101], .nils, .nils] 79,
   .cells [.int .i64 (.lit (-1)), .int .i64 (.lit 0), .bool (.lit false), .int .i64 (.lit 0), .nils, .nils, .int .i64 (.lit (-1)), .int .i64 (.lit 0), .bool (.lit false), .int .i64 (.lit 0), .nils, .nils] 51],
  [(.lt (.atm 0) (.lit 0), false), (.lt (.atm 1) (.lit 0), false), (.lt (.atm 1) (.lit 4), true)], .sub (.lit 80) (.atm 0)⟩
def h5 : Hint := ⟨[(.eq (.rem (.add (.rem (.inp 0 (.atm 0)) (.lit 4)) (.lit 4)) (.lit 4)) (.atm 1), true)], [], 0⟩
def c6 : CS := ⟨3, [(0, .inp 0 [.i64, .i64, .i64]), (3, .ptr 0 0), (4, .int .i64 (.lit (-1))), (5, .slice 1 0 2 (.rest 1)), (6, .map 2), (7, .int .i64 (.atm 0))],
  [.cells [.slice 3 0 2 (.rest 5), .slice 4 0 4 (.rest 3), .slice 5 0 2 (.rest 6)] 69,
   .cells [.int .i64 (.atm 1), .int .i64 (.atm 2)] 3,
   .map [(.int .i64 (.atm 1), .int .i64 (.lit 1), 0), (.int .i64 (.atm 2), .int .i64 (.lit 1), 0)] 0,
   .cells [.int .u8 (.lit 1), .str [109], .int .i64 (.lit 0), .str [], .int .i64 (.lit 1), .int .u8 (.lit 4), .str [99], .int .i64 (.lit 0), .str [109], .int .i64 (.lit 1)] 75,
   .cells [.str [97], .nils, .nils, .str [98], .nils, .nils, .str [100], .nils, .nils, .str [101], .nils, .nils] 79,
   .cells [.int .i64 (.lit (-1)), .int .i64 (.lit 0), .bool (.lit false), .int .i64 (.lit 0), .nils, .nils, .int .i64 (.lit (-1)), .int .i64 (.lit 0), .bool (.lit false), .int .i64 (.lit 0), .slice 6 0 2 (.rest 1), .nils] 51,
   .cells [.int .i64 (.atm 1), .int .i64 (.atm 2)] 3],
  [(.lt (.atm 0) (.lit 0), false), (.eq (.atm 1) (.atm 2), false), (.lt (.atm 1) (.lit 0), false), (.lt (.atm 1) (.lit 4), true), (.lt (.atm 2) (.lit 0), false), (.lt (.atm 2) (.lit 4), true)], .sub (.lit 80) (.atm 0)⟩
def h6 : Hint := ⟨[(.eq (.rem (.add (.rem (.inp 0 (.atm 0)) (.lit 4)) (.lit 4)) (.lit 4)) (.atm 1), true), (.eq (.rem (.add (.rem (.inp 0 (.atm 0)) (.lit 4)) (.lit 4)) (.lit 4)) (.atm 2), true)], [], 0⟩
def c7 : CS := ⟨3, [(0, .inp 0 [.i64, .i64, .i64]), (3, .ptr 0 0), (4, .int .i64 (.atm 1)), (5, .slice 1 0 0 (.rest 1)), (6, .map 2), (7, .int .i64 (.atm 0))],
  [.cells [.slice 3 0 2 (.rest 5), .slice 4 0 4 (.rest 3), .slice 5 0 2 (.rest 6)] 69,
   .cells [] 3,
   .map [(.int .i64 (.atm 2), .int .i64 (.lit 1), 0)] 0,
   .cells [.int .u8 (.lit 1), .str [109], .int .i64 (.lit 0), .str [], .int .i64 (.lit 1), .int .u8 (.lit 4), .str [99], .int .i64 (.lit 0), .str [109], .int .i64 (.lit 1)] 75,
   .cells [.str [97], .nils, .nils, .str [98], .nils, .nils, .str [100], .nils, .nils, .str [101], .nils, .nils] 79,
   .cells [.int .i64 (.atm 1), .int .i64 (.lit 0), .bool (.lit false), .int .i64 (.lit 0), .nils, .nils, .int .i64 (.lit (-1)), .int .i64 (.lit 0), .bool (.lit false), .int .i64 (.lit 0), .slice 6 0 0 (.rest 1), .nils] 51,
   .cells [] 3],
  [(.lt (.atm 0) (.lit 0), false), (.eq (.atm 1) (.atm 2), false), (.lt (.atm 2) (.lit 0), false), (.lt (.atm 2) (.lit 4), true), (.lt (.atm 1) (.lit 0), false), (.lt (.atm 1) (.lit 4), true)], .sub (.lit 80) (.atm 0)⟩
def h7 : Hint := ⟨[(.eq (.rem (.add (.rem (.inp 0 (.atm 0)) (.lit 4)) (.lit 4)) (.lit 4)) (.atm 1), true), (.eq (.rem (.add (.rem (.inp 0 (.atm 0)) (.lit 4)) (.lit 4)) (.lit 4)) (.atm 2), true)], [], 0⟩
def c8 : CS := ⟨3, [(0, .inp 0 [.i64, .i64, .i64]), (3, .ptr 0 0), (4, .int .i64 (.atm 1)), (5, .nils), (6, .map 1), (7, .int .i64 (.atm 0))],
  [.cells [.slice 2 0 2 (.rest 5), .slice 3 0 4 (.rest 3), .slice 4 0 2 (.rest 6)] 69,
   .map [(.int .i64 (.atm 2), .int .i64 (.lit 1), 0)] 0,
   .cells [.int .u8 (.lit 1), .str [109], .int .i64 (.lit 0), .str [], .int .i64 (.lit 1), .int .u8 (.lit 4), .str [99], .int .i64 (.lit 0), .str [109], .int .i64 (.lit 1)] 75,
   .cells [.str [97], .nils, .nils, .str [98], .nils, .nils, .str [100], .nils, .nils, .str [101], .nils, .nils] 79,
   .cells [.int .i64 (.atm 1), .int .i64 (.lit 0), .bool (.lit false), .int .i64 (.lit 0), .nils, .nils, .int .i64 (.lit (-1)), .int .i64 (.lit 0), .bool (.lit false), .int .i64 (.lit 0), .nils, .nils] 51],
  [(.lt (.atm 0) (.lit 0), false), (.eq (.atm 1) (.atm 2), false), (.lt (.atm 2) (.lit 0), false), (.lt (.atm 2) (.lit 4), true), (.lt (.atm 1) (.lit 0), false), (.lt (.atm 1) (.lit 4), true)], .sub (.lit 80) (.atm 0)⟩
def h8 : Hint := ⟨[(.eq (.rem (.add (.rem (.inp 0 (.atm 0)) (.lit 4)) (.lit 4)) (.lit 4)) (.atm 1), true), (.eq (.rem (.add (.rem (.inp 0 (.atm 0)) (.lit 4)) (.lit 4)) (.lit 4)) (.atm 2), true)], [], 0⟩
def c9 : CS := ⟨2, [(0, .inp 0 [.i64, .i64, .i64]), (3, .ptr 0 0), (4, .int .i64 (.atm 1)), (5, .slice 1 0 0 (.rest 1)), (6, .map 2), (7, .int .i64 (.atm 0))],
  [.cells [.slice 3 0 2 (.rest 5), .slice 4 0 4 (.rest 3), .slice 5 0 2 (.rest 6)] 69,
   .cells [] 3,
   .map [] 0,
   .cells [.int .u8 (.lit 1), .str [109], .int .i64 (.lit 0), .str [], .int .i64 (.lit 1), .int .u8 (.lit 4), .str [99], .int .i64 (.lit 0), .str [109], .int .i64 (.lit 1)] 75,
   .cells [.str [97], .nils, .nils, .str [98], .nils, .nils, .str [100], .nils, .nils, .str [101], .nils, .nils] 79,
   .cells [.int .i64 (.atm 1), .int .i64 (.lit 0), .bool (.lit false), .int .i64 (.lit 0), .nils, .nils, .int .i64 (.lit (-1)), .int .i64 (.lit 0), .bool (.lit false), .int .i64 (.lit 0), .slice 6 0 0 (.exact 0), .nils] 51,
   .cells [] 3],
  [(.lt (.atm 0) (.lit 0), false), (.lt (.atm 1) (.lit 0), false), (.lt (.atm 1) (.lit 4), true)], .sub (.lit 80) (.atm 0)⟩
def h9 : Hint := ⟨[(.eq (.rem (.add (.rem (.inp 0 (.atm 0)) (.lit 4)) (.lit 4)) (.lit 4)) (.atm 1), true)], [], 0⟩
def c10 : CS := ⟨3, [(0, .inp 0 [.i64, .i64, .i64]), (3, .ptr 0 0), (4, .int .i64 (.atm 1)), (5, .slice 1 0 0 (.rest 1)), (6, .map 2), (7, .int .i64 (.atm 0))],
  [.cells [.slice 3 0 2 (.rest 5), .slice 4 0 4 (.rest 3), .slice 5 0 2 (.rest 6)] 69,
   .cells [] 3,
   .map [(.int .i64 (.atm 2), .int .i64 (.lit 1), 0)] 0,
   .cells [.int .u8 (.lit 1), .str [109], .int .i64 (.lit 0), .str [], .int .i64 (.lit 1), .int .u8 (.lit 4), .str [99], .int .i64 (.lit 0), .str [109], .int .i64 (.lit 1)] 75,
   .cells [.str [97], .nils, .nils, .str [98], .nils, .nils, .str [100], .nils, .nils, .str [101], .nils, .nils] 79,
   .cells [.int .i64 (.atm 1), .int .i64 (.lit 0), .bool (.lit false), .int .i64 (.lit 0), .nils, .nils, .int .i64 (.lit (-1)), .int .i64 (.lit 0), .bool (.lit false), .int .i64 (.lit 0), .slice 6 0 0 (.exact 0), .nils] 51,
   .cells [] 3],
  [(.lt (.atm 0) (.lit 0), false), (.eq (.atm 1) (.atm 2), false), (.lt (.atm 2) (.lit 0), false), (.lt (.atm 2) (.lit 4), true), (.lt (.atm 1) (.lit 0), false), (.lt (.atm 1) (.lit 4), true)], .sub (.lit 80) (.atm 0)⟩
def h10 : Hint := ⟨[(.eq (.rem (.add (.rem (.inp 0 (.atm 0)) (.lit 4)) (.lit 4)) (.lit 4)) (.atm 1), true), (.eq (.rem (.add (.rem (.inp 0 (.atm 0)) (.lit 4)) (.lit 4)) (.lit 4)) (.atm 2), true)], [], 0⟩
def c11 : CS := ⟨2, [(0, .inp 0 [.i64, .i64, .i64]), (3, .ptr 0 0), (4, .int .i64 (.lit (-1))), (5, .slice 1 0 0 (.rest 1)), (6, .map 2), (7, .int .i64 (.atm 0))],
  [.cells [.slice 3 0 2 (.rest 5), .slice 4 0 4 (.rest 3), .slice 5 0 2 (.rest 6)] 69,
   .cells [] 3,
   .map [(.int .i64 (.atm 1), .int .i64 (.lit 1), 0)] 0,
   .cells [.int .u8 (.lit 1), .str [109], .int .i64 (.lit 0), .str [], .int .i64 (.lit 1), .int .u8 (.lit 4), .str [99], .int .i64 (.lit 0), .str [109], .int .i64 (.lit 1)] 75,
   .cells [.str [97], .nils, .nils, .str [98], .nils, .nils, .str [100], .nils, .nils, .str [101], .nils, .nils] 79,
   .cells [.int .i64 (.lit (-1)), .int .i64 (.lit 0), .bool (.lit false), .int .i64 (.lit 0), .nils, .nils, .int .i64 (.lit (-1)), .int .i64 (.lit 0), .bool (.lit false), .int .i64 (.lit 0), .slice 6 0 0 (.exact 0), .nils] 51,
   .cells [] 3],
  [(.lt (.atm 0) (.lit 0), false), (.lt (.atm 1) (.lit 0), false), (.lt (.atm 1) (.lit 4), true)], .sub (.lit 80) (.atm 0)⟩
def h11 : Hint := ⟨[(.eq (.rem (.add (.rem (.inp 0 (.atm 0)) (.lit 4)) (.lit 4)) (.lit 4)) (.atm 1), true)], [], 0⟩
def c12 : CS := ⟨4, [(0, .inp 0 [.i64, .i64, .i64]), (3, .ptr 0 0), (4, .int .i64 (.atm 1)), (5, .slice 1 0 2 (.rest 1)), (6, .map 2), (7, .int .i64 (.atm 0))],
  [.cells [.slice 3 0 2 (.rest 5), .slice 4 0 4 (.rest 3), .slice 5 0 2 (.rest 6)] 69,
   .cells [.int .i64 (.atm 2), .int .i64 (.atm 3)] 3,
   .map [(.int .i64 (.atm 2), .int .i64 (.lit 1), 0), (.int .i64 (.atm 3), .int .i64 (.lit 1), 0)] 0,
   .cells [.int .u8 (.lit 1), .str [109], .int .i64 (.lit 0), .str [], .int .i64 (.lit 1), .int .u8 (.lit 4), .str [99], .int .i64 (.lit 0), .str [109], .int .i64 (.lit 1)] 75,
   .cells [.str [97], .nils, .nils, .str [98], .nils, .nils, .str [100], .nils, .nils, .str [101], .nils, .nils] 79,
   .cells [.int .i64 (.atm 1), .int .i64 (.lit 0), .bool (.lit false), .int .i64 (.lit 0), .nils, .nils, .int .i64 (.lit (-1)), .int .i64 (.lit 0), .bool (.lit false), .int .i64 (.lit 0), .slice 6 0 2 (.rest 1), .nils] 51,
   .cells [.int .i64 (.atm 2), .int .i64 (.atm 3)] 3],
  [(.lt (.atm 0) (.lit 0), false), (.eq (.atm 1) (.atm 3), false), (.eq (.atm 1) (.atm 2), false), (.eq (.atm 2) (.atm 3), false), (.lt (.atm 2) (.lit 0), false), (.lt (.atm 2) (.lit 4), true), (.lt (.atm 3) (.lit 0), false), (.lt (.atm 3) (.lit 4), true), (.lt (.atm 1) (.lit 0), false), (.lt (.atm 1) (.lit 4), true)], .sub (.lit 80) (.atm 0)⟩
def h12 : Hint := ⟨[(.eq (.rem (.add (.rem (.inp 0 (.atm 0)) (.lit 4)) (.lit 4)) (.lit 4)) (.atm 1), true), (.eq (.rem (.add (.rem (.inp 0 (.atm 0)) (.lit 4)) (.lit 4)) (.lit 4)) (.atm 2), true), (.eq (.rem (.add (.rem (.inp 0 (.atm 0)) (.lit 4)) (.lit 4)) (.lit 4)) (.atm 3), true)], [], 0⟩
def c13 : CS := ⟨3, [(0, .inp 0 [.i64, .i64, .i64]), (3, .ptr 0 0), (4, .int .i64 (.lit (-1))), (5, .slice 1 0 1 (.rest 1)), (6, .map 2), (7, .int .i64 (.atm 0))],
  [.cells [.slice 3 0 2 (.rest 5), .slice 4 0 4 (.rest 3), .slice 5 0 2 (.rest 6)] 69,
   .cells [.int .i64 (.atm 1)] 3,
   .map [(.int .i64 (.atm 2), .int .i64 (.lit 1), 0), (.int .i64 (.atm 1), .int .i64 (.lit 1), 0)] 0,
   .cells [.int .u8 (.lit 1), .str [109], .int .i64 (.lit 0), .str [], .int .i64 (.lit 1), .int .u8 (.lit 4), .str [99], .int .i64 (.lit 0), .str [109], .int .i64 (.lit 1)] 75,
   .cells [.str [97], .nils, .nils, .str [98], .nils, .nils, .str [100], .nils, .nils, .str [101], .nils, .nils] 79,
   .cells [.int .i64 (.lit (-1)), .int .i64 (.lit 0), .bool (.lit false), .int .i64 (.lit 0), .nils, .nils, .int .i64 (.lit (-1)), .int .i64 (.lit 0), .bool (.lit false), .int .i64 (.lit 0), .slice 6 0 1 (.rest 1), .nils] 51,
   .cells [.int .i64 (.atm 1)] 3],
  [(.lt (.atm 0) (.lit 0), false), (.eq (.atm 1) (.atm 2), false), (.lt (.atm 2) (.lit 0), false), (.lt (.atm 2) (.lit 4), true), (.lt (.atm 1) (.lit 0), false), (.lt (.atm 1) (.lit 4), true)], .sub (.lit 80) (.atm 0)⟩
def h13 : Hint := ⟨[(.eq (.rem (.add (.rem (.inp 0 (.atm 0)) (.lit 4)) (.lit 4)) (.lit 4)) (.atm 1), true), (.eq (.rem (.add (.rem (.inp 0 (.atm 0)) (.lit 4)) (.lit 4)) (.lit 4)) (.atm 2), true)], [], 0⟩
def c14 : CS := ⟨3, [(0, .inp 0 [.i64, .i64, .i64]), (3, .ptr 0 0), (4, .int .i64 (.lit (-1))), (5, .nils), (6, .map 1), (7, .int .i64 (.atm 0))],
  [.cells [.slice 2 0 2 (.rest 5), .slice 3 0 4 (.rest 3), .slice 4 0 2 (.rest 6)] 69,
   .map [(.int .i64 (.atm 1), .int .i64 (.lit 1), 0), (.int .i64 (.atm 2), .int .i64 (.lit 1), 0)] 0,
   .cells [.int .u8 (.lit 1), .str [109], .int .i64 (.lit 0), .str [], .int .i64 (.lit 1), .int .u8 (.lit 4), .str [99], .int .i64 (.lit 0), .str [109], .int .i64 (.lit 1)] 75,
   .cells [.str [97], .nils, .nils, .str [98], .nils, .nils, .str [100], .nils, .nils, .str [101], .nils, .nils] 79,
   .cells [.int .i64 (.lit (-1)), .int .i64 (.lit 0), .bool (.lit false), .int .i64 (.lit 0), .nils, .nils, .int .i64 (.lit (-1)), .int .i64 (.lit 0), .bool (.lit false), .int .i64 (.lit 0), .nils, .nils] 51],
  [(.lt (.atm 0) (.lit 0), false), (.eq (.atm 1) (.atm 2), false), (.lt (.atm 1) (.lit 0), false), (.lt (.atm 1) (.lit 4), true), (.lt (.atm 2) (.lit 0), false), (.lt (.atm 2) (.lit 4), true)], .sub (.lit 80) (.atm 0)⟩
def h14 : Hint := ⟨[(.eq (.rem (.add (.rem (.inp 0 (.atm 0)) (.lit 4)) (.lit 4)) (.lit 4)) (.atm 1), true), (.eq (.rem (.add (.rem (.inp 0 (.atm 0)) (.lit 4)) (.lit 4)) (.lit 4)) (.atm 2), true)], [], 0⟩
def c15 : CS := ⟨1, [(0, .inp 0 [.i64, .i64, .i64]), (3, .ptr 0 0), (4, .int .i64 (.lit (-1))), (5, .slice 1 0 0 (.rest 1)), (6, .map 2), (7, .int .i64 (.atm 0))],
  [.cells [.slice 3 0 2 (.rest 5), .slice 4 0 4 (.rest 3), .slice 5 0 2 (.rest 6)] 69,
   .cells [] 3,
   .map [] 0,
   .cells [.int .u8 (.lit 1), .str [109], .int .i64 (.lit 0), .str [], .int .i64 (.lit 1), .int .u8 (.lit 4), .str [99], .int .i64 (.lit 0), .str [109], .int .i64 (.lit 1)] 75,
   .cells [.str [97], .nils, .nils, .str [98], .nils, .nils, .str [100], .nils, .nils, .str [101], .nils, .nils] 79,
   .cells [.int .i64 (.lit (-1)), .int .i64 (.lit 0), .bool (.lit false), .int .i64 (.lit 0), .nils, .nils, .int .i64 (.lit (-1)), .int .i64 (.lit 0), .bool (.lit false), .int .i64 (.lit 0), .slice 6 0 0 (.exact 0), .nils] 51,
   .cells [] 3],
  [(.lt (.atm 0) (.lit 0), false)], .sub (.lit 80) (.atm 0)⟩
def h15 : Hint := ⟨[], [], 0⟩
def c16 : CS := ⟨4, [(0, .inp 0 [.i64, .i64, .i64]), (3, .ptr 0 0), (4, .int .i64 (.lit (-1))), (5, .slice 1 0 3 (.rest 1)), (6, .map 2), (7, .int .i64 (.atm 0))],
  [.cells [.slice 3 0 2 (.rest 5), .slice 4 0 4 (.rest 3), .slice 5 0 2 (.rest 6)] 69,
   .cells [.int .i64 (.atm 1), .int .i64 (.atm 2), .int .i64 (.atm 3)] 3,
   .map [(.int .i64 (.atm 1), .int .i64 (.lit 1), 0), (.int .i64 (.atm 2), .int .i64 (.lit 1), 0), (.int .i64 (.atm 3), .int .i64 (.lit 1), 0)] 0,
   .cells [.int .u8 (.lit 1), .str [109], .int .i64 (.lit 0), .str [], .int .i64 (.lit 1), .int .u8 (.lit 4), .str [99], .int .i64 (.lit 0), .str [109], .int .i64 (.lit 1)] 75,
   .cells [.str [97], .nils, .nils, .str [98], .nils, .nils, .str [100], .nils, .nils, .str [101], .nils, .nils] 79,
   .cells [.int .i64 (.lit (-1)), .int .i64 (.lit 0), .bool (.lit false), .int .i64 (.lit 0), .nils, .nils, .int .i64 (.lit (-1)), .int .i64 (.lit 0), .bool (.lit false), .int .i64 (.lit 0), .slice 6 0 3 (.rest 1), .nils] 51,
   .cells [.int .i64 (.atm 1), .int .i64 (.atm 2), .int .i64 (.atm 3)] 3],
  [(.lt (.atm 0) (.lit 0), false), (.eq (.atm 2) (.atm 3), false), (.eq (.atm 1) (.atm 3), false), (.eq (.atm 1) (.atm 2), false), (.lt (.atm 1) (.lit 0), false), (.lt (.atm 1) (.lit 4), true), (.lt (.atm 2) (.lit 0), false), (.lt (.atm 2) (.lit 4), true), (.lt (.atm 3) (.lit 0), false), (.lt (.atm 3) (.lit 4), true)], .sub (.lit 80) (.atm 0)⟩
def h16 : Hint := ⟨[(.eq (.rem (.add (.rem (.inp 0 (.atm 0)) (.lit 4)) (.lit 4)) (.lit 4)) (.atm 1), true), (.eq (.rem (.add (.rem (.inp 0 (.atm 0)) (.lit 4)) (.lit 4)) (.lit 4)) (.atm 2), true), (.eq (.rem (.add (.rem (.inp 0 (.atm 0)) (.lit 4)) (.lit 4)) (.lit 4)) (.atm 3), true)], [], 0⟩
def c17 : CS := ⟨4, [(0, .inp 0 [.i64, .i64, .i64]), (3, .ptr 0 0), (4, .int .i64 (.atm 1)), (5, .slice 1 0 1 (.rest 1)), (6, .map 2), (7, .int .i64 (.atm 0))],
  [.cells [.slice 3 0 2 (.rest 5), .slice 4 0 4 (.rest 3), .slice 5 0 2 (.rest 6)] 69,
   .cells [.int .i64 (.atm 2)] 3,
   .map [(.int .i64 (.atm 3), .int .i64 (.lit 1), 0), (.int .i64 (.atm 2), .int .i64 (.lit 1), 0)] 0,
   .cells [.int .u8 (.lit 1), .str [109], .int .i64 (.lit 0), .str [], .int .i64 (.lit 1), .int .u8 (.lit 4), .str [99], .int .i64 (.lit 0), .str [109], .int .i64 (.lit 1)] 75,
   .cells [.str [97], .nils, .nils, .str [98], .nils, .nils, .str [100], .nils, .nils, .str [101], .nils, .nils] 79,
   .cells [.int .i64 (.atm 1), .int .i64 (.lit 0), .bool (.lit false), .int .i64 (.lit 0), .nils, .nils, .int .i64 (.lit (-1)), .int .i64 (.lit 0), .bool (.lit false), .int .i64 (.lit 0), .slice 6 0 1 (.rest 1), .nils] 51,
   .cells [.int .i64 (.atm 2)] 3],
  [(.lt (.atm 0) (.lit 0), false), (.eq (.atm 1) (.atm 2), false), (.eq (.atm 1) (.atm 3), false), (.eq (.atm 2) (.atm 3), false), (.lt (.atm 3) (.lit 0), false), (.lt (.atm 3) (.lit 4), true), (.lt (.atm 2) (.lit 0), false), (.lt (.atm 2) (.lit 4), true), (.lt (.atm 1) (.lit 0), false), (.lt (.atm 1) (.lit 4), true)], .sub (.lit 80) (.atm 0)⟩
def h17 : Hint := ⟨[(.eq (.rem (.add (.rem (.inp 0 (.atm 0)) (.lit 4)) (.lit 4)) (.lit 4)) (.atm 1), true), (.eq (.rem (.add (.rem (.inp 0 (.atm 0)) (.lit 4)) (.lit 4)) (.lit 4)) (.atm 2), true), (.eq (.rem (.add (.rem (.inp 0 (.atm 0)) (.lit 4)) (.lit 4)) (.lit 4)) (.atm 3), true)], [], 0⟩
def c18 : CS := ⟨4, [(0, .inp 0 [.i64, .i64, .i64]), (3, .ptr 0 0), (4, .int .i64 (.atm 1)), (5, .nils), (6, .map 1), (7, .int .i64 (.atm 0))],
  [.cells [.slice 2 0 2 (.rest 5), .slice 3 0 4 (.rest 3), .slice 4 0 2 (.rest 6)] 69,
   .map [(.int .i64 (.atm 2), .int .i64 (.lit 1), 0), (.int .i64 (.atm 3), .int .i64 (.lit 1), 0)] 0,
   .cells [.int .u8 (.lit 1), .str [109], .int .i64 (.lit 0), .str [], .int .i64 (.lit 1), .int .u8 (.lit 4), .str [99], .int .i64 (.lit 0), .str [109], .int .i64 (.lit 1)] 75,
   .cells [.str [97], .nils, .nils, .str [98], .nils, .nils, .str [100], .nils, .nils, .str [101], .nils, .nils] 79,
   .cells [.int .i64 (.atm 1), .int .i64 (.lit 0), .bool (.lit false), .int .i64 (.lit 0), .nils, .nils, .int .i64 (.lit (-1)), .int .i64 (.lit 0), .bool (.lit false), .int .i64 (.lit 0), .nils, .nils] 51],
  [(.lt (.atm 0) (.lit 0), false), (.eq (.atm 1) (.atm 3), false), (.eq (.atm 1) (.atm 2), false), (.eq (.atm 2) (.atm 3), false), (.lt (.atm 2) (.lit 0), false), (.lt (.atm 2) (.lit 4), true), (.lt (.atm 3) (.lit 0), false), (.lt (.atm 3) (.lit 4), true), (.lt (.atm 1) (.lit 0), false), (.lt (.atm 1) (.lit 4), true)], .sub (.lit 80) (.atm 0)⟩
def h18 : Hint := ⟨[(.eq (.rem (.add (.rem (.inp 0 (.atm 0)) (.lit 4)) (.lit 4)) (.lit 4)) (.atm 1), true), (.eq (.rem (.add (.rem (.inp 0 (.atm 0)) (.lit 4)) (.lit 4)) (.lit 4)) (.atm 2), true), (.eq (.rem (.add (.rem (.inp 0 (.atm 0)) (.lit 4)) (.lit 4)) (.lit 4)) (.atm 3), true)], [], 0⟩
def c19 : CS := ⟨3, [(0, .inp 0 [.i64, .i64, .i64]), (3, .ptr 0 0), (4, .int .i64 (.lit (-1))), (5, .slice 1 0 0 (.rest 1)), (6, .map 2), (7, .int .i64 (.atm 0))],
  [.cells [.slice 3 0 2 (.rest 5), .slice 4 0 4 (.rest 3), .slice 5 0 2 (.rest 6)] 69,
   .cells [] 3,
   .map [(.int .i64 (.atm 1), .int .i64 (.lit 1), 0), (.int .i64 (.atm 2), .int .i64 (.lit 1), 0)] 0,
   .cells [.int .u8 (.lit 1), .str [109], .int .i64 (.lit 0), .str [], .int .i64 (.lit 1), .int .u8 (.lit 4), .str [99], .int .i64 (.lit 0), .str [109], .int .i64 (.lit 1)] 75,
   .cells [.str [97], .nils, .nils, .str [98], .nils, .nils, .str [100], .nils, .nils, .str [101], .nils, .nils] 79,
   .cells [.int .i64 (.lit (-1)), .int .i64 (.lit 0), .bool (.lit false), .int .i64 (.lit 0), .nils, .nils, .int .i64 (.lit (-1)), .int .i64 (.lit 0), .bool (.lit false), .int .i64 (.lit 0), .slice 6 0 0 (.rest 1), .nils] 51,
   .cells [] 3],
  [(.lt (.atm 0) (.lit 0), false), (.eq (.atm 1) (.atm 2), false), (.lt (.atm 1) (.lit 0), false), (.lt (.atm 1) (.lit 4), true), (.lt (.atm 2) (.lit 0), false), (.lt (.atm 2) (.lit 4), true)], .sub (.lit 80) (.atm 0)⟩
def h19 : Hint := ⟨[(.eq (.rem (.add (.rem (.inp 0 (.atm 0)) (.lit 4)) (.lit 4)) (.lit 4)) (.atm 1), true), (.eq (.rem (.add (.rem (.inp 0 (.atm 0)) (.lit 4)) (.lit 4)) (.lit 4)) (.atm 2), true)], [], 0⟩
def c20 : CS := ⟨5, [(0, .inp 0 [.i64, .i64, .i64]), (3, .ptr 0 0), (4, .int .i64 (.atm 1)), (5, .slice 1 0 3 (.rest 1)), (6, .map 2), (7, .int .i64 (.atm 0))],
  [.cells [.slice 3 0 2 (.rest 5), .slice 4 0 4 (.rest 3), .slice 5 0 2 (.rest 6)] 69,
   .cells [.int .i64 (.atm 2), .int .i64 (.atm 3), .int .i64 (.atm 4)] 3,
   .map [(.int .i64 (.atm 2), .int .i64 (.lit 1), 0), (.int .i64 (.atm 3), .int .i64 (.lit 1), 0), (.int .i64 (.atm 4), .int .i64 (.lit 1), 0)] 0,
   .cells [.int .u8 (.lit 1), .str [109], .int .i64 (.lit 0), .str [], .int .i64 (.lit 1), .int .u8 (.lit 4), .str [99], .int .i64 (.lit 0), .str [109], .int .i64 (.lit 1)] 75,
   .cells [.str [97], .nils, .nils, .str [98], .nils, .nils, .str [100], .nils, .nils, .str [101], .nils, .nils] 79,
   .cells [.int .i64 (.atm 1), .int .i64 (.lit 0), .bool (.lit false), .int .i64 (.lit 0), .nils, .nils, .int .i64 (.lit (-1)), .int .i64 (.lit 0), .bool (.lit false), .int .i64 (.lit 0), .slice 6 0 3 (.rest 1), .nils] 51,
   .cells [.int .i64 (.atm 2), .int .i64 (.atm 3), .int .i64 (.atm 4)] 3],
  [(.lt (.atm 0) (.lit 0), false), (.eq (.atm 1) (.atm 4), false), (.eq (.atm 1) (.atm 3), false), (.eq (.atm 1) (.atm 2), false), (.eq (.atm 3) (.atm 4), false), (.eq (.atm 2) (.atm 4), false), (.eq (.atm 2) (.atm 3), false), (.lt (.atm 2) (.lit 0), false), (.lt (.atm 2) (.lit 4), true), (.lt (.atm 3) (.lit 0), false), (.lt (.atm 3) (.lit 4), true), (.lt (.atm 4) (.lit 0), false), (.lt (.atm 4) (.lit 4), true), (.lt (.atm 1) (.lit 0), false), (.lt (.atm 1) (.lit 4), true)], .sub (.lit 80) (.atm 0)⟩
def h20 : Hint := ⟨[(.eq (.rem (.add (.rem (.inp 0 (.atm 0)) (.lit 4)) (.lit 4)) (.lit 4)) (.atm 1), true), (.eq (.rem (.add (.rem (.inp 0 (.atm 0)) (.lit 4)) (.lit 4)) (.lit 4)) (.atm 2), true), (.eq (.rem (.add (.rem (.inp 0 (.atm 0)) (.lit 4)) (.lit 4)) (.lit 4)) (.atm 3), true), (.eq (.rem (.add (.rem (.inp 0 (.atm 0)) (.lit 4)) (.lit 4)) (.lit 4)) (.atm 4), true)], [.rem (.add (.rem (.inp 0 (.atm 0)) (.lit 4)) (.lit 4)) (.lit 4), .atm 1, .atm 2, .atm 3, .atm 4], 4⟩
def c21 : CS := ⟨4, [(0, .inp 0 [.i64, .i64, .i64]), (3, .ptr 0 0), (4, .int .i64 (.lit (-1))), (5, .slice 1 0 2 (.rest 1)), (6, .map 2), (7, .int .i64 (.atm 0))],
  [.cells [.slice 3 0 2 (.rest 5), .slice 4 0 4 (.rest 3), .slice 5 0 2 (.rest 6)] 69,
   .cells [.int .i64 (.atm 1), .int .i64 (.atm 2)] 3,
   .map [(.int .i64 (.atm 3), .int .i64 (.lit 1), 0), (.int .i64 (.atm 1), .int .i64 (.lit 1), 0), (.int .i64 (.atm 2), .int .i64 (.lit 1), 0)] 0,
   .cells [.int .u8 (.lit 1), .str [109], .int .i64 (.lit 0), .str [], .int .i64 (.lit 1), .int .u8 (.lit 4), .str [99], .int .i64 (.lit 0), .str [109], .int .i64 (.lit 1)] 75,
   .cells [.str [97], .nils, .nils, .str [98], .nils, .nils, .str [100], .nils, .nils, .str [101], .nils, .nils] 79,
   .cells [.int .i64 (.lit (-1)), .int .i64 (.lit 0), .bool (.lit false), .int .i64 (.lit 0), .nils, .nils, .int .i64 (.lit (-1)), .int .i64 (.lit 0), .bool (.lit false), .int .i64 (.lit 0), .slice 6 0 2 (.rest 1), .nils] 51,
   .cells [.int .i64 (.atm 1), .int .i64 (.atm 2)] 3],
  [(.lt (.atm 0) (.lit 0), false), (.eq (.atm 1) (.atm 2), false), (.eq (.atm 2) (.atm 3), false), (.eq (.atm 1) (.atm 3), false), (.lt (.atm 3) (.lit 0), false), (.lt (.atm 3) (.lit 4), true), (.lt (.atm 1) (.lit 0), false), (.lt (.atm 1) (.lit 4), true), (.lt (.atm 2) (.lit 0), false), (.lt (.atm 2) (.lit 4), true)], .sub (.lit 80) (.atm 0)⟩
def h21 : Hint := ⟨[(.eq (.rem (.add (.rem (.inp 0 (.atm 0)) (.lit 4)) (.lit 4)) (.lit 4)) (.atm 1), true), (.eq (.rem (.add (.rem (.inp 0 (.atm 0)) (.lit 4)) (.lit 4)) (.lit 4)) (.atm 2), true), (.eq (.rem (.add (.rem (.inp 0 (.atm 0)) (.lit 4)) (.lit 4)) (.lit 4)) (.atm 3), true)], [], 0⟩
def c22 : CS := ⟨4, [(0, .inp 0 [.i64, .i64, .i64]), (3, .ptr 0 0), (4, .int .i64 (.lit (-1))), (5, .nils), (6, .map 1), (7, .int .i64 (.atm 0))],
  [.cells [.slice 2 0 2 (.rest 5), .slice 3 0 4 (.rest 3), .slice 4 0 2 (.rest 6)] 69,
   .map [(.int .i64 (.atm 1), .int .i64 (.lit 1), 0), (.int .i64 (.atm 2), .int .i64 (.lit 1), 0), (.int .i64 (.atm 3), .int .i64 (.lit 1), 0)] 0,
   .cells [.int .u8 (.lit 1), .str [109], .int .i64 (.lit 0), .str [], .int .i64 (.lit 1), .int .u8 (.lit 4), .str [99], .int .i64 (.lit 0), .str [109], .int .i64 (.lit 1)] 75,
   .cells [.str [97], .nils, .nils, .str [98], .nils, .nils, .str [100], .nils, .nils, .str [101], .nils, .nils] 79,
   .cells [.int .i64 (.lit (-1)), .int .i64 (.lit 0), .bool (.lit false), .int .i64 (.lit 0), .nils, .nils, .int .i64 (.lit (-1)), .int .i64 (.lit 0), .bool (.lit false), .int .i64 (.lit 0), .nils, .nils] 51],
  [(.lt (.atm 0) (.lit 0), false), (.eq (.atm 2) (.atm 3), false), (.eq (.atm 1) (.atm 3), false), (.eq (.atm 1) (.atm 2), false), (.lt (.atm 1) (.lit 0), false), (.lt (.atm 1) (.lit 4), true), (.lt (.atm 2) (.lit 0), false), (.lt (.atm 2) (.lit 4), true), (.lt (.atm 3) (.lit 0), false), (.lt (.atm 3) (.lit 4), true)], .sub (.lit 80) (.atm 0)⟩
def h22 : Hint := ⟨[(.eq (.rem (.add (.rem (.inp 0 (.atm 0)) (.lit 4)) (.lit 4)) (.lit 4)) (.atm 1), true), (.eq (.rem (.add (.rem (.inp 0 (.atm 0)) (.lit 4)) (.lit 4)) (.lit 4)) (.atm 2), true), (.eq (.rem (.add (.rem (.inp 0 (.atm 0)) (.lit 4)) (.lit 4)) (.lit 4)) (.atm 3), true)], [], 0⟩
def c23 : CS := ⟨4, [(0, .inp 0 [.i64, .i64, .i64]), (3, .ptr 0 0), (4, .int .i64 (.atm 1)), (5, .slice 1 0 0 (.rest 1)), (6, .map 2), (7, .int .i64 (.atm 0))],
  [.cells [.slice 3 0 2 (.rest 5), .slice 4 0 4 (.rest 3), .slice 5 0 2 (.rest 6)] 69,
   .cells [] 3,
   .map [(.int .i64 (.atm 2), .int .i64 (.lit 1), 0), (.int .i64 (.atm 3), .int .i64 (.lit 1), 0)] 0,
   .cells [.int .u8 (.lit 1), .str [109], .int .i64 (.lit 0), .str [], .int .i64 (.lit 1), .int .u8 (.lit 4), .str [99], .int .i64 (.lit 0), .str [109], .int .i64 (.lit 1)] 75,
   .cells [.str [97], .nils, .nils, .str [98], .nils, .nils, .str [100], .nils, .nils, .str [101], .nils, .nils] 79,
   .cells [.int .i64 (.atm 1), .int .i64 (.lit 0), .bool (.lit false), .int .i64 (.lit 0), .nils, .nils, .int .i64 (.lit (-1)), .int .i64 (.lit 0), .bool (.lit false), .int .i64 (.lit 0), .slice 6 0 0 (.rest 1), .nils] 51,
   .cells [] 3],
  [(.lt (.atm 0) (.lit 0), false), (.eq (.atm 1) (.atm 3), false), (.eq (.atm 1) (.atm 2), false), (.eq (.atm 2) (.atm 3), false), (.lt (.atm 2) (.lit 0), false), (.lt (.atm 2) (.lit 4), true), (.lt (.atm 3) (.lit 0), false), (.lt (.atm 3) (.lit 4), true), (.lt (.atm 1) (.lit 0), false), (.lt (.atm 1) (.lit 4), true)], .sub (.lit 80) (.atm 0)⟩
def h23 : Hint := ⟨[(.eq (.rem (.add (.rem (.inp 0 (.atm 0)) (.lit 4)) (.lit 4)) (.lit 4)) (.atm 1), true), (.eq (.rem (.add (.rem (.inp 0 (.atm 0)) (.lit 4)) (.lit 4)) (.lit 4)) (.atm 2), true), (.eq (.rem (.add (.rem (.inp 0 (.atm 0)) (.lit 4)) (.lit 4)) (.lit 4)) (.atm 3), true)], [], 0⟩
def c24 : CS := ⟨4, [(0, .inp 0 [.i64, .i64, .i64]), (3, .ptr 0 0), (4, .int .i64 (.lit (-1))), (5, .slice 1 0 1 (.rest 1)), (6, .map 2), (7, .int .i64 (.atm 0))],
  [.cells [.slice 3 0 2 (.rest 5), .slice 4 0 4 (.rest 3), .slice 5 0 2 (.rest 6)] 69,
   .cells [.int .i64 (.atm 1)] 3,
   .map [(.int .i64 (.atm 2), .int .i64 (.lit 1), 0), (.int .i64 (.atm 3), .int .i64 (.lit 1), 0), (.int .i64 (.atm 1), .int .i64 (.lit 1), 0)] 0,
   .cells [.int .u8 (.lit 1), .str [109], .int .i64 (.lit 0), .str [], .int .i64 (.lit 1), .int .u8 (.lit 4), .str [99], .int .i64 (.lit 0), .str [109], .int .i64 (.lit 1)] 75,
   .cells [.str [97], .nils, .nils, .str [98], .nils, .nils, .str [100], .nils, .nils, .str [101], .nils, .nils] 79,
   .cells [.int .i64 (.lit (-1)), .int .i64 (.lit 0), .bool (.lit false), .int .i64 (.lit 0), .nils, .nils, .int .i64 (.lit (-1)), .int .i64 (.lit 0), .bool (.lit false), .int .i64 (.lit 0), .slice 6 0 1 (.rest 1), .nils] 51,
   .cells [.int .i64 (.atm 1)] 3],
  [(.lt (.atm 0) (.lit 0), false), (.eq (.atm 1) (.atm 3), false), (.eq (.atm 1) (.atm 2), false), (.eq (.atm 2) (.atm 3), false), (.lt (.atm 2) (.lit 0), false), (.lt (.atm 2) (.lit 4), true), (.lt (.atm 3) (.lit 0), false), (.lt (.atm 3) (.lit 4), true), (.lt (.atm 1) (.lit 0), false), (.lt (.atm 1) (.lit 4), true)], .sub (.lit 80) (.atm 0)⟩
def h24 : Hint := ⟨[(.eq (.rem (.add (.rem (.inp 0 (.atm 0)) (.lit 4)) (.lit 4)) (.lit 4)) (.atm 1), true), (.eq (.rem (.add (.rem (.inp 0 (.atm 0)) (.lit 4)) (.lit 4)) (.lit 4)) (.atm 2), true), (.eq (.rem (.add (.rem (.inp 0 (.atm 0)) (.lit 4)) (.lit 4)) (.lit 4)) (.atm 3), true)], [], 0⟩
def c25 : CS := ⟨4, [(0, .inp 0 [.i64, .i64, .i64]), (3, .ptr 0 0), (4, .int .i64 (.atm 1)), (5, .slice 1 0 0 (.rest 1)), (6, .map 2), (7, .int .i64 (.atm 0))],
  [.cells [.slice 3 0 2 (.rest 5), .slice 4 0 4 (.rest 3), .slice 5 0 2 (.rest 6)] 69,
   .cells [] 3,
   .map [(.int .i64 (.atm 2), .int .i64 (.lit 1), 0), (.int .i64 (.atm 3), .int .i64 (.lit 1), 0)] 0,
   .cells [.int .u8 (.lit 1), .str [109], .int .i64 (.lit 0), .str [], .int .i64 (.lit 1), .int .u8 (.lit 4), .str [99], .int .i64 (.lit 0), .str [109], .int .i64 (.lit 1)] 75,
   .cells [.str [97], .nils, .nils, .str [98], .nils, .nils, .str [100], .nils, .nils, .str [101], .nils, .nils] 79,
   .cells [.int .i64 (.atm 1), .int .i64 (.lit 0), .bool (.lit false), .int .i64 (.lit 0), .nils, .nils, .int .i64 (.lit (-1)), .int .i64 (.lit 0), .bool (.lit false), .int .i64 (.lit 0), .slice 6 0 0 (.exact 0), .nils] 51,
   .cells [] 3],
  [(.lt (.atm 0) (.lit 0), false), (.eq (.atm 1) (.atm 3), false), (.eq (.atm 1) (.atm 2), false), (.eq (.atm 2) (.atm 3), false), (.lt (.atm 2) (.lit 0), false), (.lt (.atm 2) (.lit 4), true), (.lt (.atm 3) (.lit 0), false), (.lt (.atm 3) (.lit 4), true), (.lt (.atm 1) (.lit 0), false), (.lt (.atm 1) (.lit 4), true)], .sub (.lit 80) (.atm 0)⟩
def h25 : Hint := ⟨[(.eq (.rem (.add (.rem (.inp 0 (.atm 0)) (.lit 4)) (.lit 4)) (.lit 4)) (.atm 1), true), (.eq (.rem (.add (.rem (.inp 0 (.atm 0)) (.lit 4)) (.lit 4)) (.lit 4)) (.atm 2), true), (.eq (.rem (.add (.rem (.inp 0 (.atm 0)) (.lit 4)) (.lit 4)) (.lit 4)) (.atm 3), true)], [], 0⟩
def c26 : CS := ⟨3, [(0, .inp 0 [.i64, .i64, .i64]), (3, .ptr 0 0), (4, .int .i64 (.lit (-1))), (5, .slice 1 0 0 (.rest 1)), (6, .map 2), (7, .int .i64 (.atm 0))],
  [.cells [.slice 3 0 2 (.rest 5), .slice 4 0 4 (.rest 3), .slice 5 0 2 (.rest 6)] 69,
   .cells [] 3,
   .map [(.int .i64 (.atm 1), .int .i64 (.lit 1), 0), (.int .i64 (.atm 2), .int .i64 (.lit 1), 0)] 0,
   .cells [.int .u8 (.lit 1), .str [109], .int .i64 (.lit 0), .str [], .int .i64 (.lit 1), .int .u8 (.lit 4), .str [99], .int .i64 (.lit 0), .str [109], .int .i64 (.lit 1)] 75,
   .cells [.str [97], .nils, .nils, .str [98], .nils, .nils, .str [100], .nils, .nils, .str [101], .nils, .nils] 79,
   .cells [.int .i64 (.lit (-1)), .int .i64 (.lit 0), .bool (.lit false), .int .i64 (.lit 0), .nils, .nils, .int .i64 (.lit (-1)), .int .i64 (.lit 0), .bool (.lit false), .int .i64 (.lit 0), .slice 6 0 0 (.exact 0), .nils] 51,
   .cells [] 3],
  [(.lt (.atm 0) (.lit 0), false), (.eq (.atm 1) (.atm 2), false), (.lt (.atm 1) (.lit 0), false), (.lt (.atm 1) (.lit 4), true), (.lt (.atm 2) (.lit 0), false), (.lt (.atm 2) (.lit 4), true)], .sub (.lit 80) (.atm 0)⟩
def h26 : Hint := ⟨[(.eq (.rem (.add (.rem (.inp 0 (.atm 0)) (.lit 4)) (.lit 4)) (.lit 4)) (.atm 1), true), (.eq (.rem (.add (.rem (.inp 0 (.atm 0)) (.lit 4)) (.lit 4)) (.lit 4)) (.atm 2), true)], [], 0⟩
def c27 : CS := ⟨5, [(0, .inp 0 [.i64, .i64, .i64]), (3, .ptr 0 0), (4, .int .i64 (.lit (-1))), (5, .slice 1 0 4 (.rest 1)), (6, .map 2), (7, .int .i64 (.atm 0))],
  [.cells [.slice 3 0 2 (.rest 5), .slice 4 0 4 (.rest 3), .slice 5 0 2 (.rest 6)] 69,
   .cells [.int .i64 (.atm 1), .int .i64 (.atm 2), .int .i64 (.atm 3), .int .i64 (.atm 4)] 3,
   .map [(.int .i64 (.atm 1), .int .i64 (.lit 1), 0), (.int .i64 (.atm 2), .int .i64 (.lit 1), 0), (.int .i64 (.atm 3), .int .i64 (.lit 1), 0), (.int .i64 (.atm 4), .int .i64 (.lit 1), 0)] 0,
   .cells [.int .u8 (.lit 1), .str [109], .int .i64 (.lit 0), .str [], .int .i64 (.lit 1), .int .u8 (.lit 4), .str [99], .int .i64 (.lit 0), .str [109], .int .i64 (.lit 1)] 75,
   .cells [.str [97], .nils, .nils, .str [98], .nils, .nils, .str [100], .nils, .nils, .str [101], .nils, .nils] 79,
   .cells [.int .i64 (.lit (-1)), .int .i64 (.lit 0), .bool (.lit false), .int .i64 (.lit 0), .nils, .nils, .int .i64 (.lit (-1)), .int .i64 (.lit 0), .bool (.lit false), .int .i64 (.lit 0), .slice 6 0 4 (.rest 1), .nils] 51,
   .cells [.int .i64 (.atm 1), .int .i64 (.atm 2), .int .i64 (.atm 3), .int .i64 (.atm 4)] 3],
  [(.lt (.atm 0) (.lit 0), false), (.eq (.atm 3) (.atm 4), false), (.eq (.atm 2) (.atm 4), false), (.eq (.atm 1) (.atm 4), false), (.eq (.atm 2) (.atm 3), false), (.eq (.atm 1) (.atm 3), false), (.eq (.atm 1) (.atm 2), false), (.lt (.atm 1) (.lit 0), false), (.lt (.atm 1) (.lit 4), true), (.lt (.atm 2) (.lit 0), false), (.lt (.atm 2) (.lit 4), true), (.lt (.atm 3) (.lit 0), false), (.lt (.atm 3) (.lit 4), true), (.lt (.atm 4) (.lit 0), false), (.lt (.atm 4) (.lit 4), true)], .sub (.lit 80) (.atm 0)⟩
def h27 : Hint := ⟨[(.eq (.rem (.add (.rem (.inp 0 (.atm 0)) (.lit 4)) (.lit 4)) (.lit 4)) (.atm 1), true), (.eq (.rem (.add (.rem (.inp 0 (.atm 0)) (.lit 4)) (.lit 4)) (.lit 4)) (.atm 2), true), (.eq (.rem (.add (.rem (.inp 0 (.atm 0)) (.lit 4)) (.lit 4)) (.lit 4)) (.atm 3), true), (.eq (.rem (.add (.rem (.inp 0 (.atm 0)) (.lit 4)) (.lit 4)) (.lit 4)) (.atm 4), true)], [.rem (.add (.rem (.inp 0 (.atm 0)) (.lit 4)) (.lit 4)) (.lit 4), .atm 1, .atm 2, .atm 3, .atm 4], 4⟩
def c28 : CS := ⟨5, [(0, .inp 0 [.i64, .i64, .i64]), (3, .ptr 0 0), (4, .int .i64 (.atm 1)), (5, .slice 1 0 2 (.rest 1)), (6, .map 2), (7, .int .i64 (.atm 0))],
  [.cells [.slice 3 0 2 (.rest 5), .slice 4 0 4 (.rest 3), .slice 5 0 2 (.rest 6)] 69,
   .cells [.int .i64 (.atm 2), .int .i64 (.atm 3)] 3,
   .map [(.int .i64 (.atm 4), .int .i64 (.lit 1), 0), (.int .i64 (.atm 2), .int .i64 (.lit 1), 0), (.int .i64 (.atm 3), .int .i64 (.lit 1), 0)] 0,
   .cells [.int .u8 (.lit 1), .str [109], .int .i64 (.lit 0), .str [], .int .i64 (.lit 1), .int .u8 (.lit 4), .str [99], .int .i64 (.lit 0), .str [109], .int .i64 (.lit 1)] 75,
   .cells [.str [97], .nils, .nils, .str [98], .nils, .nils, .str [100], .nils, .nils, .str [101], .nils, .nils] 79,
   .cells [.int .i64 (.atm 1), .int .i64 (.lit 0), .bool (.lit false), .int .i64 (.lit 0), .nils, .nils, .int .i64 (.lit (-1)), .int .i64 (.lit 0), .bool (.lit false), .int .i64 (.lit 0), .slice 6 0 2 (.rest 1), .nils] 51,
   .cells [.int .i64 (.atm 2), .int .i64 (.atm 3)] 3],
  [(.lt (.atm 0) (.lit 0), false), (.eq (.atm 1) (.atm 3), false), (.eq (.atm 1) (.atm 2), false), (.eq (.atm 1) (.atm 4), false), (.eq (.atm 2) (.atm 3), false), (.eq (.atm 3) (.atm 4), false), (.eq (.atm 2) (.atm 4), false), (.lt (.atm 4) (.lit 0), false), (.lt (.atm 4) (.lit 4), true), (.lt (.atm 2) (.lit 0), false), (.lt (.atm 2) (.lit 4), true), (.lt (.atm 3) (.lit 0), false), (.lt (.atm 3) (.lit 4), true), (.lt (.atm 1) (.lit 0), false), (.lt (.atm 1) (.lit 4), true)], .sub (.lit 80) (.atm 0)⟩
def h28 : Hint := ⟨[(.eq (.rem (.add (.rem (.inp 0 (.atm 0)) (.lit 4)) (.lit 4)) (.lit 4)) (.atm 1), true), (.eq (.rem (.add (.rem (.inp 0 (.atm 0)) (.lit 4)) (.lit 4)) (.lit 4)) (.atm 2), true), (.eq (.rem (.add (.rem (.inp 0 (.atm 0)) (.lit 4)) (.lit 4)) (.lit 4)) (.atm 3), true), (.eq (.rem (.add (.rem (.inp 0 (.atm 0)) (.lit 4)) (.lit 4)) (.lit 4)) (.atm 4), true)], [.rem (.add (.rem (.inp 0 (.atm 0)) (.lit 4)) (.lit 4)) (.lit 4), .atm 1, .atm 2, .atm 3, .atm 4], 4⟩
def c29 : CS := ⟨5, [(0, .inp 0 [.i64, .i64, .i64]), (3, .ptr 0 0), (4, .int .i64 (.atm 1)), (5, .nils), (6, .map 1), (7, .int .i64 (.atm 0))],
  [.cells [.slice 2 0 2 (.rest 5), .slice 3 0 4 (.rest 3), .slice 4 0 2 (.rest 6)] 69,
   .map [(.int .i64 (.atm 2), .int .i64 (.lit 1), 0), (.int .i64 (.atm 3), .int .i64 (.lit 1), 0), (.int .i64 (.atm 4), .int .i64 (.lit 1), 0)] 0,
   .cells [.int .u8 (.lit 1), .str [109], .int .i64 (.lit 0), .str [], .int .i64 (.lit 1), .int .u8 (.lit 4), .str [99], .int .i64 (.lit 0), .str [109], .int .i64 (.lit 1)] 75,
   .cells [.str [97], .nils, .nils, .str [98], .nils, .nils, .str [100], .nils, .nils, .str [101], .nils, .nils] 79,
   .cells [.int .i64 (.atm 1), .int .i64 (.lit 0), .bool (.lit false), .int .i64 (.lit 0), .nils, .nils, .int .i64 (.lit (-1)), .int .i64 (.lit 0), .bool (.lit false), .int .i64 (.lit 0), .nils, .nils] 51],
  [(.lt (.atm 0) (.lit 0), false), (.eq (.atm 1) (.atm 4), false), (.eq (.atm 1) (.atm 3), false), (.eq (.atm 1) (.atm 2), false), (.eq (.atm 3) (.atm 4), false), (.eq (.atm 2) (.atm 4), false), (.eq (.atm 2) (.atm 3), false), (.lt (.atm 2) (.lit 0), false), (.lt (.atm 2) (.lit 4), true), (.lt (.atm 3) (.lit 0), false), (.lt (.atm 3) (.lit 4), true), (.lt (.atm 4) (.lit 0), false), (.lt (.atm 4) (.lit 4), true), (.lt (.atm 1) (.lit 0), false), (.lt (.atm 1) (.lit 4), true)], .sub (.lit 80) (.atm 0)⟩
def h29 : Hint := ⟨[(.eq (.rem (.add (.rem (.inp 0 (.atm 0)) (.lit 4)) (.lit 4)) (.lit 4)) (.atm 1), true), (.eq (.rem (.add (.rem (.inp 0 (.atm 0)) (.lit 4)) (.lit 4)) (.lit 4)) (.atm 2), true), (.eq (.rem (.add (.rem (.inp 0 (.atm 0)) (.lit 4)) (.lit 4)) (.lit 4)) (.atm 3), true), (.eq (.rem (.add (.rem (.inp 0 (.atm 0)) (.lit 4)) (.lit 4)) (.lit 4)) (.atm 4), true)], [.rem (.add (.rem (.inp 0 (.atm 0)) (.lit 4)) (.lit 4)) (.lit 4), .atm 1, .atm 2, .atm 3, .atm 4], 4⟩
def c30 : CS := ⟨5, [(0, .inp 0 [.i64, .i64, .i64]), (3, .ptr 0 0), (4, .int .i64 (.atm 1)), (5, .slice 1 0 1 (.rest 1)), (6, .map 2), (7, .int .i64 (.atm 0))],
  [.cells [.slice 3 0 2 (.rest 5), .slice 4 0 4 (.rest 3), .slice 5 0 2 (.rest 6)] 69,
   .cells [.int .i64 (.atm 2)] 3,
   .map [(.int .i64 (.atm 3), .int .i64 (.lit 1), 0), (.int .i64 (.atm 4), .int .i64 (.lit 1), 0), (.int .i64 (.atm 2), .int .i64 (.lit 1), 0)] 0,
   .cells [.int .u8 (.lit 1), .str [109], .int .i64 (.lit 0), .str [], .int .i64 (.lit 1), .int .u8 (.lit 4), .str [99], .int .i64 (.lit 0), .str [109], .int .i64 (.lit 1)] 75,
   .cells [.str [97], .nils, .nils, .str [98], .nils, .nils, .str [100], .nils, .nils, .str [101], .nils, .nils] 79,
   .cells [.int .i64 (.atm 1), .int .i64 (.lit 0), .bool (.lit false), .int .i64 (.lit 0), .nils, .nils, .int .i64 (.lit (-1)), .int .i64 (.lit 0), .bool (.lit false), .int .i64 (.lit 0), .slice 6 0 1 (.rest 1), .nils] 51,
   .cells [.int .i64 (.atm 2)] 3],
  [(.lt (.atm 0) (.lit 0), false), (.eq (.atm 1) (.atm 4), false), (.eq (.atm 1) (.atm 3), false), (.eq (.atm 1) (.atm 2), false), (.eq (.atm 2) (.atm 4), false), (.eq (.atm 2) (.atm 3), false), (.eq (.atm 3) (.atm 4), false), (.lt (.atm 3) (.lit 0), false), (.lt (.atm 3) (.lit 4), true), (.lt (.atm 4) (.lit 0), false), (.lt (.atm 4) (.lit 4), true), (.lt (.atm 2) (.lit 0), false), (.lt (.atm 2) (.lit 4), true), (.lt (.atm 1) (.lit 0), false), (.lt (.atm 1) (.lit 4), true)], .sub (.lit 80) (.atm 0)⟩
def h30 : Hint := ⟨[(.eq (.rem (.add (.rem (.inp 0 (.atm 0)) (.lit 4)) (.lit 4)) (.lit 4)) (.atm 1), true), (.eq (.rem (.add (.rem (.inp 0 (.atm 0)) (.lit 4)) (.lit 4)) (.lit 4)) (.atm 2), true), (.eq (.rem (.add (.rem (.inp 0 (.atm 0)) (.lit 4)) (.lit 4)) (.lit 4)) (.atm 3), true), (.eq (.rem (.add (.rem (.inp 0 (.atm 0)) (.lit 4)) (.lit 4)) (.lit 4)) (.atm 4), true)], [.rem (.add (.rem (.inp 0 (.atm 0)) (.lit 4)) (.lit 4)) (.lit 4), .atm 1, .atm 2, .atm 3, .atm 4], 4⟩
def c31 : CS := ⟨4, [(0, .inp 0 [.i64, .i64, .i64]), (3, .ptr 0 0), (4, .int .i64 (.lit (-1))), (5, .slice 1 0 0 (.rest 1)), (6, .map 2), (7, .int .i64 (.atm 0))],
  [.cells [.slice 3 0 2 (.rest 5), .slice 4 0 4 (.rest 3), .slice 5 0 2 (.rest 6)] 69,
   .cells [] 3,
   .map [(.int .i64 (.atm 1), .int .i64 (.lit 1), 0), (.int .i64 (.atm 2), .int .i64 (.lit 1), 0), (.int .i64 (.atm 3), .int .i64 (.lit 1), 0)] 0,
   .cells [.int .u8 (.lit 1), .str [109], .int .i64 (.lit 0), .str [], .int .i64 (.lit 1), .int .u8 (.lit 4), .str [99], .int .i64 (.lit 0), .str [109], .int .i64 (.lit 1)] 75,
   .cells [.str [97], .nils, .nils, .str [98], .nils, .nils, .str [100], .nils, .nils, .str [101], .nils, .nils] 79,
   .cells [.int .i64 (.lit (-1)), .int .i64 (.lit 0), .bool (.lit false), .int .i64 (.lit 0), .nils, .nils, .int .i64 (.lit (-1)), .int .i64 (.lit 0), .bool (.lit false), .int .i64 (.lit 0), .slice 6 0 0 (.rest 1), .nils] 51,
   .cells [] 3],
  [(.lt (.atm 0) (.lit 0), false), (.eq (.atm 2) (.atm 3), false), (.eq (.atm 1) (.atm 3), false), (.eq (.atm 1) (.atm 2), false), (.lt (.atm 1) (.lit 0), false), (.lt (.atm 1) (.lit 4), true), (.lt (.atm 2) (.lit 0), false), (.lt (.atm 2) (.lit 4), true), (.lt (.atm 3) (.lit 0), false), (.lt (.atm 3) (.lit 4), true)], .sub (.lit 80) (.atm 0)⟩
def h31 : Hint := ⟨[(.eq (.rem (.add (.rem (.inp 0 (.atm 0)) (.lit 4)) (.lit 4)) (.lit 4)) (.atm 1), true), (.eq (.rem (.add (.rem (.inp 0 (.atm 0)) (.lit 4)) (.lit 4)) (.lit 4)) (.atm 2), true), (.eq (.rem (.add (.rem (.inp 0 (.atm 0)) (.lit 4)) (.lit 4)) (.lit 4)) (.atm 3), true)], [], 0⟩
def c32 : CS := ⟨5, [(0, .inp 0 [.i64, .i64, .i64]), (3, .ptr 0 0), (4, .int .i64 (.lit (-1))), (5, .slice 1 0 3 (.rest 1)), (6, .map 2), (7, .int .i64 (.atm 0))],
  [.cells [.slice 3 0 2 (.rest 5), .slice 4 0 4 (.rest 3), .slice 5 0 2 (.rest 6)] 69,
   .cells [.int .i64 (.atm 1), .int .i64 (.atm 2), .int .i64 (.atm 3)] 3,
   .map [(.int .i64 (.atm 4), .int .i64 (.lit 1), 0), (.int .i64 (.atm 1), .int .i64 (.lit 1), 0), (.int .i64 (.atm 2), .int .i64 (.lit 1), 0), (.int .i64 (.atm 3), .int .i64 (.lit 1), 0)] 0,
   .cells [.int .u8 (.lit 1), .str [109], .int .i64 (.lit 0), .str [], .int .i64 (.lit 1), .int .u8 (.lit 4), .str [99], .int .i64 (.lit 0), .str [109], .int .i64 (.lit 1)] 75,
   .cells [.str [97], .nils, .nils, .str [98], .nils, .nils, .str [100], .nils, .nils, .str [101], .nils, .nils] 79,
   .cells [.int .i64 (.lit (-1)), .int .i64 (.lit 0), .bool (.lit false), .int .i64 (.lit 0), .nils, .nils, .int .i64 (.lit (-1)), .int .i64 (.lit 0), .bool (.lit false), .int .i64 (.lit 0), .slice 6 0 3 (.rest 1), .nils] 51,
   .cells [.int .i64 (.atm 1), .int .i64 (.atm 2), .int .i64 (.atm 3)] 3],
  [(.lt (.atm 0) (.lit 0), false), (.eq (.atm 2) (.atm 3), false), (.eq (.atm 1) (.atm 3), false), (.eq (.atm 3) (.atm 4), false), (.eq (.atm 1) (.atm 2), false), (.eq (.atm 2) (.atm 4), false), (.eq (.atm 1) (.atm 4), false), (.lt (.atm 4) (.lit 0), false), (.lt (.atm 4) (.lit 4), true), (.lt (.atm 1) (.lit 0), false), (.lt (.atm 1) (.lit 4), true), (.lt (.atm 2) (.lit 0), false), (.lt (.atm 2) (.lit 4), true), (.lt (.atm 3) (.lit 0), false), (.lt (.atm 3) (.lit 4), true)], .sub (.lit 80) (.atm 0)⟩
def h32 : Hint := ⟨[(.eq (.rem (.add (.rem (.inp 0 (.atm 0)) (.lit 4)) (.lit 4)) (.lit 4)) (.atm 1), true), (.eq (.rem (.add (.rem (.inp 0 (.atm 0)) (.lit 4)) (.lit 4)) (.lit 4)) (.atm 2), true), (.eq (.rem (.add (.rem (.inp 0 (.atm 0)) (.lit 4)) (.lit 4)) (.lit 4)) (.atm 3), true), (.eq (.rem (.add (.rem (.inp 0 (.atm 0)) (.lit 4)) (.lit 4)) (.lit 4)) (.atm 4), true)], [.rem (.add (.rem (.inp 0 (.atm 0)) (.lit 4)) (.lit 4)) (.lit 4), .atm 1, .atm 2, .atm 3, .atm 4], 4⟩
def c33 : CS := ⟨5, [(0, .inp 0 [.i64, .i64, .i64]), (3, .ptr 0 0), (4, .int .i64 (.lit (-1))), (5, .slice 1 0 1 (.rest 1)), (6, .map 2), (7, .int .i64 (.atm 0))],
  [.cells [.slice 3 0 2 (.rest 5), .slice 4 0 4 (.rest 3), .slice 5 0 2 (.rest 6)] 69,
   .cells [.int .i64 (.atm 1)] 3,
   .map [(.int .i64 (.atm 2), .int .i64 (.lit 1), 0), (.int .i64 (.atm 3), .int .i64 (.lit 1), 0), (.int .i64 (.atm 4), .int .i64 (.lit 1), 0), (.int .i64 (.atm 1), .int .i64 (.lit 1), 0)] 0,
   .cells [.int .u8 (.lit 1), .str [109], .int .i64 (.lit 0), .str [], .int .i64 (.lit 1), .int .u8 (.lit 4), .str [99], .int .i64 (.lit 0), .str [109], .int .i64 (.lit 1)] 75,
   .cells [.str [97], .nils, .nils, .str [98], .nils, .nils, .str [100], .nils, .nils, .str [101], .nils, .nils] 79,
   .cells [.int .i64 (.lit (-1)), .int .i64 (.lit 0), .bool (.lit false), .int .i64 (.lit 0), .nils, .nils, .int .i64 (.lit (-1)), .int .i64 (.lit 0), .bool (.lit false), .int .i64 (.lit 0), .slice 6 0 1 (.rest 1), .nils] 51,
   .cells [.int .i64 (.atm 1)] 3],
  [(.lt (.atm 0) (.lit 0), false), (.eq (.atm 1) (.atm 4), false), (.eq (.atm 1) (.atm 3), false), (.eq (.atm 1) (.atm 2), false), (.eq (.atm 3) (.atm 4), false), (.eq (.atm 2) (.atm 4), false), (.eq (.atm 2) (.atm 3), false), (.lt (.atm 2) (.lit 0), false), (.lt (.atm 2) (.lit 4), true), (.lt (.atm 3) (.lit 0), false), (.lt (.atm 3) (.lit 4), true), (.lt (.atm 4) (.lit 0), false), (.lt (.atm 4) (.lit 4), true), (.lt (.atm 1) (.lit 0), false), (.lt (.atm 1) (.lit 4), true)], .sub (.lit 80) (.atm 0)⟩
def h33 : Hint := ⟨[(.eq (.rem (.add (.rem (.inp 0 (.atm 0)) (.lit 4)) (.lit 4)) (.lit 4)) (.atm 1), true), (.eq (.rem (.add (.rem (.inp 0 (.atm 0)) (.lit 4)) (.lit 4)) (.lit 4)) (.atm 2), true), (.eq (.rem (.add (.rem (.inp 0 (.atm 0)) (.lit 4)) (.lit 4)) (.lit 4)) (.atm 3), true), (.eq (.rem (.add (.rem (.inp 0 (.atm 0)) (.lit 4)) (.lit 4)) (.lit 4)) (.atm 4), true)], [.rem (.add (.rem (.inp 0 (.atm 0)) (.lit 4)) (.lit 4)) (.lit 4), .atm 1, .atm 2, .atm 3, .atm 4], 4⟩
def c34 : CS := ⟨5, [(0, .inp 0 [.i64, .i64, .i64]), (3, .ptr 0 0), (4, .int .i64 (.lit (-1))), (5, .slice 1 0 2 (.rest 1)), (6, .map 2), (7, .int .i64 (.atm 0))],
  [.cells [.slice 3 0 2 (.rest 5), .slice 4 0 4 (.rest 3), .slice 5 0 2 (.rest 6)] 69,
   .cells [.int .i64 (.atm 1), .int .i64 (.atm 2)] 3,
   .map [(.int .i64 (.atm 3), .int .i64 (.lit 1), 0), (.int .i64 (.atm 4), .int .i64 (.lit 1), 0), (.int .i64 (.atm 1), .int .i64 (.lit 1), 0), (.int .i64 (.atm 2), .int .i64 (.lit 1), 0)] 0,
   .cells [.int .u8 (.lit 1), .str [109], .int .i64 (.lit 0), .str [], .int .i64 (.lit 1), .int .u8 (.lit 4), .str [99], .int .i64 (.lit 0), .str [109], .int .i64 (.lit 1)] 75,
   .cells [.str [97], .nils, .nils, .str [98], .nils, .nils, .str [100], .nils, .nils, .str [101], .nils, .nils] 79,
   .cells [.int .i64 (.lit (-1)), .int .i64 (.lit 0), .bool (.lit false), .int .i64 (.lit 0), .nils, .nils, .int .i64 (.lit (-1)), .int .i64 (.lit 0), .bool (.lit false), .int .i64 (.lit 0), .slice 6 0 2 (.rest 1), .nils] 51,
   .cells [.int .i64 (.atm 1), .int .i64 (.atm 2)] 3],
  [(.lt (.atm 0) (.lit 0), false), (.eq (.atm 2) (.atm 4), false), (.eq (.atm 2) (.atm 3), false), (.eq (.atm 1) (.atm 2), false), (.eq (.atm 1) (.atm 4), false), (.eq (.atm 1) (.atm 3), false), (.eq (.atm 3) (.atm 4), false), (.lt (.atm 3) (.lit 0), false), (.lt (.atm 3) (.lit 4), true), (.lt (.atm 4) (.lit 0), false), (.lt (.atm 4) (.lit 4), true), (.lt (.atm 1) (.lit 0), false), (.lt (.atm 1) (.lit 4), true), (.lt (.atm 2) (.lit 0), false), (.lt (.atm 2) (.lit 4), true)], .sub (.lit 80) (.atm 0)⟩
def h34 : Hint := ⟨[(.eq (.rem (.add (.rem (.inp 0 (.atm 0)) (.lit 4)) (.lit 4)) (.lit 4)) (.atm 1), true), (.eq (.rem (.add (.rem (.inp 0 (.atm 0)) (.lit 4)) (.lit 4)) (.lit 4)) (.atm 2), true), (.eq (.rem (.add (.rem (.inp 0 (.atm 0)) (.lit 4)) (.lit 4)) (.lit 4)) (.atm 3), true), (.eq (.rem (.add (.rem (.inp 0 (.atm 0)) (.lit 4)) (.lit 4)) (.lit 4)) (.atm 4), true)], [.rem (.add (.rem (.inp 0 (.atm 0)) (.lit 4)) (.lit 4)) (.lit 4), .atm 1, .atm 2, .atm 3, .atm 4], 4⟩
def c35 : CS := ⟨5, [(0, .inp 0 [.i64, .i64, .i64]), (3, .ptr 0 0), (4, .int .i64 (.atm 1)), (5, .slice 1 0 0 (.rest 1)), (6, .map 2), (7, .int .i64 (.atm 0))],
  [.cells [.slice 3 0 2 (.rest 5), .slice 4 0 4 (.rest 3), .slice 5 0 2 (.rest 6)] 69,
   .cells [] 3,
   .map [(.int .i64 (.atm 2), .int .i64 (.lit 1), 0), (.int .i64 (.atm 3), .int .i64 (.lit 1), 0), (.int .i64 (.atm 4), .int .i64 (.lit 1), 0)] 0,
   .cells [.int .u8 (.lit 1), .str [109], .int .i64 (.lit 0), .str [], .int .i64 (.lit 1), .int .u8 (.lit 4), .str [99], .int .i64 (.lit 0), .str [109], .int .i64 (.lit 1)] 75,
   .cells [.str [97], .nils, .nils, .str [98], .nils, .nils, .str [100], .nils, .nils, .str [101], .nils, .nils] 79,
   .cells [.int .i64 (.atm 1), .int .i64 (.lit 0), .bool (.lit false), .int .i64 (.lit 0), .nils, .nils, .int .i64 (.lit (-1)), .int .i64 (.lit 0), .bool (.lit false), .int .i64 (.lit 0), .slice 6 0 0 (.rest 1), .nils] 51,
   .cells [] 3],
  [(.lt (.atm 0) (.lit 0), false), (.eq (.atm 1) (.atm 3), false), (.eq (.atm 1) (.atm 2), false), (.eq (.atm 1) (.atm 4), false), (.eq (.atm 3) (.atm 4), false), (.eq (.atm 2) (.atm 4), false), (.eq (.atm 2) (.atm 3), false), (.lt (.atm 2) (.lit 0), false), (.lt (.atm 2) (.lit 4), true), (.lt (.atm 3) (.lit 0), false), (.lt (.atm 3) (.lit 4), true), (.lt (.atm 4) (.lit 0), false), (.lt (.atm 4) (.lit 4), true), (.lt (.atm 1) (.lit 0), false), (.lt (.atm 1) (.lit 4), true)], .sub (.lit 80) (.atm 0)⟩
def h35 : Hint := ⟨[(.eq (.rem (.add (.rem (.inp 0 (.atm 0)) (.lit 4)) (.lit 4)) (.lit 4)) (.atm 1), true), (.eq (.rem (.add (.rem (.inp 0 (.atm 0)) (.lit 4)) (.lit 4)) (.lit 4)) (.atm 2), true), (.eq (.rem (.add (.rem (.inp 0 (.atm 0)) (.lit 4)) (.lit 4)) (.lit 4)) (.atm 3), true), (.eq (.rem (.add (.rem (.inp 0 (.atm 0)) (.lit 4)) (.lit 4)) (.lit 4)) (.atm 4), true)], [.rem (.add (.rem (.inp 0 (.atm 0)) (.lit 4)) (.lit 4)) (.lit 4), .atm 1, .atm 2, .atm 3, .atm 4], 4⟩
def c36 : CS := ⟨5, [(0, .inp 0 [.i64, .i64, .i64]), (3, .ptr 0 0), (4, .int .i64 (.atm 1)), (5, .slice 1 0 0 (.rest 1)), (6, .map 2), (7, .int .i64 (.atm 0))],
  [.cells [.slice 3 0 2 (.rest 5), .slice 4 0 4 (.rest 3), .slice 5 0 2 (.rest 6)] 69,
   .cells [] 3,
   .map [(.int .i64 (.atm 2), .int .i64 (.lit 1), 0), (.int .i64 (.atm 3), .int .i64 (.lit 1), 0), (.int .i64 (.atm 4), .int .i64 (.lit 1), 0)] 0,
   .cells [.int .u8 (.lit 1), .str [109], .int .i64 (.lit 0), .str [], .int .i64 (.lit 1), .int .u8 (.lit 4), .str [99], .int .i64 (.lit 0), .str [109], .int .i64 (.lit 1)] 75,
   .cells [.str [97], .nils, .nils, .str [98], .nils, .nils, .str [100], .nils, .nils, .str [101], .nils, .nils] 79,
   .cells [.int .i64 (.atm 1), .int .i64 (.lit 0), .bool (.lit false), .int .i64 (.lit 0), .nils, .nils, .int .i64 (.lit (-1)), .int .i64 (.lit 0), .bool (.lit false), .int .i64 (.lit 0), .slice 6 0 0 (.exact 0), .nils] 51,
   .cells [] 3],
  [(.lt (.atm 0) (.lit 0), false), (.eq (.atm 1) (.atm 4), false), (.eq (.atm 1) (.atm 3), false), (.eq (.atm 1) (.atm 2), false), (.eq (.atm 3) (.atm 4), false), (.eq (.atm 2) (.atm 4), false), (.eq (.atm 2) (.atm 3), false), (.lt (.atm 2) (.lit 0), false), (.lt (.atm 2) (.lit 4), true), (.lt (.atm 3) (.lit 0), false), (.lt (.atm 3) (.lit 4), true), (.lt (.atm 4) (.lit 0), false), (.lt (.atm 4) (.lit 4), true), (.lt (.atm 1) (.lit 0), false), (.lt (.atm 1) (.lit 4), true)], .sub (.lit 80) (.atm 0)⟩
def h36 : Hint := ⟨[(.eq (.rem (.add (.rem (.inp 0 (.atm 0)) (.lit 4)) (.lit 4)) (.lit 4)) (.atm 1), true), (.eq (.rem (.add (.rem (.inp 0 (.atm 0)) (.lit 4)) (.lit 4)) (.lit 4)) (.atm 2), true), (.eq (.rem (.add (.rem (.inp 0 (.atm 0)) (.lit 4)) (.lit 4)) (.lit 4)) (.atm 3), true), (.eq (.rem (.add (.rem (.inp 0 (.atm 0)) (.lit 4)) (.lit 4)) (.lit 4)) (.atm 4), true)], [.rem (.add (.rem (.inp 0 (.atm 0)) (.lit 4)) (.lit 4)) (.lit 4), .atm 1, .atm 2, .atm 3, .atm 4], 4⟩
def c37 : CS := ⟨4, [(0, .inp 0 [.i64, .i64, .i64]), (3, .ptr 0 0), (4, .int .i64 (.lit (-1))), (5, .slice 1 0 0 (.rest 1)), (6, .map 2), (7, .int .i64 (.atm 0))],
  [.cells [.slice 3 0 2 (.rest 5), .slice 4 0 4 (.rest 3), .slice 5 0 2 (.rest 6)] 69,
   .cells [] 3,
   .map [(.int .i64 (.atm 1), .int .i64 (.lit 1), 0), (.int .i64 (.atm 2), .int .i64 (.lit 1), 0), (.int .i64 (.atm 3), .int .i64 (.lit 1), 0)] 0,
   .cells [.int .u8 (.lit 1), .str [109], .int .i64 (.lit 0), .str [], .int .i64 (.lit 1), .int .u8 (.lit 4), .str [99], .int .i64 (.lit 0), .str [109], .int .i64 (.lit 1)] 75,
   .cells [.str [97], .nils, .nils, .str [98], .nils, .nils, .str [100], .nils, .nils, .str [101], .nils, .nils] 79,
   .cells [.int .i64 (.lit (-1)), .int .i64 (.lit 0), .bool (.lit false), .int .i64 (.lit 0), .nils, .nils, .int .i64 (.lit (-1)), .int .i64 (.lit 0), .bool (.lit false), .int .i64 (.lit 0), .slice 6 0 0 (.exact 0), .nils] 51,
   .cells [] 3],
  [(.lt (.atm 0) (.lit 0), false), (.eq (.atm 2) (.atm 3), false), (.eq (.atm 1) (.atm 3), false), (.eq (.atm 1) (.atm 2), false), (.lt (.atm 1) (.lit 0), false), (.lt (.atm 1) (.lit 4), true), (.lt (.atm 2) (.lit 0), false), (.lt (.atm 2) (.lit 4), true), (.lt (.atm 3) (.lit 0), false), (.lt (.atm 3) (.lit 4), true)], .sub (.lit 80) (.atm 0)⟩
def h37 : Hint := ⟨[(.eq (.rem (.add (.rem (.inp 0 (.atm 0)) (.lit 4)) (.lit 4)) (.lit 4)) (.atm 1), true), (.eq (.rem (.add (.rem (.inp 0 (.atm 0)) (.lit 4)) (.lit 4)) (.lit 4)) (.atm 2), true), (.eq (.rem (.add (.rem (.inp 0 (.atm 0)) (.lit 4)) (.lit 4)) (.lit 4)) (.atm 3), true)], [], 0⟩
def cs : List CS := [c0, c1, c2, c3, c4, c5, c6, c7, c8, c9, c10, c11, c12, c13, c14, c15, c16, c17, c18, c19, c20, c21, c22, c23, c24, c25, c26, c27, c28, c29, c30, c31, c32, c33, c34, c35, c36, c37]
def path : List Nat := [0, 1, 0, 1, 1, 1, 1, 1]
noncomputable def g : Cfg := cfg prv 12 Tryz.f12.results.toList
theorem isL : isLoop (bodyOf Tryz.f12) path = true := by kernel_rfl
theorem r0 : roundAt g (bodyOf Tryz.f12) path cs h0 c0 = true := by kernel_rfl
theorem r1 : roundAt g (bodyOf Tryz.f12) path cs h1 c1 = true := by kernel_rfl
theorem r2 : roundAt g (bodyOf Tryz.f12) path cs h2 c2 = true := by kernel_rfl
theorem r3 : roundAt g (bodyOf Tryz.f12) path cs h3 c3 = true := by kernel_rfl
theorem r4 : roundAt g (bodyOf Tryz.f12) path cs h4 c4 = true := by kernel_rfl
theorem r5 : roundAt g (bodyOf Tryz.f12) path cs h5 c5 = true := by kernel_rfl
theorem r6 : roundAt g (bodyOf Tryz.f12) path cs h6 c6 = true := by kernel_rfl
theorem r7 : roundAt g (bodyOf Tryz.f12) path cs h7 c7 = true := by kernel_rfl
theorem r8 : roundAt g (bodyOf Tryz.f12) path cs h8 c8 = true := by kernel_rfl
theorem r9 : roundAt g (bodyOf Tryz.f12) path cs h9 c9 = true := by kernel_rfl
theorem r10 : roundAt g (bodyOf Tryz.f12) path cs h10 c10 = true := by kernel_rfl
theorem r11 : roundAt g (bodyOf Tryz.f12) path cs h11 c11 = true := by kernel_rfl
theorem r12 : roundAt g (bodyOf Tryz.f12) path cs h12 c12 = true := by kernel_rfl
theorem r13 : roundAt g (bodyOf Tryz.f12) path cs h13 c13 = true := by kernel_rfl
theorem r14 : roundAt g (bodyOf Tryz.f12) path cs h14 c14 = true := by kernel_rfl
theorem r15 : roundAt g (bodyOf Tryz.f12) path cs h15 c15 = true := by kernel_rfl
theorem r16 : roundAt g (bodyOf Tryz.f12) path cs h16 c16 = true := by kernel_rfl
theorem r17 : roundAt g (bodyOf Tryz.f12) path cs h17 c17 = true := by kernel_rfl
theorem r18 : roundAt g (bodyOf Tryz.f12) path cs h18 c18 = true := by kernel_rfl
theorem r19 : roundAt g (bodyOf Tryz.f12) path cs h19 c19 = true := by kernel_rfl
theorem r20 : roundAt g (bodyOf Tryz.f12) path cs h20 c20 = true := by kernel_rfl
theorem r21 : roundAt g (bodyOf Tryz.f12) path cs h21 c21 = true := by kernel_rfl
theorem r22 : roundAt g (bodyOf Tryz.f12) path cs h22 c22 = true := by kernel_rfl
theorem r23 : roundAt g (bodyOf Tryz.f12) path cs h23 c23 = true := by kernel_rfl
theorem r24 : roundAt g (bodyOf Tryz.f12) path cs h24 c24 = true := by kernel_rfl
theorem r25 : roundAt g (bodyOf Tryz.f12) path cs h25 c25 = true := by kernel_rfl
theorem r26 : roundAt g (bodyOf Tryz.f12) path cs h26 c26 = true := by kernel_rfl
theorem r27 : roundAt g (bodyOf Tryz.f12) path cs h27 c27 = true := by kernel_rfl
theorem r28 : roundAt g (bodyOf Tryz.f12) path cs h28 c28 = true := by kernel_rfl
theorem r29 : roundAt g (bodyOf Tryz.f12) path cs h29 c29 = true := by kernel_rfl
theorem r30 : roundAt g (bodyOf Tryz.f12) path cs h30 c30 = true := by kernel_rfl
theorem r31 : roundAt g (bodyOf Tryz.f12) path cs h31 c31 = true := by kernel_rfl
theorem r32 : roundAt g (bodyOf Tryz.f12) path cs h32 c32 = true := by kernel_rfl
theorem r33 : roundAt g (bodyOf Tryz.f12) path cs h33 c33 = true := by kernel_rfl
theorem r34 : roundAt g (bodyOf Tryz.f12) path cs h34 c34 = true := by kernel_rfl
theorem r35 : roundAt g (bodyOf Tryz.f12) path cs h35 c35 = true := by kernel_rfl
theorem r36 : roundAt g (bodyOf Tryz.f12) path cs h36 c36 = true := by kernel_rfl
theorem r37 : roundAt g (bodyOf Tryz.f12) path cs h37 c37 = true := by kernel_rfl
theorem rounds : ∀ c ∈ cs, ∃ h, roundAt g (bodyOf Tryz.f12) path cs h c = true := by
  intro c hc
  simp only [cs, List.mem_cons, List.not_mem_nil, or_false] at hc
  rcases hc with rfl | rfl | rfl | rfl | rfl | rfl | rfl | rfl | rfl | rfl | rfl | rfl | rfl | rfl | rfl | rfl | rfl | rfl | rfl | rfl | rfl | rfl | rfl | rfl | rfl | rfl | rfl | rfl | rfl | rfl | rfl | rfl | rfl | rfl | rfl | rfl | rfl | rfl
  · exact ⟨h0, r0⟩
  · exact ⟨h1, r1⟩
  · exact ⟨h2, r2⟩
  · exact ⟨h3, r3⟩
  · exact ⟨h4, r4⟩
  · exact ⟨h5, r5⟩
  · exact ⟨h6, r6⟩
  · exact ⟨h7, r7⟩
  · exact ⟨h8, r8⟩
  · exact ⟨h9, r9⟩
  · exact ⟨h10, r10⟩
  · exact ⟨h11, r11⟩
  · exact ⟨h12, r12⟩
  · exact ⟨h13, r13⟩
  · exact ⟨h14, r14⟩
  · exact ⟨h15, r15⟩
  · exact ⟨h16, r16⟩
  · exact ⟨h17, r17⟩
  · exact ⟨h18, r18⟩
  · exact ⟨h19, r19⟩
  · exact ⟨h20, r20⟩
  · exact ⟨h21, r21⟩
  · exact ⟨h22, r22⟩
  · exact ⟨h23, r23⟩
  · exact ⟨h24, r24⟩
  · exact ⟨h25, r25⟩
  · exact ⟨h26, r26⟩
  · exact ⟨h27, r27⟩
  · exact ⟨h28, r28⟩
  · exact ⟨h29, r29⟩
  · exact ⟨h30, r30⟩
  · exact ⟨h31, r31⟩
  · exact ⟨h32, r32⟩
  · exact ⟨h33, r33⟩
  · exact ⟨h34, r34⟩
  · exact ⟨h35, r35⟩
  · exact ⟨h36, r36⟩
  · exact ⟨h37, r37⟩
theorem begins : go g (tab1 path cs) 1000 [] (bodyOf Tryz.f12) [] ⟨initSlots [.inp 0 [.i64, .i64, .i64]] 0 .nil, Hp.zero, []⟩ = true := by kernel_rfl
theorem calls {ρ : Nat → Int} {ro : Nat → Prop} {w : World} (hro : ∀ b, ro b → b < w.heap.size) (hgl : Glob.ok ro w.heap) {vals : List Value} (hv : VRs (En.zero ρ ro) w.heap [.inp 0 [.i64, .i64, .i64]] vals) (hp : PcOk ρ []) :
    Calls Tryz.prog 12 vals.toArray w fun e w' => e = .returned (.bool true) ∧ Below w.heap.size w w' :=
  law_one (cfg_ok prv_ok 12 _) (fn := Tryz.f12) (fn_at (by kernel_rfl) (by decide)) (by kernel_rfl) rfl (dst_at (by kernel_rfl)) isL rounds hro hgl hv hp begins
end Go.As.Try.Condition
#print axioms Go.As.Try.Condition.calls
