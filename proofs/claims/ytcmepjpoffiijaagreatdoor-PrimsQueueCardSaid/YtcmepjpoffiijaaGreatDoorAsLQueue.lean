import Derived.Test.YtcmepjpoffiijaaGreatDoorAsT5
/-
  AS: the law Queue: its loop's states, a round from each, the run up to the loop.
-/
namespace Go.As.Try.Queue
open Go hiding Stat
open Go.As Go.Proofs Go.RowKit Go.As.Try
set_option maxRecDepth 100000
def c0 : CS := ⟨1, [(1, .inp 0 [.i64, .i64, .i64]), (5, .int .i64 (.lit 1)), (6, .ptr 0 0), (7, .nils), (8, .int .i64 (.atm 0))],
  [.cells [.slice 1 0 1 (.rest 5), .slice 2 0 4 (.rest 3), .slice 3 0 1 (.rest 6)] 69,
   .cells [.int .u8 (.lit 8), .str [113], .int .i64 (.lit 1), .str [], .int .i64 (.lit 1)] 75,
   .cells [.str [97], .nils, .nils, .str [98], .nils, .nils, .str [100], .nils, .nils, .str [101], .nils, .nils] 79,
   .cells [.int .i64 (.lit (-1)), .int .i64 (.lit 0), .bool (.lit false), .int .i64 (.lit 0), .nils, .nils] 51],
  [(.lt (.atm 0) (.lit 0), false)], .sub (.lit 60) (.atm 0)⟩
def h0 : Hint := ⟨[], [], 0⟩
def c1 : CS := ⟨1, [(1, .inp 0 [.i64, .i64, .i64]), (5, .int .i64 (.lit 2)), (6, .ptr 0 0), (7, .nils), (8, .int .i64 (.atm 0))],
  [.cells [.slice 1 0 1 (.rest 5), .slice 2 0 4 (.rest 3), .slice 3 0 1 (.rest 6)] 69,
   .cells [.int .u8 (.lit 8), .str [113], .int .i64 (.lit 2), .str [], .int .i64 (.lit 1)] 75,
   .cells [.str [97], .nils, .nils, .str [98], .nils, .nils, .str [100], .nils, .nils, .str [101], .nils, .nils] 79,
   .cells [.int .i64 (.lit (-1)), .int .i64 (.lit 0), .bool (.lit false), .int .i64 (.lit 0), .nils, .nils] 51],
  [(.lt (.atm 0) (.lit 0), false)], .sub (.lit 60) (.atm 0)⟩
def h1 : Hint := ⟨[], [], 0⟩
def c2 : CS := ⟨1, [(1, .inp 0 [.i64, .i64, .i64]), (5, .int .i64 (.lit 3)), (6, .ptr 0 0), (7, .nils), (8, .int .i64 (.atm 0))],
  [.cells [.slice 1 0 1 (.rest 5), .slice 2 0 4 (.rest 3), .slice 3 0 1 (.rest 6)] 69,
   .cells [.int .u8 (.lit 8), .str [113], .int .i64 (.lit 3), .str [], .int .i64 (.lit 1)] 75,
   .cells [.str [97], .nils, .nils, .str [98], .nils, .nils, .str [100], .nils, .nils, .str [101], .nils, .nils] 79,
   .cells [.int .i64 (.lit (-1)), .int .i64 (.lit 0), .bool (.lit false), .int .i64 (.lit 0), .nils, .nils] 51],
  [(.lt (.atm 0) (.lit 0), false)], .sub (.lit 60) (.atm 0)⟩
def h2 : Hint := ⟨[], [], 0⟩
def c3 : CS := ⟨1, [(1, .inp 0 [.i64, .i64, .i64]), (5, .int .i64 (.lit 4)), (6, .ptr 0 0), (7, .nils), (8, .int .i64 (.atm 0))],
  [.cells [.slice 1 0 1 (.rest 5), .slice 2 0 4 (.rest 3), .slice 3 0 1 (.rest 6)] 69,
   .cells [.int .u8 (.lit 8), .str [113], .int .i64 (.lit 4), .str [], .int .i64 (.lit 1)] 75,
   .cells [.str [97], .nils, .nils, .str [98], .nils, .nils, .str [100], .nils, .nils, .str [101], .nils, .nils] 79,
   .cells [.int .i64 (.lit (-1)), .int .i64 (.lit 0), .bool (.lit false), .int .i64 (.lit 0), .nils, .nils] 51],
  [(.lt (.atm 0) (.lit 0), false)], .sub (.lit 60) (.atm 0)⟩
def h3 : Hint := ⟨[], [], 0⟩
def c4 : CS := ⟨1, [(1, .inp 0 [.i64, .i64, .i64]), (5, .int .i64 (.lit 5)), (6, .ptr 0 0), (7, .nils), (8, .int .i64 (.atm 0))],
  [.cells [.slice 1 0 1 (.rest 5), .slice 2 0 4 (.rest 3), .slice 3 0 1 (.rest 6)] 69,
   .cells [.int .u8 (.lit 8), .str [113], .int .i64 (.lit 5), .str [], .int .i64 (.lit 1)] 75,
   .cells [.str [97], .nils, .nils, .str [98], .nils, .nils, .str [100], .nils, .nils, .str [101], .nils, .nils] 79,
   .cells [.int .i64 (.lit (-1)), .int .i64 (.lit 0), .bool (.lit false), .int .i64 (.lit 0), .nils, .nils] 51],
  [(.lt (.atm 0) (.lit 0), false)], .sub (.lit 60) (.atm 0)⟩
def h4 : Hint := ⟨[], [], 0⟩
def c5 : CS := ⟨1, [(1, .inp 0 [.i64, .i64, .i64]), (5, .int .i64 (.lit 6)), (6, .ptr 0 0), (7, .nils), (8, .int .i64 (.atm 0))],
  [.cells [.slice 1 0 1 (.rest 5), .slice 2 0 4 (.rest 3), .slice 3 0 1 (.rest 6)] 69,
   .cells [.int .u8 (.lit 8), .str [113], .int .i64 (.lit 6), .str [], .int .i64 (.lit 1)] 75,
   .cells [.str [97], .nils, .nils, .str [98], .nils, .nils, .str [100], .nils, .nils, .str [101], .nils, .nils] 79,
   .cells [.int .i64 (.lit (-1)), .int .i64 (.lit 0), .bool (.lit false), .int .i64 (.lit 0), .nils, .nils] 51],
  [(.lt (.atm 0) (.lit 0), false)], .sub (.lit 60) (.atm 0)⟩
def h5 : Hint := ⟨[], [], 0⟩
def c6 : CS := ⟨1, [(1, .inp 0 [.i64, .i64, .i64]), (5, .int .i64 (.lit 7)), (6, .ptr 0 0), (7, .nils), (8, .int .i64 (.atm 0))],
  [.cells [.slice 1 0 1 (.rest 5), .slice 2 0 4 (.rest 3), .slice 3 0 1 (.rest 6)] 69,
   .cells [.int .u8 (.lit 8), .str [113], .int .i64 (.lit 7), .str [], .int .i64 (.lit 1)] 75,
   .cells [.str [97], .nils, .nils, .str [98], .nils, .nils, .str [100], .nils, .nils, .str [101], .nils, .nils] 79,
   .cells [.int .i64 (.lit (-1)), .int .i64 (.lit 0), .bool (.lit false), .int .i64 (.lit 0), .nils, .nils] 51],
  [(.lt (.atm 0) (.lit 0), false)], .sub (.lit 60) (.atm 0)⟩
def h6 : Hint := ⟨[], [], 0⟩
def c7 : CS := ⟨1, [(1, .inp 0 [.i64, .i64, .i64]), (5, .int .i64 (.lit 8)), (6, .ptr 0 0), (7, .nils), (8, .int .i64 (.atm 0))],
  [.cells [.slice 1 0 1 (.rest 5), .slice 2 0 4 (.rest 3), .slice 3 0 1 (.rest 6)] 69,
   .cells [.int .u8 (.lit 8), .str [113], .int .i64 (.lit 8), .str [], .int .i64 (.lit 1)] 75,
   .cells [.str [97], .nils, .nils, .str [98], .nils, .nils, .str [100], .nils, .nils, .str [101], .nils, .nils] 79,
   .cells [.int .i64 (.lit (-1)), .int .i64 (.lit 0), .bool (.lit false), .int .i64 (.lit 0), .nils, .nils] 51],
  [(.lt (.atm 0) (.lit 0), false)], .sub (.lit 60) (.atm 0)⟩
def h7 : Hint := ⟨[], [], 0⟩
def c8 : CS := ⟨1, [(1, .inp 0 [.i64, .i64, .i64]), (5, .int .i64 (.lit 9)), (6, .ptr 0 0), (7, .nils), (8, .int .i64 (.atm 0))],
  [.cells [.slice 1 0 1 (.rest 5), .slice 2 0 4 (.rest 3), .slice 3 0 1 (.rest 6)] 69,
   .cells [.int .u8 (.lit 8), .str [113], .int .i64 (.lit 9), .str [], .int .i64 (.lit 1)] 75,
   .cells [.str [97], .nils, .nils, .str [98], .nils, .nils, .str [100], .nils, .nils, .str [101], .nils, .nils] 79,
   .cells [.int .i64 (.lit (-1)), .int .i64 (.lit 0), .bool (.lit false), .int .i64 (.lit 0), .nils, .nils] 51],
  [(.lt (.atm 0) (.lit 0), false)], .sub (.lit 60) (.atm 0)⟩
def h8 : Hint := ⟨[], [], 0⟩
def c9 : CS := ⟨2, [(1, .inp 0 [.i64, .i64, .i64]), (5, .int .i64 (.lit 1)), (6, .ptr 0 0), (7, .slice 1 0 1 (.rest 1)), (8, .int .i64 (.atm 0))],
  [.cells [.slice 2 0 1 (.rest 5), .slice 3 0 4 (.rest 3), .slice 4 0 1 (.rest 6)] 69,
   .cells [.int .i64 (.atm 1)] 2,
   .cells [.int .u8 (.lit 8), .str [113], .int .i64 (.lit 1), .str [], .int .i64 (.lit 1)] 75,
   .cells [.str [97], .nils, .nils, .str [98], .nils, .nils, .str [100], .nils, .nils, .str [101], .nils, .nils] 79,
   .cells [.int .i64 (.lit (-1)), .int .i64 (.lit 0), .bool (.lit false), .int .i64 (.lit 0), .nils, .slice 5 0 1 (.rest 1)] 51,
   .cells [.int .i64 (.atm 1)] 2],
  [(.lt (.atm 0) (.lit 0), false)], .sub (.lit 60) (.atm 0)⟩
def h9 : Hint := ⟨[], [], 0⟩
def c10 : CS := ⟨2, [(1, .inp 0 [.i64, .i64, .i64]), (5, .int .i64 (.lit 2)), (6, .ptr 0 0), (7, .slice 1 0 1 (.rest 1)), (8, .int .i64 (.atm 0))],
  [.cells [.slice 2 0 1 (.rest 5), .slice 3 0 4 (.rest 3), .slice 4 0 1 (.rest 6)] 69,
   .cells [.int .i64 (.atm 1)] 2,
   .cells [.int .u8 (.lit 8), .str [113], .int .i64 (.lit 2), .str [], .int .i64 (.lit 1)] 75,
   .cells [.str [97], .nils, .nils, .str [98], .nils, .nils, .str [100], .nils, .nils, .str [101], .nils, .nils] 79,
   .cells [.int .i64 (.lit (-1)), .int .i64 (.lit 0), .bool (.lit false), .int .i64 (.lit 0), .nils, .slice 5 0 1 (.rest 1)] 51,
   .cells [.int .i64 (.atm 1)] 2],
  [(.lt (.atm 0) (.lit 0), false)], .sub (.lit 60) (.atm 0)⟩
def h10 : Hint := ⟨[], [], 0⟩
def c11 : CS := ⟨2, [(1, .inp 0 [.i64, .i64, .i64]), (5, .int .i64 (.lit 3)), (6, .ptr 0 0), (7, .slice 1 0 1 (.rest 1)), (8, .int .i64 (.atm 0))],
  [.cells [.slice 2 0 1 (.rest 5), .slice 3 0 4 (.rest 3), .slice 4 0 1 (.rest 6)] 69,
   .cells [.int .i64 (.atm 1)] 2,
   .cells [.int .u8 (.lit 8), .str [113], .int .i64 (.lit 3), .str [], .int .i64 (.lit 1)] 75,
   .cells [.str [97], .nils, .nils, .str [98], .nils, .nils, .str [100], .nils, .nils, .str [101], .nils, .nils] 79,
   .cells [.int .i64 (.lit (-1)), .int .i64 (.lit 0), .bool (.lit false), .int .i64 (.lit 0), .nils, .slice 5 0 1 (.rest 1)] 51,
   .cells [.int .i64 (.atm 1)] 2],
  [(.lt (.atm 0) (.lit 0), false)], .sub (.lit 60) (.atm 0)⟩
def h11 : Hint := ⟨[], [], 0⟩
def c12 : CS := ⟨2, [(1, .inp 0 [.i64, .i64, .i64]), (5, .int .i64 (.lit 4)), (6, .ptr 0 0), (7, .slice 1 0 1 (.rest 1)), (8, .int .i64 (.atm 0))],
  [.cells [.slice 2 0 1 (.rest 5), .slice 3 0 4 (.rest 3), .slice 4 0 1 (.rest 6)] 69,
   .cells [.int .i64 (.atm 1)] 2,
   .cells [.int .u8 (.lit 8), .str [113], .int .i64 (.lit 4), .str [], .int .i64 (.lit 1)] 75,
   .cells [.str [97], .nils, .nils, .str [98], .nils, .nils, .str [100], .nils, .nils, .str [101], .nils, .nils] 79,
   .cells [.int .i64 (.lit (-1)), .int .i64 (.lit 0), .bool (.lit false), .int .i64 (.lit 0), .nils, .slice 5 0 1 (.rest 1)] 51,
   .cells [.int .i64 (.atm 1)] 2],
  [(.lt (.atm 0) (.lit 0), false)], .sub (.lit 60) (.atm 0)⟩
def h12 : Hint := ⟨[], [], 0⟩
def c13 : CS := ⟨2, [(1, .inp 0 [.i64, .i64, .i64]), (5, .int .i64 (.lit 5)), (6, .ptr 0 0), (7, .slice 1 0 1 (.rest 1)), (8, .int .i64 (.atm 0))],
  [.cells [.slice 2 0 1 (.rest 5), .slice 3 0 4 (.rest 3), .slice 4 0 1 (.rest 6)] 69,
   .cells [.int .i64 (.atm 1)] 2,
   .cells [.int .u8 (.lit 8), .str [113], .int .i64 (.lit 5), .str [], .int .i64 (.lit 1)] 75,
   .cells [.str [97], .nils, .nils, .str [98], .nils, .nils, .str [100], .nils, .nils, .str [101], .nils, .nils] 79,
   .cells [.int .i64 (.lit (-1)), .int .i64 (.lit 0), .bool (.lit false), .int .i64 (.lit 0), .nils, .slice 5 0 1 (.rest 1)] 51,
   .cells [.int .i64 (.atm 1)] 2],
  [(.lt (.atm 0) (.lit 0), false)], .sub (.lit 60) (.atm 0)⟩
def h13 : Hint := ⟨[], [], 0⟩
def c14 : CS := ⟨2, [(1, .inp 0 [.i64, .i64, .i64]), (5, .int .i64 (.lit 6)), (6, .ptr 0 0), (7, .slice 1 0 1 (.rest 1)), (8, .int .i64 (.atm 0))],
  [.cells [.slice 2 0 1 (.rest 5), .slice 3 0 4 (.rest 3), .slice 4 0 1 (.rest 6)] 69,
   .cells [.int .i64 (.atm 1)] 2,
   .cells [.int .u8 (.lit 8), .str [113], .int .i64 (.lit 6), .str [], .int .i64 (.lit 1)] 75,
   .cells [.str [97], .nils, .nils, .str [98], .nils, .nils, .str [100], .nils, .nils, .str [101], .nils, .nils] 79,
   .cells [.int .i64 (.lit (-1)), .int .i64 (.lit 0), .bool (.lit false), .int .i64 (.lit 0), .nils, .slice 5 0 1 (.rest 1)] 51,
   .cells [.int .i64 (.atm 1)] 2],
  [(.lt (.atm 0) (.lit 0), false)], .sub (.lit 60) (.atm 0)⟩
def h14 : Hint := ⟨[], [], 0⟩
def c15 : CS := ⟨2, [(1, .inp 0 [.i64, .i64, .i64]), (5, .int .i64 (.lit 7)), (6, .ptr 0 0), (7, .slice 1 0 1 (.rest 1)), (8, .int .i64 (.atm 0))],
  [.cells [.slice 2 0 1 (.rest 5), .slice 3 0 4 (.rest 3), .slice 4 0 1 (.rest 6)] 69,
   .cells [.int .i64 (.atm 1)] 2,
   .cells [.int .u8 (.lit 8), .str [113], .int .i64 (.lit 7), .str [], .int .i64 (.lit 1)] 75,
   .cells [.str [97], .nils, .nils, .str [98], .nils, .nils, .str [100], .nils, .nils, .str [101], .nils, .nils] 79,
   .cells [.int .i64 (.lit (-1)), .int .i64 (.lit 0), .bool (.lit false), .int .i64 (.lit 0), .nils, .slice 5 0 1 (.rest 1)] 51,
   .cells [.int .i64 (.atm 1)] 2],
  [(.lt (.atm 0) (.lit 0), false)], .sub (.lit 60) (.atm 0)⟩
def h15 : Hint := ⟨[], [], 0⟩
def c16 : CS := ⟨2, [(1, .inp 0 [.i64, .i64, .i64]), (5, .int .i64 (.lit 8)), (6, .ptr 0 0), (7, .slice 1 0 1 (.rest 1)), (8, .int .i64 (.atm 0))],
  [.cells [.slice 2 0 1 (.rest 5), .slice 3 0 4 (.rest 3), .slice 4 0 1 (.rest 6)] 69,
   .cells [.int .i64 (.atm 1)] 2,
   .cells [.int .u8 (.lit 8), .str [113], .int .i64 (.lit 8), .str [], .int .i64 (.lit 1)] 75,
   .cells [.str [97], .nils, .nils, .str [98], .nils, .nils, .str [100], .nils, .nils, .str [101], .nils, .nils] 79,
   .cells [.int .i64 (.lit (-1)), .int .i64 (.lit 0), .bool (.lit false), .int .i64 (.lit 0), .nils, .slice 5 0 1 (.rest 1)] 51,
   .cells [.int .i64 (.atm 1)] 2],
  [(.lt (.atm 0) (.lit 0), false)], .sub (.lit 60) (.atm 0)⟩
def h16 : Hint := ⟨[], [], 0⟩
def c17 : CS := ⟨2, [(1, .inp 0 [.i64, .i64, .i64]), (5, .int .i64 (.lit 9)), (6, .ptr 0 0), (7, .slice 1 0 1 (.rest 1)), (8, .int .i64 (.atm 0))],
  [.cells [.slice 2 0 1 (.rest 5), .slice 3 0 4 (.rest 3), .slice 4 0 1 (.rest 6)] 69,
   .cells [.int .i64 (.atm 1)] 2,
   .cells [.int .u8 (.lit 8), .str [113], .int .i64 (.lit 9), .str [], .int .i64 (.lit 1)] 75,
   .cells [.str [97], .nils, .nils, .str [98], .nils, .nils, .str [100], .nils, .nils, .str [101], .nils, .nils] 79,
   .cells [.int .i64 (.lit (-1)), .int .i64 (.lit 0), .bool (.lit false), .int .i64 (.lit 0), .nils, .slice 5 0 1 (.rest 1)] 51,
   .cells [.int .i64 (.atm 1)] 2],
  [(.lt (.atm 0) (.lit 0), false)], .sub (.lit 60) (.atm 0)⟩
def h17 : Hint := ⟨[], [], 0⟩
def c18 : CS := ⟨1, [(1, .inp 0 [.i64, .i64, .i64]), (5, .int .i64 (.lit 1)), (6, .ptr 0 0), (7, .slice 1 0 0 (.rest 1)), (8, .int .i64 (.atm 0))],
  [.cells [.slice 2 0 1 (.rest 5), .slice 3 0 4 (.rest 3), .slice 4 0 1 (.rest 6)] 69,
   .cells [] 2,
   .cells [.int .u8 (.lit 8), .str [113], .int .i64 (.lit 1), .str [], .int .i64 (.lit 1)] 75,
   .cells [.str [97], .nils, .nils, .str [98], .nils, .nils, .str [100], .nils, .nils, .str [101], .nils, .nils] 79,
   .cells [.int .i64 (.lit (-1)), .int .i64 (.lit 0), .bool (.lit false), .int .i64 (.lit 0), .nils, .slice 5 0 0 (.rest 1)] 51,
   .cells [] 2],
  [(.lt (.atm 0) (.lit 0), false)], .sub (.lit 60) (.atm 0)⟩
def h18 : Hint := ⟨[], [], 0⟩
def c19 : CS := ⟨3, [(1, .inp 0 [.i64, .i64, .i64]), (5, .int .i64 (.lit 2)), (6, .ptr 0 0), (7, .slice 1 0 2 (.rest 1)), (8, .int .i64 (.atm 0))],
  [.cells [.slice 2 0 1 (.rest 5), .slice 3 0 4 (.rest 3), .slice 4 0 1 (.rest 6)] 69,
   .cells [.int .i64 (.atm 1), .int .i64 (.atm 2)] 2,
   .cells [.int .u8 (.lit 8), .str [113], .int .i64 (.lit 2), .str [], .int .i64 (.lit 1)] 75,
   .cells [.str [97], .nils, .nils, .str [98], .nils, .nils, .str [100], .nils, .nils, .str [101], .nils, .nils] 79,
   .cells [.int .i64 (.lit (-1)), .int .i64 (.lit 0), .bool (.lit false), .int .i64 (.lit 0), .nils, .slice 5 0 2 (.rest 1)] 51,
   .cells [.int .i64 (.atm 1), .int .i64 (.atm 2)] 2],
  [(.lt (.atm 0) (.lit 0), false)], .sub (.lit 60) (.atm 0)⟩
def h19 : Hint := ⟨[], [], 0⟩
def c20 : CS := ⟨1, [(1, .inp 0 [.i64, .i64, .i64]), (5, .int .i64 (.lit 2)), (6, .ptr 0 0), (7, .slice 1 0 0 (.rest 1)), (8, .int .i64 (.atm 0))],
  [.cells [.slice 2 0 1 (.rest 5), .slice 3 0 4 (.rest 3), .slice 4 0 1 (.rest 6)] 69,
   .cells [] 2,
   .cells [.int .u8 (.lit 8), .str [113], .int .i64 (.lit 2), .str [], .int .i64 (.lit 1)] 75,
   .cells [.str [97], .nils, .nils, .str [98], .nils, .nils, .str [100], .nils, .nils, .str [101], .nils, .nils] 79,
   .cells [.int .i64 (.lit (-1)), .int .i64 (.lit 0), .bool (.lit false), .int .i64 (.lit 0), .nils, .slice 5 0 0 (.rest 1)] 51,
   .cells [] 2],
  [(.lt (.atm 0) (.lit 0), false)], .sub (.lit 60) (.atm 0)⟩
def h20 : Hint := ⟨[], [], 0⟩
def c21 : CS := ⟨3, [(1, .inp 0 [.i64, .i64, .i64]), (5, .int .i64 (.lit 3)), (6, .ptr 0 0), (7, .slice 1 0 2 (.rest 1)), (8, .int .i64 (.atm 0))],
  [.cells [.slice 2 0 1 (.rest 5), .slice 3 0 4 (.rest 3), .slice 4 0 1 (.rest 6)] 69,
   .cells [.int .i64 (.atm 1), .int .i64 (.atm 2)] 2,
   .cells [.int .u8 (.lit 8), .str [113], .int .i64 (.lit 3), .str [], .int .i64 (.lit 1)] 75,
   .cells [.str [97], .nils, .nils, .str [98], .nils, .nils, .str [100], .nils, .nils, .str [101], .nils, .nils] 79,
   .cells [.int .i64 (.lit (-1)), .int .i64 (.lit 0), .bool (.lit false), .int .i64 (.lit 0), .nils, .slice 5 0 2 (.rest 1)] 51,
   .cells [.int .i64 (.atm 1), .int .i64 (.atm 2)] 2],
  [(.lt (.atm 0) (.lit 0), false)], .sub (.lit 60) (.atm 0)⟩
def h21 : Hint := ⟨[], [], 0⟩
def c22 : CS := ⟨1, [(1, .inp 0 [.i64, .i64, .i64]), (5, .int .i64 (.lit 3)), (6, .ptr 0 0), (7, .slice 1 0 0 (.rest 1)), (8, .int .i64 (.atm 0))],
  [.cells [.slice 2 0 1 (.rest 5), .slice 3 0 4 (.rest 3), .slice 4 0 1 (.rest 6)] 69,
   .cells [] 2,
   .cells [.int .u8 (.lit 8), .str [113], .int .i64 (.lit 3), .str [], .int .i64 (.lit 1)] 75,
   .cells [.str [97], .nils, .nils, .str [98], .nils, .nils, .str [100], .nils, .nils, .str [101], .nils, .nils] 79,
   .cells [.int .i64 (.lit (-1)), .int .i64 (.lit 0), .bool (.lit false), .int .i64 (.lit 0), .nils, .slice 5 0 0 (.rest 1)] 51,
   .cells [] 2],
  [(.lt (.atm 0) (.lit 0), false)], .sub (.lit 60) (.atm 0)⟩
def h22 : Hint := ⟨[], [], 0⟩
def c23 : CS := ⟨3, [(1, .inp 0 [.i64, .i64, .i64]), (5, .int .i64 (.lit 4)), (6, .ptr 0 0), (7, .slice 1 0 2 (.rest 1)), (8, .int .i64 (.atm 0))],
  [.cells [.slice 2 0 1 (.rest 5), .slice 3 0 4 (.rest 3), .slice 4 0 1 (.rest 6)] 69,
   .cells [.int .i64 (.atm 1), .int .i64 (.atm 2)] 2,
   .cells [.int .u8 (.lit 8), .str [113], .int .i64 (.lit 4), .str [], .int .i64 (.lit 1)] 75,
   .cells [.str [97], .nils, .nils, .str [98], .nils, .nils, .str [100], .nils, .nils, .str [101], .nils, .nils] 79,
   .cells [.int .i64 (.lit (-1)), .int .i64 (.lit 0), .bool (.lit false), .int .i64 (.lit 0), .nils, .slice 5 0 2 (.rest 1)] 51,
   .cells [.int .i64 (.atm 1), .int .i64 (.atm 2)] 2],
  [(.lt (.atm 0) (.lit 0), false)], .sub (.lit 60) (.atm 0)⟩
def h23 : Hint := ⟨[], [], 0⟩
def c24 : CS := ⟨1, [(1, .inp 0 [.i64, .i64, .i64]), (5, .int .i64 (.lit 4)), (6, .ptr 0 0), (7, .slice 1 0 0 (.rest 1)), (8, .int .i64 (.atm 0))],
  [.cells [.slice 2 0 1 (.rest 5), .slice 3 0 4 (.rest 3), .slice 4 0 1 (.rest 6)] 69,
   .cells [] 2,
   .cells [.int .u8 (.lit 8), .str [113], .int .i64 (.lit 4), .str [], .int .i64 (.lit 1)] 75,
   .cells [.str [97], .nils, .nils, .str [98], .nils, .nils, .str [100], .nils, .nils, .str [101], .nils, .nils] 79,
   .cells [.int .i64 (.lit (-1)), .int .i64 (.lit 0), .bool (.lit false), .int .i64 (.lit 0), .nils, .slice 5 0 0 (.rest 1)] 51,
   .cells [] 2],
  [(.lt (.atm 0) (.lit 0), false)], .sub (.lit 60) (.atm 0)⟩
def h24 : Hint := ⟨[], [], 0⟩
def c25 : CS := ⟨3, [(1, .inp 0 [.i64, .i64, .i64]), (5, .int .i64 (.lit 5)), (6, .ptr 0 0), (7, .slice 1 0 2 (.rest 1)), (8, .int .i64 (.atm 0))],
  [.cells [.slice 2 0 1 (.rest 5), .slice 3 0 4 (.rest 3), .slice 4 0 1 (.rest 6)] 69,
   .cells [.int .i64 (.atm 1), .int .i64 (.atm 2)] 2,
   .cells [.int .u8 (.lit 8), .str [113], .int .i64 (.lit 5), .str [], .int .i64 (.lit 1)] 75,
   .cells [.str [97], .nils, .nils, .str [98], .nils, .nils, .str [100], .nils, .nils, .str [101], .nils, .nils] 79,
   .cells [.int .i64 (.lit (-1)), .int .i64 (.lit 0), .bool (.lit false), .int .i64 (.lit 0), .nils, .slice 5 0 2 (.rest 1)] 51,
   .cells [.int .i64 (.atm 1), .int .i64 (.atm 2)] 2],
  [(.lt (.atm 0) (.lit 0), false)], .sub (.lit 60) (.atm 0)⟩
def h25 : Hint := ⟨[], [], 0⟩
def c26 : CS := ⟨1, [(1, .inp 0 [.i64, .i64, .i64]), (5, .int .i64 (.lit 5)), (6, .ptr 0 0), (7, .slice 1 0 0 (.rest 1)), (8, .int .i64 (.atm 0))],
  [.cells [.slice 2 0 1 (.rest 5), .slice 3 0 4 (.rest 3), .slice 4 0 1 (.rest 6)] 69,
   .cells [] 2,
   .cells [.int .u8 (.lit 8), .str [113], .int .i64 (.lit 5), .str [], .int .i64 (.lit 1)] 75,
   .cells [.str [97], .nils, .nils, .str [98], .nils, .nils, .str [100], .nils, .nils, .str [101], .nils, .nils] 79,
   .cells [.int .i64 (.lit (-1)), .int .i64 (.lit 0), .bool (.lit false), .int .i64 (.lit 0), .nils, .slice 5 0 0 (.rest 1)] 51,
   .cells [] 2],
  [(.lt (.atm 0) (.lit 0), false)], .sub (.lit 60) (.atm 0)⟩
def h26 : Hint := ⟨[], [], 0⟩
def c27 : CS := ⟨3, [(1, .inp 0 [.i64, .i64, .i64]), (5, .int .i64 (.lit 6)), (6, .ptr 0 0), (7, .slice 1 0 2 (.rest 1)), (8, .int .i64 (.atm 0))],
  [.cells [.slice 2 0 1 (.rest 5), .slice 3 0 4 (.rest 3), .slice 4 0 1 (.rest 6)] 69,
   .cells [.int .i64 (.atm 1), .int .i64 (.atm 2)] 2,
   .cells [.int .u8 (.lit 8), .str [113], .int .i64 (.lit 6), .str [], .int .i64 (.lit 1)] 75,
   .cells [.str [97], .nils, .nils, .str [98], .nils, .nils, .str [100], .nils, .nils, .str [101], .nils, .nils] 79,
   .cells [.int .i64 (.lit (-1)), .int .i64 (.lit 0), .bool (.lit false), .int .i64 (.lit 0), .nils, .slice 5 0 2 (.rest 1)] 51,
   .cells [.int .i64 (.atm 1), .int .i64 (.atm 2)] 2],
  [(.lt (.atm 0) (.lit 0), false)], .sub (.lit 60) (.atm 0)⟩
def h27 : Hint := ⟨[], [], 0⟩
def c28 : CS := ⟨1, [(1, .inp 0 [.i64, .i64, .i64]), (5, .int .i64 (.lit 6)), (6, .ptr 0 0), (7, .slice 1 0 0 (.rest 1)), (8, .int .i64 (.atm 0))],
  [.cells [.slice 2 0 1 (.rest 5), .slice 3 0 4 (.rest 3), .slice 4 0 1 (.rest 6)] 69,
   .cells [] 2,
   .cells [.int .u8 (.lit 8), .str [113], .int .i64 (.lit 6), .str [], .int .i64 (.lit 1)] 75,
   .cells [.str [97], .nils, .nils, .str [98], .nils, .nils, .str [100], .nils, .nils, .str [101], .nils, .nils] 79,
   .cells [.int .i64 (.lit (-1)), .int .i64 (.lit 0), .bool (.lit false), .int .i64 (.lit 0), .nils, .slice 5 0 0 (.rest 1)] 51,
   .cells [] 2],
  [(.lt (.atm 0) (.lit 0), false)], .sub (.lit 60) (.atm 0)⟩
def h28 : Hint := ⟨[], [], 0⟩
def c29 : CS := ⟨3, [(1, .inp 0 [.i64, .i64, .i64]), (5, .int .i64 (.lit 7)), (6, .ptr 0 0), (7, .slice 1 0 2 (.rest 1)), (8, .int .i64 (.atm 0))],
  [.cells [.slice 2 0 1 (.rest 5), .slice 3 0 4 (.rest 3), .slice 4 0 1 (.rest 6)] 69,
   .cells [.int .i64 (.atm 1), .int .i64 (.atm 2)] 2,
   .cells [.int .u8 (.lit 8), .str [113], .int .i64 (.lit 7), .str [], .int .i64 (.lit 1)] 75,
   .cells [.str [97], .nils, .nils, .str [98], .nils, .nils, .str [100], .nils, .nils, .str [101], .nils, .nils] 79,
   .cells [.int .i64 (.lit (-1)), .int .i64 (.lit 0), .bool (.lit false), .int .i64 (.lit 0), .nils, .slice 5 0 2 (.rest 1)] 51,
   .cells [.int .i64 (.atm 1), .int .i64 (.atm 2)] 2],
  [(.lt (.atm 0) (.lit 0), false)], .sub (.lit 60) (.atm 0)⟩
def h29 : Hint := ⟨[], [], 0⟩
def c30 : CS := ⟨1, [(1, .inp 0 [.i64, .i64, .i64]), (5, .int .i64 (.lit 7)), (6, .ptr 0 0), (7, .slice 1 0 0 (.rest 1)), (8, .int .i64 (.atm 0))],
  [.cells [.slice 2 0 1 (.rest 5), .slice 3 0 4 (.rest 3), .slice 4 0 1 (.rest 6)] 69,
   .cells [] 2,
   .cells [.int .u8 (.lit 8), .str [113], .int .i64 (.lit 7), .str [], .int .i64 (.lit 1)] 75,
   .cells [.str [97], .nils, .nils, .str [98], .nils, .nils, .str [100], .nils, .nils, .str [101], .nils, .nils] 79,
   .cells [.int .i64 (.lit (-1)), .int .i64 (.lit 0), .bool (.lit false), .int .i64 (.lit 0), .nils, .slice 5 0 0 (.rest 1)] 51,
   .cells [] 2],
  [(.lt (.atm 0) (.lit 0), false)], .sub (.lit 60) (.atm 0)⟩
def h30 : Hint := ⟨[], [], 0⟩
def c31 : CS := ⟨3, [(1, .inp 0 [.i64, .i64, .i64]), (5, .int .i64 (.lit 8)), (6, .ptr 0 0), (7, .slice 1 0 2 (.rest 1)), (8, .int .i64 (.atm 0))],
  [.cells [.slice 2 0 1 (.rest 5), .slice 3 0 4 (.rest 3), .slice 4 0 1 (.rest 6)] 69,
   .cells [.int .i64 (.atm 1), .int .i64 (.atm 2)] 2,
   .cells [.int .u8 (.lit 8), .str [113], .int .i64 (.lit 8), .str [], .int .i64 (.lit 1)] 75,
   .cells [.str [97], .nils, .nils, .str [98], .nils, .nils, .str [100], .nils, .nils, .str [101], .nils, .nils] 79,
   .cells [.int .i64 (.lit (-1)), .int .i64 (.lit 0), .bool (.lit false), .int .i64 (.lit 0), .nils, .slice 5 0 2 (.rest 1)] 51,
   .cells [.int .i64 (.atm 1), .int .i64 (.atm 2)] 2],
  [(.lt (.atm 0) (.lit 0), false)], .sub (.lit 60) (.atm 0)⟩
def h31 : Hint := ⟨[], [], 0⟩
def c32 : CS := ⟨1, [(1, .inp 0 [.i64, .i64, .i64]), (5, .int .i64 (.lit 8)), (6, .ptr 0 0), (7, .slice 1 0 0 (.rest 1)), (8, .int .i64 (.atm 0))],
  [.cells [.slice 2 0 1 (.rest 5), .slice 3 0 4 (.rest 3), .slice 4 0 1 (.rest 6)] 69,
   .cells [] 2,
   .cells [.int .u8 (.lit 8), .str [113], .int .i64 (.lit 8), .str [], .int .i64 (.lit 1)] 75,
   .cells [.str [97], .nils, .nils, .str [98], .nils, .nils, .str [100], .nils, .nils, .str [101], .nils, .nils] 79,
   .cells [.int .i64 (.lit (-1)), .int .i64 (.lit 0), .bool (.lit false), .int .i64 (.lit 0), .nils, .slice 5 0 0 (.rest 1)] 51,
   .cells [] 2],
  [(.lt (.atm 0) (.lit 0), false)], .sub (.lit 60) (.atm 0)⟩
def h32 : Hint := ⟨[], [], 0⟩
def c33 : CS := ⟨3, [(1, .inp 0 [.i64, .i64, .i64]), (5, .int .i64 (.lit 9)), (6, .ptr 0 0), (7, .slice 1 0 2 (.rest 1)), (8, .int .i64 (.atm 0))],
  [.cells [.slice 2 0 1 (.rest 5), .slice 3 0 4 (.rest 3), .slice 4 0 1 (.rest 6)] 69,
   .cells [.int .i64 (.atm 1), .int .i64 (.atm 2)] 2,
   .cells [.int .u8 (.lit 8), .str [113], .int .i64 (.lit 9), .str [], .int .i64 (.lit 1)] 75,
   .cells [.str [97], .nils, .nils, .str [98], .nils, .nils, .str [100], .nils, .nils, .str [101], .nils, .nils] 79,
   .cells [.int .i64 (.lit (-1)), .int .i64 (.lit 0), .bool (.lit false), .int .i64 (.lit 0), .nils, .slice 5 0 2 (.rest 1)] 51,
   .cells [.int .i64 (.atm 1), .int .i64 (.atm 2)] 2],
  [(.lt (.atm 0) (.lit 0), false)], .sub (.lit 60) (.atm 0)⟩
def h33 : Hint := ⟨[], [], 0⟩
def c34 : CS := ⟨1, [(1, .inp 0 [.i64, .i64, .i64]), (5, .int .i64 (.lit 9)), (6, .ptr 0 0), (7, .slice 1 0 0 (.rest 1)), (8, .int .i64 (.atm 0))],
  [.cells [.slice 2 0 1 (.rest 5), .slice 3 0 4 (.rest 3), .slice 4 0 1 (.rest 6)] 69,
   .cells [] 2,
   .cells [.int .u8 (.lit 8), .str [113], .int .i64 (.lit 9), .str [], .int .i64 (.lit 1)] 75,
   .cells [.str [97], .nils, .nils, .str [98], .nils, .nils, .str [100], .nils, .nils, .str [101], .nils, .nils] 79,
   .cells [.int .i64 (.lit (-1)), .int .i64 (.lit 0), .bool (.lit false), .int .i64 (.lit 0), .nils, .slice 5 0 0 (.rest 1)] 51,
   .cells [] 2],
  [(.lt (.atm 0) (.lit 0), false)], .sub (.lit 60) (.atm 0)⟩
def h34 : Hint := ⟨[], [], 0⟩
def c35 : CS := ⟨1, [(1, .inp 0 [.i64, .i64, .i64]), (5, .int .i64 (.lit 1)), (6, .ptr 0 0), (7, .slice 1 0 0 (.rest 1)), (8, .int .i64 (.atm 0))],
  [.cells [.slice 2 0 1 (.rest 5), .slice 3 0 4 (.rest 3), .slice 4 0 1 (.rest 6)] 69,
   .cells [] 2,
   .cells [.int .u8 (.lit 8), .str [113], .int .i64 (.lit 1), .str [], .int .i64 (.lit 1)] 75,
   .cells [.str [97], .nils, .nils, .str [98], .nils, .nils, .str [100], .nils, .nils, .str [101], .nils, .nils] 79,
   .cells [.int .i64 (.lit (-1)), .int .i64 (.lit 0), .bool (.lit false), .int .i64 (.lit 0), .nils, .slice 5 0 0 (.exact 0)] 51,
   .cells [] 2],
  [(.lt (.atm 0) (.lit 0), false)], .sub (.lit 60) (.atm 0)⟩
def h35 : Hint := ⟨[], [], 0⟩
def c36 : CS := ⟨1, [(1, .inp 0 [.i64, .i64, .i64]), (5, .int .i64 (.lit 2)), (6, .ptr 0 0), (7, .slice 1 0 0 (.rest 1)), (8, .int .i64 (.atm 0))],
  [.cells [.slice 2 0 1 (.rest 5), .slice 3 0 4 (.rest 3), .slice 4 0 1 (.rest 6)] 69,
   .cells [] 2,
   .cells [.int .u8 (.lit 8), .str [113], .int .i64 (.lit 2), .str [], .int .i64 (.lit 1)] 75,
   .cells [.str [97], .nils, .nils, .str [98], .nils, .nils, .str [100], .nils, .nils, .str [101], .nils, .nils] 79,
   .cells [.int .i64 (.lit (-1)), .int .i64 (.lit 0), .bool (.lit false), .int .i64 (.lit 0), .nils, .slice 5 0 0 (.exact 0)] 51,
   .cells [] 2],
  [(.lt (.atm 0) (.lit 0), false)], .sub (.lit 60) (.atm 0)⟩
def h36 : Hint := ⟨[], [], 0⟩
def c37 : CS := ⟨4, [(1, .inp 0 [.i64, .i64, .i64]), (5, .int .i64 (.lit 3)), (6, .ptr 0 0), (7, .slice 1 0 3 (.rest 1)), (8, .int .i64 (.atm 0))],
  [.cells [.slice 2 0 1 (.rest 5), .slice 3 0 4 (.rest 3), .slice 4 0 1 (.rest 6)] 69,
   .cells [.int .i64 (.atm 1), .int .i64 (.atm 2), .int .i64 (.atm 3)] 2,
   .cells [.int .u8 (.lit 8), .str [113], .int .i64 (.lit 3), .str [], .int .i64 (.lit 1)] 75,
   .cells [.str [97], .nils, .nils, .str [98], .nils, .nils, .str [100], .nils, .nils, .str [101], .nils, .nils] 79,
   .cells [.int .i64 (.lit (-1)), .int .i64 (.lit 0), .bool (.lit false), .int .i64 (.lit 0), .nils, .slice 5 0 3 (.rest 1)] 51,
   .cells [.int .i64 (.atm 1), .int .i64 (.atm 2), .int .i64 (.atm 3)] 2],
  [(.lt (.atm 0) (.lit 0), false)], .sub (.lit 60) (.atm 0)⟩
def h37 : Hint := ⟨[], [], 0⟩
def c38 : CS := ⟨1, [(1, .inp 0 [.i64, .i64, .i64]), (5, .int .i64 (.lit 3)), (6, .ptr 0 0), (7, .slice 1 0 0 (.rest 1)), (8, .int .i64 (.atm 0))],
  [.cells [.slice 2 0 1 (.rest 5), .slice 3 0 4 (.rest 3), .slice 4 0 1 (.rest 6)] 69,
   .cells [] 2,
   .cells [.int .u8 (.lit 8), .str [113], .int .i64 (.lit 3), .str [], .int .i64 (.lit 1)] 75,
   .cells [.str [97], .nils, .nils, .str [98], .nils, .nils, .str [100], .nils, .nils, .str [101], .nils, .nils] 79,
   .cells [.int .i64 (.lit (-1)), .int .i64 (.lit 0), .bool (.lit false), .int .i64 (.lit 0), .nils, .slice 5 0 0 (.exact 0)] 51,
   .cells [] 2],
  [(.lt (.atm 0) (.lit 0), false)], .sub (.lit 60) (.atm 0)⟩
def h38 : Hint := ⟨[], [], 0⟩
def c39 : CS := ⟨4, [(1, .inp 0 [.i64, .i64, .i64]), (5, .int .i64 (.lit 4)), (6, .ptr 0 0), (7, .slice 1 0 3 (.rest 1)), (8, .int .i64 (.atm 0))],
  [.cells [.slice 2 0 1 (.rest 5), .slice 3 0 4 (.rest 3), .slice 4 0 1 (.rest 6)] 69,
   .cells [.int .i64 (.atm 1), .int .i64 (.atm 2), .int .i64 (.atm 3)] 2,
   .cells [.int .u8 (.lit 8), .str [113], .int .i64 (.lit 4), .str [], .int .i64 (.lit 1)] 75,
   .cells [.str [97], .nils, .nils, .str [98], .nils, .nils, .str [100], .nils, .nils, .str [101], .nils, .nils] 79,
   .cells [.int .i64 (.lit (-1)), .int .i64 (.lit 0), .bool (.lit false), .int .i64 (.lit 0), .nils, .slice 5 0 3 (.rest 1)] 51,
   .cells [.int .i64 (.atm 1), .int .i64 (.atm 2), .int .i64 (.atm 3)] 2],
  [(.lt (.atm 0) (.lit 0), false)], .sub (.lit 60) (.atm 0)⟩
def h39 : Hint := ⟨[], [], 0⟩
def c40 : CS := ⟨1, [(1, .inp 0 [.i64, .i64, .i64]), (5, .int .i64 (.lit 4)), (6, .ptr 0 0), (7, .slice 1 0 0 (.rest 1)), (8, .int .i64 (.atm 0))],
  [.cells [.slice 2 0 1 (.rest 5), .slice 3 0 4 (.rest 3), .slice 4 0 1 (.rest 6)] 69,
   .cells [] 2,
   .cells [.int .u8 (.lit 8), .str [113], .int .i64 (.lit 4), .str [], .int .i64 (.lit 1)] 75,
   .cells [.str [97], .nils, .nils, .str [98], .nils, .nils, .str [100], .nils, .nils, .str [101], .nils, .nils] 79,
   .cells [.int .i64 (.lit (-1)), .int .i64 (.lit 0), .bool (.lit false), .int .i64 (.lit 0), .nils, .slice 5 0 0 (.exact 0)] 51,
   .cells [] 2],
  [(.lt (.atm 0) (.lit 0), false)], .sub (.lit 60) (.atm 0)⟩
def h40 : Hint := ⟨[], [], 0⟩
def c41 : CS := ⟨4, [(1, .inp 0 [.i64, .i64, .i64]), (5, .int .i64 (.lit 5)), (6, .ptr 0 0), (7, .slice 1 0 3 (.rest 1)), (8, .int .i64 (.atm 0))],
  [.cells [.slice 2 0 1 (.rest 5), .slice 3 0 4 (.rest 3), .slice 4 0 1 (.rest 6)] 69,
   .cells [.int .i64 (.atm 1), .int .i64 (.atm 2), .int .i64 (.atm 3)] 2,
   .cells [.int .u8 (.lit 8), .str [113], .int .i64 (.lit 5), .str [], .int .i64 (.lit 1)] 75,
   .cells [.str [97], .nils, .nils, .str [98], .nils, .nils, .str [100], .nils, .nils, .str [101], .nils, .nils] 79,
   .cells [.int .i64 (.lit (-1)), .int .i64 (.lit 0), .bool (.lit false), .int .i64 (.lit 0), .nils, .slice 5 0 3 (.rest 1)] 51,
   .cells [.int .i64 (.atm 1), .int .i64 (.atm 2), .int .i64 (.atm 3)] 2],
  [(.lt (.atm 0) (.lit 0), false)], .sub (.lit 60) (.atm 0)⟩
def h41 : Hint := ⟨[], [], 0⟩
def c42 : CS := ⟨1, [(1, .inp 0 [.i64, .i64, .i64]), (5, .int .i64 (.lit 5)), (6, .ptr 0 0), (7, .slice 1 0 0 (.rest 1)), (8, .int .i64 (.atm 0))],
  [.cells [.slice 2 0 1 (.rest 5), .slice 3 0 4 (.rest 3), .slice 4 0 1 (.rest 6)] 69,
   .cells [] 2,
   .cells [.int .u8 (.lit 8), .str [113], .int .i64 (.lit 5), .str [], .int .i64 (.lit 1)] 75,
   .cells [.str [97], .nils, .nils, .str [98], .nils, .nils, .str [100], .nils, .nils, .str [101], .nils, .nils] 79,
   .cells [.int .i64 (.lit (-1)), .int .i64 (.lit 0), .bool (.lit false), .int .i64 (.lit 0), .nils, .slice 5 0 0 (.exact 0)] 51,
   .cells [] 2],
  [(.lt (.atm 0) (.lit 0), false)], .sub (.lit 60) (.atm 0)⟩
def h42 : Hint := ⟨[], [], 0⟩
def c43 : CS := ⟨4, [(1, .inp 0 [.i64, .i64, .i64]), (5, .int .i64 (.lit 6)), (6, .ptr 0 0), (7, .slice 1 0 3 (.rest 1)), (8, .int .i64 (.atm 0))],
  [.cells [.slice 2 0 1 (.rest 5), .slice 3 0 4 (.rest 3), .slice 4 0 1 (.rest 6)] 69,
   .cells [.int .i64 (.atm 1), .int .i64 (.atm 2), .int .i64 (.atm 3)] 2,
   .cells [.int .u8 (.lit 8), .str [113], .int .i64 (.lit 6), .str [], .int .i64 (.lit 1)] 75,
   .cells [.str [97], .nils, .nils, .str [98], .nils, .nils, .str [100], .nils, .nils, .str [101], .nils, .nils] 79,
   .cells [.int .i64 (.lit (-1)), .int .i64 (.lit 0), .bool (.lit false), .int .i64 (.lit 0), .nils, .slice 5 0 3 (.rest 1)] 51,
   .cells [.int .i64 (.atm 1), .int .i64 (.atm 2), .int .i64 (.atm 3)] 2],
  [(.lt (.atm 0) (.lit 0), false)], .sub (.lit 60) (.atm 0)⟩
def h43 : Hint := ⟨[], [], 0⟩
def c44 : CS := ⟨1, [(1, .inp 0 [.i64, .i64, .i64]), (5, .int .i64 (.lit 6)), (6, .ptr 0 0), (7, .slice 1 0 0 (.rest 1)), (8, .int .i64 (.atm 0))],
  [.cells [.slice 2 0 1 (.rest 5), .slice 3 0 4 (.rest 3), .slice 4 0 1 (.rest 6)] 69,
   .cells [] 2,
   .cells [.int .u8 (.lit 8), .str [113], .int .i64 (.lit 6), .str [], .int .i64 (.lit 1)] 75,
   .cells [.str [97], .nils, .nils, .str [98], .nils, .nils, .str [100], .nils, .nils, .str [101], .nils, .nils] 79,
   .cells [.int .i64 (.lit (-1)), .int .i64 (.lit 0), .bool (.lit false), .int .i64 (.lit 0), .nils, .slice 5 0 0 (.exact 0)] 51,
   .cells [] 2],
  [(.lt (.atm 0) (.lit 0), false)], .sub (.lit 60) (.atm 0)⟩
def h44 : Hint := ⟨[], [], 0⟩
def c45 : CS := ⟨4, [(1, .inp 0 [.i64, .i64, .i64]), (5, .int .i64 (.lit 7)), (6, .ptr 0 0), (7, .slice 1 0 3 (.rest 1)), (8, .int .i64 (.atm 0))],
  [.cells [.slice 2 0 1 (.rest 5), .slice 3 0 4 (.rest 3), .slice 4 0 1 (.rest 6)] 69,
   .cells [.int .i64 (.atm 1), .int .i64 (.atm 2), .int .i64 (.atm 3)] 2,
   .cells [.int .u8 (.lit 8), .str [113], .int .i64 (.lit 7), .str [], .int .i64 (.lit 1)] 75,
   .cells [.str [97], .nils, .nils, .str [98], .nils, .nils, .str [100], .nils, .nils, .str [101], .nils, .nils] 79,
   .cells [.int .i64 (.lit (-1)), .int .i64 (.lit 0), .bool (.lit false), .int .i64 (.lit 0), .nils, .slice 5 0 3 (.rest 1)] 51,
   .cells [.int .i64 (.atm 1), .int .i64 (.atm 2), .int .i64 (.atm 3)] 2],
  [(.lt (.atm 0) (.lit 0), false)], .sub (.lit 60) (.atm 0)⟩
def h45 : Hint := ⟨[], [], 0⟩
def c46 : CS := ⟨1, [(1, .inp 0 [.i64, .i64, .i64]), (5, .int .i64 (.lit 7)), (6, .ptr 0 0), (7, .slice 1 0 0 (.rest 1)), (8, .int .i64 (.atm 0))],
  [.cells [.slice 2 0 1 (.rest 5), .slice 3 0 4 (.rest 3), .slice 4 0 1 (.rest 6)] 69,
   .cells [] 2,
   .cells [.int .u8 (.lit 8), .str [113], .int .i64 (.lit 7), .str [], .int .i64 (.lit 1)] 75,
   .cells [.str [97], .nils, .nils, .str [98], .nils, .nils, .str [100], .nils, .nils, .str [101], .nils, .nils] 79,
   .cells [.int .i64 (.lit (-1)), .int .i64 (.lit 0), .bool (.lit false), .int .i64 (.lit 0), .nils, .slice 5 0 0 (.exact 0)] 51,
   .cells [] 2],
  [(.lt (.atm 0) (.lit 0), false)], .sub (.lit 60) (.atm 0)⟩
def h46 : Hint := ⟨[], [], 0⟩
def c47 : CS := ⟨4, [(1, .inp 0 [.i64, .i64, .i64]), (5, .int .i64 (.lit 8)), (6, .ptr 0 0), (7, .slice 1 0 3 (.rest 1)), (8, .int .i64 (.atm 0))],
  [.cells [.slice 2 0 1 (.rest 5), .slice 3 0 4 (.rest 3), .slice 4 0 1 (.rest 6)] 69,
   .cells [.int .i64 (.atm 1), .int .i64 (.atm 2), .int .i64 (.atm 3)] 2,
   .cells [.int .u8 (.lit 8), .str [113], .int .i64 (.lit 8), .str [], .int .i64 (.lit 1)] 75,
   .cells [.str [97], .nils, .nils, .str [98], .nils, .nils, .str [100], .nils, .nils, .str [101], .nils, .nils] 79,
   .cells [.int .i64 (.lit (-1)), .int .i64 (.lit 0), .bool (.lit false), .int .i64 (.lit 0), .nils, .slice 5 0 3 (.rest 1)] 51,
   .cells [.int .i64 (.atm 1), .int .i64 (.atm 2), .int .i64 (.atm 3)] 2],
  [(.lt (.atm 0) (.lit 0), false)], .sub (.lit 60) (.atm 0)⟩
def h47 : Hint := ⟨[], [], 0⟩
def c48 : CS := ⟨1, [(1, .inp 0 [.i64, .i64, .i64]), (5, .int .i64 (.lit 8)), (6, .ptr 0 0), (7, .slice 1 0 0 (.rest 1)), (8, .int .i64 (.atm 0))],
  [.cells [.slice 2 0 1 (.rest 5), .slice 3 0 4 (.rest 3), .slice 4 0 1 (.rest 6)] 69,
   .cells [] 2,
   .cells [.int .u8 (.lit 8), .str [113], .int .i64 (.lit 8), .str [], .int .i64 (.lit 1)] 75,
   .cells [.str [97], .nils, .nils, .str [98], .nils, .nils, .str [100], .nils, .nils, .str [101], .nils, .nils] 79,
   .cells [.int .i64 (.lit (-1)), .int .i64 (.lit 0), .bool (.lit false), .int .i64 (.lit 0), .nils, .slice 5 0 0 (.exact 0)] 51,
   .cells [] 2],
  [(.lt (.atm 0) (.lit 0), false)], .sub (.lit 60) (.atm 0)⟩
def h48 : Hint := ⟨[], [], 0⟩
def c49 : CS := ⟨4, [(1, .inp 0 [.i64, .i64, .i64]), (5, .int .i64 (.lit 9)), (6, .ptr 0 0), (7, .slice 1 0 3 (.rest 1)), (8, .int .i64 (.atm 0))],
  [.cells [.slice 2 0 1 (.rest 5), .slice 3 0 4 (.rest 3), .slice 4 0 1 (.rest 6)] 69,
   .cells [.int .i64 (.atm 1), .int .i64 (.atm 2), .int .i64 (.atm 3)] 2,
   .cells [.int .u8 (.lit 8), .str [113], .int .i64 (.lit 9), .str [], .int .i64 (.lit 1)] 75,
   .cells [.str [97], .nils, .nils, .str [98], .nils, .nils, .str [100], .nils, .nils, .str [101], .nils, .nils] 79,
   .cells [.int .i64 (.lit (-1)), .int .i64 (.lit 0), .bool (.lit false), .int .i64 (.lit 0), .nils, .slice 5 0 3 (.rest 1)] 51,
   .cells [.int .i64 (.atm 1), .int .i64 (.atm 2), .int .i64 (.atm 3)] 2],
  [(.lt (.atm 0) (.lit 0), false)], .sub (.lit 60) (.atm 0)⟩
def h49 : Hint := ⟨[], [], 0⟩
def c50 : CS := ⟨1, [(1, .inp 0 [.i64, .i64, .i64]), (5, .int .i64 (.lit 9)), (6, .ptr 0 0), (7, .slice 1 0 0 (.rest 1)), (8, .int .i64 (.atm 0))],
  [.cells [.slice 2 0 1 (.rest 5), .slice 3 0 4 (.rest 3), .slice 4 0 1 (.rest 6)] 69,
   .cells [] 2,
   .cells [.int .u8 (.lit 8), .str [113], .int .i64 (.lit 9), .str [], .int .i64 (.lit 1)] 75,
   .cells [.str [97], .nils, .nils, .str [98], .nils, .nils, .str [100], .nils, .nils, .str [101], .nils, .nils] 79,
   .cells [.int .i64 (.lit (-1)), .int .i64 (.lit 0), .bool (.lit false), .int .i64 (.lit 0), .nils, .slice 5 0 0 (.exact 0)] 51,
   .cells [] 2],
  [(.lt (.atm 0) (.lit 0), false)], .sub (.lit 60) (.atm 0)⟩
def h50 : Hint := ⟨[], [], 0⟩
def c51 : CS := ⟨5, [(1, .inp 0 [.i64, .i64, .i64]), (5, .int .i64 (.lit 4)), (6, .ptr 0 0), (7, .slice 1 0 4 (.rest 1)), (8, .int .i64 (.atm 0))],
  [.cells [.slice 2 0 1 (.rest 5), .slice 3 0 4 (.rest 3), .slice 4 0 1 (.rest 6)] 69,
   .cells [.int .i64 (.atm 1), .int .i64 (.atm 2), .int .i64 (.atm 3), .int .i64 (.atm 4)] 2,
   .cells [.int .u8 (.lit 8), .str [113], .int .i64 (.lit 4), .str [], .int .i64 (.lit 1)] 75,
   .cells [.str [97], .nils, .nils, .str [98], .nils, .nils, .str [100], .nils, .nils, .str [101], .nils, .nils] 79,
   .cells [.int .i64 (.lit (-1)), .int .i64 (.lit 0), .bool (.lit false), .int .i64 (.lit 0), .nils, .slice 5 0 4 (.rest 1)] 51,
   .cells [.int .i64 (.atm 1), .int .i64 (.atm 2), .int .i64 (.atm 3), .int .i64 (.atm 4)] 2],
  [(.lt (.atm 0) (.lit 0), false)], .sub (.lit 60) (.atm 0)⟩
def h51 : Hint := ⟨[], [], 0⟩
def c52 : CS := ⟨5, [(1, .inp 0 [.i64, .i64, .i64]), (5, .int .i64 (.lit 5)), (6, .ptr 0 0), (7, .slice 1 0 4 (.rest 1)), (8, .int .i64 (.atm 0))],
  [.cells [.slice 2 0 1 (.rest 5), .slice 3 0 4 (.rest 3), .slice 4 0 1 (.rest 6)] 69,
   .cells [.int .i64 (.atm 1), .int .i64 (.atm 2), .int .i64 (.atm 3), .int .i64 (.atm 4)] 2,
   .cells [.int .u8 (.lit 8), .str [113], .int .i64 (.lit 5), .str [], .int .i64 (.lit 1)] 75,
   .cells [.str [97], .nils, .nils, .str [98], .nils, .nils, .str [100], .nils, .nils, .str [101], .nils, .nils] 79,
   .cells [.int .i64 (.lit (-1)), .int .i64 (.lit 0), .bool (.lit false), .int .i64 (.lit 0), .nils, .slice 5 0 4 (.rest 1)] 51,
   .cells [.int .i64 (.atm 1), .int .i64 (.atm 2), .int .i64 (.atm 3), .int .i64 (.atm 4)] 2],
  [(.lt (.atm 0) (.lit 0), false)], .sub (.lit 60) (.atm 0)⟩
def h52 : Hint := ⟨[], [], 0⟩
def c53 : CS := ⟨5, [(1, .inp 0 [.i64, .i64, .i64]), (5, .int .i64 (.lit 6)), (6, .ptr 0 0), (7, .slice 1 0 4 (.rest 1)), (8, .int .i64 (.atm 0))],
  [.cells [.slice 2 0 1 (.rest 5), .slice 3 0 4 (.rest 3), .slice 4 0 1 (.rest 6)] 69,
   .cells [.int .i64 (.atm 1), .int .i64 (.atm 2), .int .i64 (.atm 3), .int .i64 (.atm 4)] 2,
   .cells [.int .u8 (.lit 8), .str [113], .int .i64 (.lit 6), .str [], .int .i64 (.lit 1)] 75,
   .cells [.str [97], .nils, .nils, .str [98], .nils, .nils, .str [100], .nils, .nils, .str [101], .nils, .nils] 79,
   .cells [.int .i64 (.lit (-1)), .int .i64 (.lit 0), .bool (.lit false), .int .i64 (.lit 0), .nils, .slice 5 0 4 (.rest 1)] 51,
   .cells [.int .i64 (.atm 1), .int .i64 (.atm 2), .int .i64 (.atm 3), .int .i64 (.atm 4)] 2],
  [(.lt (.atm 0) (.lit 0), false)], .sub (.lit 60) (.atm 0)⟩
def h53 : Hint := ⟨[], [], 0⟩
def c54 : CS := ⟨5, [(1, .inp 0 [.i64, .i64, .i64]), (5, .int .i64 (.lit 7)), (6, .ptr 0 0), (7, .slice 1 0 4 (.rest 1)), (8, .int .i64 (.atm 0))],
  [.cells [.slice 2 0 1 (.rest 5), .slice 3 0 4 (.rest 3), .slice 4 0 1 (.rest 6)] 69,
   .cells [.int .i64 (.atm 1), .int .i64 (.atm 2), .int .i64 (.atm 3), .int .i64 (.atm 4)] 2,
   .cells [.int .u8 (.lit 8), .str [113], .int .i64 (.lit 7), .str [], .int .i64 (.lit 1)] 75,
   .cells [.str [97], .nils, .nils, .str [98], .nils, .nils, .str [100], .nils, .nils, .str [101], .nils, .nils] 79,
   .cells [.int .i64 (.lit (-1)), .int .i64 (.lit 0), .bool (.lit false), .int .i64 (.lit 0), .nils, .slice 5 0 4 (.rest 1)] 51,
   .cells [.int .i64 (.atm 1), .int .i64 (.atm 2), .int .i64 (.atm 3), .int .i64 (.atm 4)] 2],
  [(.lt (.atm 0) (.lit 0), false)], .sub (.lit 60) (.atm 0)⟩
def h54 : Hint := ⟨[], [], 0⟩
def c55 : CS := ⟨5, [(1, .inp 0 [.i64, .i64, .i64]), (5, .int .i64 (.lit 8)), (6, .ptr 0 0), (7, .slice 1 0 4 (.rest 1)), (8, .int .i64 (.atm 0))],
  [.cells [.slice 2 0 1 (.rest 5), .slice 3 0 4 (.rest 3), .slice 4 0 1 (.rest 6)] 69,
   .cells [.int .i64 (.atm 1), .int .i64 (.atm 2), .int .i64 (.atm 3), .int .i64 (.atm 4)] 2,
   .cells [.int .u8 (.lit 8), .str [113], .int .i64 (.lit 8), .str [], .int .i64 (.lit 1)] 75,
   .cells [.str [97], .nils, .nils, .str [98], .nils, .nils, .str [100], .nils, .nils, .str [101], .nils, .nils] 79,
   .cells [.int .i64 (.lit (-1)), .int .i64 (.lit 0), .bool (.lit false), .int .i64 (.lit 0), .nils, .slice 5 0 4 (.rest 1)] 51,
   .cells [.int .i64 (.atm 1), .int .i64 (.atm 2), .int .i64 (.atm 3), .int .i64 (.atm 4)] 2],
  [(.lt (.atm 0) (.lit 0), false)], .sub (.lit 60) (.atm 0)⟩
def h55 : Hint := ⟨[], [], 0⟩
def c56 : CS := ⟨5, [(1, .inp 0 [.i64, .i64, .i64]), (5, .int .i64 (.lit 9)), (6, .ptr 0 0), (7, .slice 1 0 4 (.rest 1)), (8, .int .i64 (.atm 0))],
  [.cells [.slice 2 0 1 (.rest 5), .slice 3 0 4 (.rest 3), .slice 4 0 1 (.rest 6)] 69,
   .cells [.int .i64 (.atm 1), .int .i64 (.atm 2), .int .i64 (.atm 3), .int .i64 (.atm 4)] 2,
   .cells [.int .u8 (.lit 8), .str [113], .int .i64 (.lit 9), .str [], .int .i64 (.lit 1)] 75,
   .cells [.str [97], .nils, .nils, .str [98], .nils, .nils, .str [100], .nils, .nils, .str [101], .nils, .nils] 79,
   .cells [.int .i64 (.lit (-1)), .int .i64 (.lit 0), .bool (.lit false), .int .i64 (.lit 0), .nils, .slice 5 0 4 (.rest 1)] 51,
   .cells [.int .i64 (.atm 1), .int .i64 (.atm 2), .int .i64 (.atm 3), .int .i64 (.atm 4)] 2],
  [(.lt (.atm 0) (.lit 0), false)], .sub (.lit 60) (.atm 0)⟩
def h56 : Hint := ⟨[], [], 0⟩
def c57 : CS := ⟨6, [(1, .inp 0 [.i64, .i64, .i64]), (5, .int .i64 (.lit 5)), (6, .ptr 0 0), (7, .slice 1 0 5 (.rest 1)), (8, .int .i64 (.atm 0))],
  [.cells [.slice 2 0 1 (.rest 5), .slice 3 0 4 (.rest 3), .slice 4 0 1 (.rest 6)] 69,
   .cells [.int .i64 (.atm 1), .int .i64 (.atm 2), .int .i64 (.atm 3), .int .i64 (.atm 4), .int .i64 (.atm 5)] 2,
   .cells [.int .u8 (.lit 8), .str [113], .int .i64 (.lit 5), .str [], .int .i64 (.lit 1)] 75,
   .cells [.str [97], .nils, .nils, .str [98], .nils, .nils, .str [100], .nils, .nils, .str [101], .nils, .nils] 79,
   .cells [.int .i64 (.lit (-1)), .int .i64 (.lit 0), .bool (.lit false), .int .i64 (.lit 0), .nils, .slice 5 0 5 (.rest 1)] 51,
   .cells [.int .i64 (.atm 1), .int .i64 (.atm 2), .int .i64 (.atm 3), .int .i64 (.atm 4), .int .i64 (.atm 5)] 2],
  [(.lt (.atm 0) (.lit 0), false)], .sub (.lit 60) (.atm 0)⟩
def h57 : Hint := ⟨[], [], 0⟩
def c58 : CS := ⟨6, [(1, .inp 0 [.i64, .i64, .i64]), (5, .int .i64 (.lit 6)), (6, .ptr 0 0), (7, .slice 1 0 5 (.rest 1)), (8, .int .i64 (.atm 0))],
  [.cells [.slice 2 0 1 (.rest 5), .slice 3 0 4 (.rest 3), .slice 4 0 1 (.rest 6)] 69,
   .cells [.int .i64 (.atm 1), .int .i64 (.atm 2), .int .i64 (.atm 3), .int .i64 (.atm 4), .int .i64 (.atm 5)] 2,
   .cells [.int .u8 (.lit 8), .str [113], .int .i64 (.lit 6), .str [], .int .i64 (.lit 1)] 75,
   .cells [.str [97], .nils, .nils, .str [98], .nils, .nils, .str [100], .nils, .nils, .str [101], .nils, .nils] 79,
   .cells [.int .i64 (.lit (-1)), .int .i64 (.lit 0), .bool (.lit false), .int .i64 (.lit 0), .nils, .slice 5 0 5 (.rest 1)] 51,
   .cells [.int .i64 (.atm 1), .int .i64 (.atm 2), .int .i64 (.atm 3), .int .i64 (.atm 4), .int .i64 (.atm 5)] 2],
  [(.lt (.atm 0) (.lit 0), false)], .sub (.lit 60) (.atm 0)⟩
def h58 : Hint := ⟨[], [], 0⟩
def c59 : CS := ⟨6, [(1, .inp 0 [.i64, .i64, .i64]), (5, .int .i64 (.lit 7)), (6, .ptr 0 0), (7, .slice 1 0 5 (.rest 1)), (8, .int .i64 (.atm 0))],
  [.cells [.slice 2 0 1 (.rest 5), .slice 3 0 4 (.rest 3), .slice 4 0 1 (.rest 6)] 69,
   .cells [.int .i64 (.atm 1), .int .i64 (.atm 2), .int .i64 (.atm 3), .int .i64 (.atm 4), .int .i64 (.atm 5)] 2,
   .cells [.int .u8 (.lit 8), .str [113], .int .i64 (.lit 7), .str [], .int .i64 (.lit 1)] 75,
   .cells [.str [97], .nils, .nils, .str [98], .nils, .nils, .str [100], .nils, .nils, .str [101], .nils, .nils] 79,
   .cells [.int .i64 (.lit (-1)), .int .i64 (.lit 0), .bool (.lit false), .int .i64 (.lit 0), .nils, .slice 5 0 5 (.rest 1)] 51,
   .cells [.int .i64 (.atm 1), .int .i64 (.atm 2), .int .i64 (.atm 3), .int .i64 (.atm 4), .int .i64 (.atm 5)] 2],
  [(.lt (.atm 0) (.lit 0), false)], .sub (.lit 60) (.atm 0)⟩
def h59 : Hint := ⟨[], [], 0⟩
def c60 : CS := ⟨6, [(1, .inp 0 [.i64, .i64, .i64]), (5, .int .i64 (.lit 8)), (6, .ptr 0 0), (7, .slice 1 0 5 (.rest 1)), (8, .int .i64 (.atm 0))],
  [.cells [.slice 2 0 1 (.rest 5), .slice 3 0 4 (.rest 3), .slice 4 0 1 (.rest 6)] 69,
   .cells [.int .i64 (.atm 1), .int .i64 (.atm 2), .int .i64 (.atm 3), .int .i64 (.atm 4), .int .i64 (.atm 5)] 2,
   .cells [.int .u8 (.lit 8), .str [113], .int .i64 (.lit 8), .str [], .int .i64 (.lit 1)] 75,
   .cells [.str [97], .nils, .nils, .str [98], .nils, .nils, .str [100], .nils, .nils, .str [101], .nils, .nils] 79,
   .cells [.int .i64 (.lit (-1)), .int .i64 (.lit 0), .bool (.lit false), .int .i64 (.lit 0), .nils, .slice 5 0 5 (.rest 1)] 51,
   .cells [.int .i64 (.atm 1), .int .i64 (.atm 2), .int .i64 (.atm 3), .int .i64 (.atm 4), .int .i64 (.atm 5)] 2],
  [(.lt (.atm 0) (.lit 0), false)], .sub (.lit 60) (.atm 0)⟩
def h60 : Hint := ⟨[], [], 0⟩
def c61 : CS := ⟨6, [(1, .inp 0 [.i64, .i64, .i64]), (5, .int .i64 (.lit 9)), (6, .ptr 0 0), (7, .slice 1 0 5 (.rest 1)), (8, .int .i64 (.atm 0))],
  [.cells [.slice 2 0 1 (.rest 5), .slice 3 0 4 (.rest 3), .slice 4 0 1 (.rest 6)] 69,
   .cells [.int .i64 (.atm 1), .int .i64 (.atm 2), .int .i64 (.atm 3), .int .i64 (.atm 4), .int .i64 (.atm 5)] 2,
   .cells [.int .u8 (.lit 8), .str [113], .int .i64 (.lit 9), .str [], .int .i64 (.lit 1)] 75,
   .cells [.str [97], .nils, .nils, .str [98], .nils, .nils, .str [100], .nils, .nils, .str [101], .nils, .nils] 79,
   .cells [.int .i64 (.lit (-1)), .int .i64 (.lit 0), .bool (.lit false), .int .i64 (.lit 0), .nils, .slice 5 0 5 (.rest 1)] 51,
   .cells [.int .i64 (.atm 1), .int .i64 (.atm 2), .int .i64 (.atm 3), .int .i64 (.atm 4), .int .i64 (.atm 5)] 2],
  [(.lt (.atm 0) (.lit 0), false)], .sub (.lit 60) (.atm 0)⟩
def h61 : Hint := ⟨[], [], 0⟩
def c62 : CS := ⟨7, [(1, .inp 0 [.i64, .i64, .i64]), (5, .int .i64 (.lit 6)), (6, .ptr 0 0), (7, .slice 1 0 6 (.rest 1)), (8, .int .i64 (.atm 0))],
  [.cells [.slice 2 0 1 (.rest 5), .slice 3 0 4 (.rest 3), .slice 4 0 1 (.rest 6)] 69,
   .cells [.int .i64 (.atm 1), .int .i64 (.atm 2), .int .i64 (.atm 3), .int .i64 (.atm 4), .int .i64 (.atm 5), .int .i64 (.atm 6)] 2,
   .cells [.int .u8 (.lit 8), .str [113], .int .i64 (.lit 6), .str [], .int .i64 (.lit 1)] 75,
   .cells [.str [97], .nils, .nils, .str [98], .nils, .nils, .str [100], .nils, .nils, .str [101], .nils, .nils] 79,
   .cells [.int .i64 (.lit (-1)), .int .i64 (.lit 0), .bool (.lit false), .int .i64 (.lit 0), .nils, .slice 5 0 6 (.rest 1)] 51,
   .cells [.int .i64 (.atm 1), .int .i64 (.atm 2), .int .i64 (.atm 3), .int .i64 (.atm 4), .int .i64 (.atm 5), .int .i64 (.atm 6)] 2],
  [(.lt (.atm 0) (.lit 0), false)], .sub (.lit 60) (.atm 0)⟩
def h62 : Hint := ⟨[], [], 0⟩
def c63 : CS := ⟨7, [(1, .inp 0 [.i64, .i64, .i64]), (5, .int .i64 (.lit 7)), (6, .ptr 0 0), (7, .slice 1 0 6 (.rest 1)), (8, .int .i64 (.atm 0))],
  [.cells [.slice 2 0 1 (.rest 5), .slice 3 0 4 (.rest 3), .slice 4 0 1 (.rest 6)] 69,
   .cells [.int .i64 (.atm 1), .int .i64 (.atm 2), .int .i64 (.atm 3), .int .i64 (.atm 4), .int .i64 (.atm 5), .int .i64 (.atm 6)] 2,
   .cells [.int .u8 (.lit 8), .str [113], .int .i64 (.lit 7), .str [], .int .i64 (.lit 1)] 75,
   .cells [.str [97], .nils, .nils, .str [98], .nils, .nils, .str [100], .nils, .nils, .str [101], .nils, .nils] 79,
   .cells [.int .i64 (.lit (-1)), .int .i64 (.lit 0), .bool (.lit false), .int .i64 (.lit 0), .nils, .slice 5 0 6 (.rest 1)] 51,
   .cells [.int .i64 (.atm 1), .int .i64 (.atm 2), .int .i64 (.atm 3), .int .i64 (.atm 4), .int .i64 (.atm 5), .int .i64 (.atm 6)] 2],
  [(.lt (.atm 0) (.lit 0), false)], .sub (.lit 60) (.atm 0)⟩
def h63 : Hint := ⟨[], [], 0⟩
def c64 : CS := ⟨7, [(1, .inp 0 [.i64, .i64, .i64]), (5, .int .i64 (.lit 8)), (6, .ptr 0 0), (7, .slice 1 0 6 (.rest 1)), (8, .int .i64 (.atm 0))],
  [.cells [.slice 2 0 1 (.rest 5), .slice 3 0 4 (.rest 3), .slice 4 0 1 (.rest 6)] 69,
   .cells [.int .i64 (.atm 1), .int .i64 (.atm 2), .int .i64 (.atm 3), .int .i64 (.atm 4), .int .i64 (.atm 5), .int .i64 (.atm 6)] 2,
   .cells [.int .u8 (.lit 8), .str [113], .int .i64 (.lit 8), .str [], .int .i64 (.lit 1)] 75,
   .cells [.str [97], .nils, .nils, .str [98], .nils, .nils, .str [100], .nils, .nils, .str [101], .nils, .nils] 79,
   .cells [.int .i64 (.lit (-1)), .int .i64 (.lit 0), .bool (.lit false), .int .i64 (.lit 0), .nils, .slice 5 0 6 (.rest 1)] 51,
   .cells [.int .i64 (.atm 1), .int .i64 (.atm 2), .int .i64 (.atm 3), .int .i64 (.atm 4), .int .i64 (.atm 5), .int .i64 (.atm 6)] 2],
  [(.lt (.atm 0) (.lit 0), false)], .sub (.lit 60) (.atm 0)⟩
def h64 : Hint := ⟨[], [], 0⟩
def c65 : CS := ⟨7, [(1, .inp 0 [.i64, .i64, .i64]), (5, .int .i64 (.lit 9)), (6, .ptr 0 0), (7, .slice 1 0 6 (.rest 1)), (8, .int .i64 (.atm 0))],
  [.cells [.slice 2 0 1 (.rest 5), .slice 3 0 4 (.rest 3), .slice 4 0 1 (.rest 6)] 69,
   .cells [.int .i64 (.atm 1), .int .i64 (.atm 2), .int .i64 (.atm 3), .int .i64 (.atm 4), .int .i64 (.atm 5), .int .i64 (.atm 6)] 2,
   .cells [.int .u8 (.lit 8), .str [113], .int .i64 (.lit 9), .str [], .int .i64 (.lit 1)] 75,
   .cells [.str [97], .nils, .nils, .str [98], .nils, .nils, .str [100], .nils, .nils, .str [101], .nils, .nils] 79,
   .cells [.int .i64 (.lit (-1)), .int .i64 (.lit 0), .bool (.lit false), .int .i64 (.lit 0), .nils, .slice 5 0 6 (.rest 1)] 51,
   .cells [.int .i64 (.atm 1), .int .i64 (.atm 2), .int .i64 (.atm 3), .int .i64 (.atm 4), .int .i64 (.atm 5), .int .i64 (.atm 6)] 2],
  [(.lt (.atm 0) (.lit 0), false)], .sub (.lit 60) (.atm 0)⟩
def h65 : Hint := ⟨[], [], 0⟩
def c66 : CS := ⟨8, [(1, .inp 0 [.i64, .i64, .i64]), (5, .int .i64 (.lit 7)), (6, .ptr 0 0), (7, .slice 1 0 7 (.rest 1)), (8, .int .i64 (.atm 0))],
  [.cells [.slice 2 0 1 (.rest 5), .slice 3 0 4 (.rest 3), .slice 4 0 1 (.rest 6)] 69,
   .cells [.int .i64 (.atm 1), .int .i64 (.atm 2), .int .i64 (.atm 3), .int .i64 (.atm 4), .int .i64 (.atm 5), .int .i64 (.atm 6), .int .i64 (.atm 7)] 2,
   .cells [.int .u8 (.lit 8), .str [113], .int .i64 (.lit 7), .str [], .int .i64 (.lit 1)] 75,
   .cells [.str [97], .nils, .nils, .str [98], .nils, .nils, .str [100], .nils, .nils, .str [101], .nils, .nils] 79,
   .cells [.int .i64 (.lit (-1)), .int .i64 (.lit 0), .bool (.lit false), .int .i64 (.lit 0), .nils, .slice 5 0 7 (.rest 1)] 51,
   .cells [.int .i64 (.atm 1), .int .i64 (.atm 2), .int .i64 (.atm 3), .int .i64 (.atm 4), .int .i64 (.atm 5), .int .i64 (.atm 6), .int .i64 (.atm 7)] 2],
  [(.lt (.atm 0) (.lit 0), false)], .sub (.lit 60) (.atm 0)⟩
def h66 : Hint := ⟨[], [], 0⟩
def c67 : CS := ⟨8, [(1, .inp 0 [.i64, .i64, .i64]), (5, .int .i64 (.lit 8)), (6, .ptr 0 0), (7, .slice 1 0 7 (.rest 1)), (8, .int .i64 (.atm 0))],
  [.cells [.slice 2 0 1 (.rest 5), .slice 3 0 4 (.rest 3), .slice 4 0 1 (.rest 6)] 69,
   .cells [.int .i64 (.atm 1), .int .i64 (.atm 2), .int .i64 (.atm 3), .int .i64 (.atm 4), .int .i64 (.atm 5), .int .i64 (.atm 6), .int .i64 (.atm 7)] 2,
   .cells [.int .u8 (.lit 8), .str [113], .int .i64 (.lit 8), .str [], .int .i64 (.lit 1)] 75,
   .cells [.str [97], .nils, .nils, .str [98], .nils, .nils, .str [100], .nils, .nils, .str [101], .nils, .nils] 79,
   .cells [.int .i64 (.lit (-1)), .int .i64 (.lit 0), .bool (.lit false), .int .i64 (.lit 0), .nils, .slice 5 0 7 (.rest 1)] 51,
   .cells [.int .i64 (.atm 1), .int .i64 (.atm 2), .int .i64 (.atm 3), .int .i64 (.atm 4), .int .i64 (.atm 5), .int .i64 (.atm 6), .int .i64 (.atm 7)] 2],
  [(.lt (.atm 0) (.lit 0), false)], .sub (.lit 60) (.atm 0)⟩
def h67 : Hint := ⟨[], [], 0⟩
def c68 : CS := ⟨8, [(1, .inp 0 [.i64, .i64, .i64]), (5, .int .i64 (.lit 9)), (6, .ptr 0 0), (7, .slice 1 0 7 (.rest 1)), (8, .int .i64 (.atm 0))],
  [.cells [.slice 2 0 1 (.rest 5), .slice 3 0 4 (.rest 3), .slice 4 0 1 (.rest 6)] 69,
   .cells [.int .i64 (.atm 1), .int .i64 (.atm 2), .int .i64 (.atm 3), .int .i64 (.atm 4), .int .i64 (.atm 5), .int .i64 (.atm 6), .int .i64 (.atm 7)] 2,
   .cells [.int .u8 (.lit 8), .str [113], .int .i64 (.lit 9), .str [], .int .i64 (.lit 1)] 75,
   .cells [.str [97], .nils, .nils, .str [98], .nils, .nils, .str [100], .nils, .nils, .str [101], .nils, .nils] 79,
   .cells [.int .i64 (.lit (-1)), .int .i64 (.lit 0), .bool (.lit false), .int .i64 (.lit 0), .nils, .slice 5 0 7 (.rest 1)] 51,
   .cells [.int .i64 (.atm 1), .int .i64 (.atm 2), .int .i64 (.atm 3), .int .i64 (.atm 4), .int .i64 (.atm 5), .int .i64 (.atm 6), .int .i64 (.atm 7)] 2],
  [(.lt (.atm 0) (.lit 0), false)], .sub (.lit 60) (.atm 0)⟩
def h68 : Hint := ⟨[], [], 0⟩
def c69 : CS := ⟨9, [(1, .inp 0 [.i64, .i64, .i64]), (5, .int .i64 (.lit 8)), (6, .ptr 0 0), (7, .slice 1 0 8 (.rest 1)), (8, .int .i64 (.atm 0))],
  [.cells [.slice 2 0 1 (.rest 5), .slice 3 0 4 (.rest 3), .slice 4 0 1 (.rest 6)] 69,
   .cells [.int .i64 (.atm 1), .int .i64 (.atm 2), .int .i64 (.atm 3), .int .i64 (.atm 4), .int .i64 (.atm 5), .int .i64 (.atm 6), .int .i64 (.atm 7), .int .i64 (.atm 8)] 2,
   .cells [.int .u8 (.lit 8), .str [113], .int .i64 (.lit 8), .str [], .int .i64 (.lit 1)] 75,
   .cells [.str [97], .nils, .nils, .str [98], .nils, .nils, .str [100], .nils, .nils, .str [101], .nils, .nils] 79,
   .cells [.int .i64 (.lit (-1)), .int .i64 (.lit 0), .bool (.lit false), .int .i64 (.lit 0), .nils, .slice 5 0 8 (.rest 1)] 51,
   .cells [.int .i64 (.atm 1), .int .i64 (.atm 2), .int .i64 (.atm 3), .int .i64 (.atm 4), .int .i64 (.atm 5), .int .i64 (.atm 6), .int .i64 (.atm 7), .int .i64 (.atm 8)] 2],
  [(.lt (.atm 0) (.lit 0), false)], .sub (.lit 60) (.atm 0)⟩
def h69 : Hint := ⟨[], [], 0⟩
def c70 : CS := ⟨9, [(1, .inp 0 [.i64, .i64, .i64]), (5, .int .i64 (.lit 9)), (6, .ptr 0 0), (7, .slice 1 0 8 (.rest 1)), (8, .int .i64 (.atm 0))],
  [.cells [.slice 2 0 1 (.rest 5), .slice 3 0 4 (.rest 3), .slice 4 0 1 (.rest 6)] 69,
   .cells [.int .i64 (.atm 1), .int .i64 (.atm 2), .int .i64 (.atm 3), .int .i64 (.atm 4), .int .i64 (.atm 5), .int .i64 (.atm 6), .int .i64 (.atm 7), .int .i64 (.atm 8)] 2,
   .cells [.int .u8 (.lit 8), .str [113], .int .i64 (.lit 9), .str [], .int .i64 (.lit 1)] 75,
   .cells [.str [97], .nils, .nils, .str [98], .nils, .nils, .str [100], .nils, .nils, .str [101], .nils, .nils] 79,
   .cells [.int .i64 (.lit (-1)), .int .i64 (.lit 0), .bool (.lit false), .int .i64 (.lit 0), .nils, .slice 5 0 8 (.rest 1)] 51,
   .cells [.int .i64 (.atm 1), .int .i64 (.atm 2), .int .i64 (.atm 3), .int .i64 (.atm 4), .int .i64 (.atm 5), .int .i64 (.atm 6), .int .i64 (.atm 7), .int .i64 (.atm 8)] 2],
  [(.lt (.atm 0) (.lit 0), false)], .sub (.lit 60) (.atm 0)⟩
def h70 : Hint := ⟨[], [], 0⟩
def c71 : CS := ⟨10, [(1, .inp 0 [.i64, .i64, .i64]), (5, .int .i64 (.lit 9)), (6, .ptr 0 0), (7, .slice 1 0 9 (.rest 1)), (8, .int .i64 (.atm 0))],
  [.cells [.slice 2 0 1 (.rest 5), .slice 3 0 4 (.rest 3), .slice 4 0 1 (.rest 6)] 69,
   .cells [.int .i64 (.atm 1), .int .i64 (.atm 2), .int .i64 (.atm 3), .int .i64 (.atm 4), .int .i64 (.atm 5), .int .i64 (.atm 6), .int .i64 (.atm 7), .int .i64 (.atm 8), .int .i64 (.atm 9)] 2,
   .cells [.int .u8 (.lit 8), .str [113], .int .i64 (.lit 9), .str [], .int .i64 (.lit 1)] 75,
   .cells [.str [97], .nils, .nils, .str [98], .nils, .nils, .str [100], .nils, .nils, .str [101], .nils, .nils] 79,
   .cells [.int .i64 (.lit (-1)), .int .i64 (.lit 0), .bool (.lit false), .int .i64 (.lit 0), .nils, .slice 5 0 9 (.rest 1)] 51,
   .cells [.int .i64 (.atm 1), .int .i64 (.atm 2), .int .i64 (.atm 3), .int .i64 (.atm 4), .int .i64 (.atm 5), .int .i64 (.atm 6), .int .i64 (.atm 7), .int .i64 (.atm 8), .int .i64 (.atm 9)] 2],
  [(.lt (.atm 0) (.lit 0), false)], .sub (.lit 60) (.atm 0)⟩
def h71 : Hint := ⟨[], [], 0⟩
def cs : List CS := [c0, c1, c2, c3, c4, c5, c6, c7, c8, c9, c10, c11, c12, c13, c14, c15, c16, c17, c18, c19, c20, c21, c22, c23, c24, c25, c26, c27, c28, c29, c30, c31, c32, c33, c34, c35, c36, c37, c38, c39, c40, c41, c42, c43, c44, c45, c46, c47, c48, c49, c50, c51, c52, c53, c54, c55, c56, c57, c58, c59, c60, c61, c62, c63, c64, c65, c66, c67, c68, c69, c70, c71]
def path : List Nat := [0, 1, 0, 1, 1, 1, 1]
noncomputable def g : Cfg := cfg prv 9 Tryz.f9.results.toList
/-- which of few a number is, told as tests -/
def pcUp : Nat → Nat → List (SB × Bool)
  | 0, _ => [(.lt (.atm 899) (.lit 0), false)]
  | n + 1, k => (.eq (.rem (.atm 899) (.lit 9)) (.lit (Int.ofNat n)), Nat.beq k n) :: pcUp n k
def pcOf (k : Nat) : List (SB × Bool) := pcUp 9 k
theorem pcOf_ok {ρ : Nat → Int} (hn : 0 ≤ ρ 899) {k : Nat} (hk : (ρ 899).tmod 9 = (k : Int)) : PcOk ρ (pcOf k) := by
  have : ∀ n, PcOk ρ (pcUp n k) := by
    intro n
    induction n with
    | zero =>
      intro c b h
      simp only [pcUp, List.mem_cons, List.not_mem_nil, or_false, Prod.mk.injEq] at h
      obtain ⟨rfl, rfl⟩ := h
      show decide (ρ 899 < 0) = false
      exact decide_eq_false (by omega)
    | succ n ih =>
      refine pc_cons ih ?_
      simp only [SB.den, SE.den]
      rw [hk, beq_dec, Bool.eq_iff_iff]
      simp
      omega
  exact this _
theorem isL : isLoop (bodyOf Tryz.f9) path = true := by kernel_rfl
theorem r0 : roundAt g (bodyOf Tryz.f9) path cs h0 c0 = true := by kernel_rfl
theorem r1 : roundAt g (bodyOf Tryz.f9) path cs h1 c1 = true := by kernel_rfl
theorem r2 : roundAt g (bodyOf Tryz.f9) path cs h2 c2 = true := by kernel_rfl
theorem r3 : roundAt g (bodyOf Tryz.f9) path cs h3 c3 = true := by kernel_rfl
theorem r4 : roundAt g (bodyOf Tryz.f9) path cs h4 c4 = true := by kernel_rfl
theorem r5 : roundAt g (bodyOf Tryz.f9) path cs h5 c5 = true := by kernel_rfl
theorem r6 : roundAt g (bodyOf Tryz.f9) path cs h6 c6 = true := by kernel_rfl
theorem r7 : roundAt g (bodyOf Tryz.f9) path cs h7 c7 = true := by kernel_rfl
theorem r8 : roundAt g (bodyOf Tryz.f9) path cs h8 c8 = true := by kernel_rfl
theorem r9 : roundAt g (bodyOf Tryz.f9) path cs h9 c9 = true := by kernel_rfl
theorem r10 : roundAt g (bodyOf Tryz.f9) path cs h10 c10 = true := by kernel_rfl
theorem r11 : roundAt g (bodyOf Tryz.f9) path cs h11 c11 = true := by kernel_rfl
theorem r12 : roundAt g (bodyOf Tryz.f9) path cs h12 c12 = true := by kernel_rfl
theorem r13 : roundAt g (bodyOf Tryz.f9) path cs h13 c13 = true := by kernel_rfl
theorem r14 : roundAt g (bodyOf Tryz.f9) path cs h14 c14 = true := by kernel_rfl
theorem r15 : roundAt g (bodyOf Tryz.f9) path cs h15 c15 = true := by kernel_rfl
theorem r16 : roundAt g (bodyOf Tryz.f9) path cs h16 c16 = true := by kernel_rfl
theorem r17 : roundAt g (bodyOf Tryz.f9) path cs h17 c17 = true := by kernel_rfl
theorem r18 : roundAt g (bodyOf Tryz.f9) path cs h18 c18 = true := by kernel_rfl
theorem r19 : roundAt g (bodyOf Tryz.f9) path cs h19 c19 = true := by kernel_rfl
theorem r20 : roundAt g (bodyOf Tryz.f9) path cs h20 c20 = true := by kernel_rfl
theorem r21 : roundAt g (bodyOf Tryz.f9) path cs h21 c21 = true := by kernel_rfl
theorem r22 : roundAt g (bodyOf Tryz.f9) path cs h22 c22 = true := by kernel_rfl
theorem r23 : roundAt g (bodyOf Tryz.f9) path cs h23 c23 = true := by kernel_rfl
theorem r24 : roundAt g (bodyOf Tryz.f9) path cs h24 c24 = true := by kernel_rfl
theorem r25 : roundAt g (bodyOf Tryz.f9) path cs h25 c25 = true := by kernel_rfl
theorem r26 : roundAt g (bodyOf Tryz.f9) path cs h26 c26 = true := by kernel_rfl
theorem r27 : roundAt g (bodyOf Tryz.f9) path cs h27 c27 = true := by kernel_rfl
theorem r28 : roundAt g (bodyOf Tryz.f9) path cs h28 c28 = true := by kernel_rfl
theorem r29 : roundAt g (bodyOf Tryz.f9) path cs h29 c29 = true := by kernel_rfl
theorem r30 : roundAt g (bodyOf Tryz.f9) path cs h30 c30 = true := by kernel_rfl
theorem r31 : roundAt g (bodyOf Tryz.f9) path cs h31 c31 = true := by kernel_rfl
theorem r32 : roundAt g (bodyOf Tryz.f9) path cs h32 c32 = true := by kernel_rfl
theorem r33 : roundAt g (bodyOf Tryz.f9) path cs h33 c33 = true := by kernel_rfl
theorem r34 : roundAt g (bodyOf Tryz.f9) path cs h34 c34 = true := by kernel_rfl
theorem r35 : roundAt g (bodyOf Tryz.f9) path cs h35 c35 = true := by kernel_rfl
theorem r36 : roundAt g (bodyOf Tryz.f9) path cs h36 c36 = true := by kernel_rfl
theorem r37 : roundAt g (bodyOf Tryz.f9) path cs h37 c37 = true := by kernel_rfl
theorem r38 : roundAt g (bodyOf Tryz.f9) path cs h38 c38 = true := by kernel_rfl
theorem r39 : roundAt g (bodyOf Tryz.f9) path cs h39 c39 = true := by kernel_rfl
theorem r40 : roundAt g (bodyOf Tryz.f9) path cs h40 c40 = true := by kernel_rfl
theorem r41 : roundAt g (bodyOf Tryz.f9) path cs h41 c41 = true := by kernel_rfl
theorem r42 : roundAt g (bodyOf Tryz.f9) path cs h42 c42 = true := by kernel_rfl
theorem r43 : roundAt g (bodyOf Tryz.f9) path cs h43 c43 = true := by kernel_rfl
theorem r44 : roundAt g (bodyOf Tryz.f9) path cs h44 c44 = true := by kernel_rfl
theorem r45 : roundAt g (bodyOf Tryz.f9) path cs h45 c45 = true := by kernel_rfl
theorem r46 : roundAt g (bodyOf Tryz.f9) path cs h46 c46 = true := by kernel_rfl
theorem r47 : roundAt g (bodyOf Tryz.f9) path cs h47 c47 = true := by kernel_rfl
theorem r48 : roundAt g (bodyOf Tryz.f9) path cs h48 c48 = true := by kernel_rfl
theorem r49 : roundAt g (bodyOf Tryz.f9) path cs h49 c49 = true := by kernel_rfl
theorem r50 : roundAt g (bodyOf Tryz.f9) path cs h50 c50 = true := by kernel_rfl
theorem r51 : roundAt g (bodyOf Tryz.f9) path cs h51 c51 = true := by kernel_rfl
theorem r52 : roundAt g (bodyOf Tryz.f9) path cs h52 c52 = true := by kernel_rfl
theorem r53 : roundAt g (bodyOf Tryz.f9) path cs h53 c53 = true := by kernel_rfl
theorem r54 : roundAt g (bodyOf Tryz.f9) path cs h54 c54 = true := by kernel_rfl
theorem r55 : roundAt g (bodyOf Tryz.f9) path cs h55 c55 = true := by kernel_rfl
theorem r56 : roundAt g (bodyOf Tryz.f9) path cs h56 c56 = true := by kernel_rfl
theorem r57 : roundAt g (bodyOf Tryz.f9) path cs h57 c57 = true := by kernel_rfl
theorem r58 : roundAt g (bodyOf Tryz.f9) path cs h58 c58 = true := by kernel_rfl
theorem r59 : roundAt g (bodyOf Tryz.f9) path cs h59 c59 = true := by kernel_rfl
theorem r60 : roundAt g (bodyOf Tryz.f9) path cs h60 c60 = true := by kernel_rfl
theorem r61 : roundAt g (bodyOf Tryz.f9) path cs h61 c61 = true := by kernel_rfl
theorem r62 : roundAt g (bodyOf Tryz.f9) path cs h62 c62 = true := by kernel_rfl
theorem r63 : roundAt g (bodyOf Tryz.f9) path cs h63 c63 = true := by kernel_rfl
theorem r64 : roundAt g (bodyOf Tryz.f9) path cs h64 c64 = true := by kernel_rfl
theorem r65 : roundAt g (bodyOf Tryz.f9) path cs h65 c65 = true := by kernel_rfl
theorem r66 : roundAt g (bodyOf Tryz.f9) path cs h66 c66 = true := by kernel_rfl
theorem r67 : roundAt g (bodyOf Tryz.f9) path cs h67 c67 = true := by kernel_rfl
theorem r68 : roundAt g (bodyOf Tryz.f9) path cs h68 c68 = true := by kernel_rfl
theorem r69 : roundAt g (bodyOf Tryz.f9) path cs h69 c69 = true := by kernel_rfl
theorem r70 : roundAt g (bodyOf Tryz.f9) path cs h70 c70 = true := by kernel_rfl
theorem r71 : roundAt g (bodyOf Tryz.f9) path cs h71 c71 = true := by kernel_rfl
theorem rounds : ∀ c ∈ cs, ∃ h, roundAt g (bodyOf Tryz.f9) path cs h c = true := by
  intro c hc
  simp only [cs, List.mem_cons, List.not_mem_nil, or_false] at hc
  rcases hc with rfl | rfl | rfl | rfl | rfl | rfl | rfl | rfl | rfl | rfl | rfl | rfl | rfl | rfl | rfl | rfl | rfl | rfl | rfl | rfl | rfl | rfl | rfl | rfl | rfl | rfl | rfl | rfl | rfl | rfl | rfl | rfl | rfl | rfl | rfl | rfl | rfl | rfl | rfl | rfl | rfl | rfl | rfl | rfl | rfl | rfl | rfl | rfl | rfl | rfl | rfl | rfl | rfl | rfl | rfl | rfl | rfl | rfl | rfl | rfl | rfl | rfl | rfl | rfl | rfl | rfl | rfl | rfl | rfl | rfl | rfl | rfl
  · exact ⟨h0, r0⟩
  · exact ⟨h1, r1⟩
  · exact ⟨h2, r2⟩
  · exact ⟨h3, r3⟩
  · exact ⟨h4, r4⟩
  · exact ⟨h5, r5⟩
  · exact ⟨h6, r6⟩
  · exact ⟨h7, r7⟩
  · exact ⟨h8, r8⟩
  · exact ⟨h9, r9⟩
  · exact ⟨h10, r10⟩
  · exact ⟨h11, r11⟩
  · exact ⟨h12, r12⟩
  · exact ⟨h13, r13⟩
  · exact ⟨h14, r14⟩
  · exact ⟨h15, r15⟩
  · exact ⟨h16, r16⟩
  · exact ⟨h17, r17⟩
  · exact ⟨h18, r18⟩
  · exact ⟨h19, r19⟩
  · exact ⟨h20, r20⟩
  · exact ⟨h21, r21⟩
  · exact ⟨h22, r22⟩
  · exact ⟨h23, r23⟩
  · exact ⟨h24, r24⟩
  · exact ⟨h25, r25⟩
  · exact ⟨h26, r26⟩
  · exact ⟨h27, r27⟩
  · exact ⟨h28, r28⟩
  · exact ⟨h29, r29⟩
  · exact ⟨h30, r30⟩
  · exact ⟨h31, r31⟩
  · exact ⟨h32, r32⟩
  · exact ⟨h33, r33⟩
  · exact ⟨h34, r34⟩
  · exact ⟨h35, r35⟩
  · exact ⟨h36, r36⟩
  · exact ⟨h37, r37⟩
  · exact ⟨h38, r38⟩
  · exact ⟨h39, r39⟩
  · exact ⟨h40, r40⟩
  · exact ⟨h41, r41⟩
  · exact ⟨h42, r42⟩
  · exact ⟨h43, r43⟩
  · exact ⟨h44, r44⟩
  · exact ⟨h45, r45⟩
  · exact ⟨h46, r46⟩
  · exact ⟨h47, r47⟩
  · exact ⟨h48, r48⟩
  · exact ⟨h49, r49⟩
  · exact ⟨h50, r50⟩
  · exact ⟨h51, r51⟩
  · exact ⟨h52, r52⟩
  · exact ⟨h53, r53⟩
  · exact ⟨h54, r54⟩
  · exact ⟨h55, r55⟩
  · exact ⟨h56, r56⟩
  · exact ⟨h57, r57⟩
  · exact ⟨h58, r58⟩
  · exact ⟨h59, r59⟩
  · exact ⟨h60, r60⟩
  · exact ⟨h61, r61⟩
  · exact ⟨h62, r62⟩
  · exact ⟨h63, r63⟩
  · exact ⟨h64, r64⟩
  · exact ⟨h65, r65⟩
  · exact ⟨h66, r66⟩
  · exact ⟨h67, r67⟩
  · exact ⟨h68, r68⟩
  · exact ⟨h69, r69⟩
  · exact ⟨h70, r70⟩
  · exact ⟨h71, r71⟩
theorem begins0 : go g (tab1 path cs) 1000 [] (bodyOf Tryz.f9) [] ⟨initSlots [.int .u8 (.atm 899), .inp 0 [.i64, .i64, .i64]] 0 .nil, Hp.zero, pcOf 0⟩ = true := by kernel_rfl
theorem begins1 : go g (tab1 path cs) 1000 [] (bodyOf Tryz.f9) [] ⟨initSlots [.int .u8 (.atm 899), .inp 0 [.i64, .i64, .i64]] 0 .nil, Hp.zero, pcOf 1⟩ = true := by kernel_rfl
theorem begins2 : go g (tab1 path cs) 1000 [] (bodyOf Tryz.f9) [] ⟨initSlots [.int .u8 (.atm 899), .inp 0 [.i64, .i64, .i64]] 0 .nil, Hp.zero, pcOf 2⟩ = true := by kernel_rfl
theorem begins3 : go g (tab1 path cs) 1000 [] (bodyOf Tryz.f9) [] ⟨initSlots [.int .u8 (.atm 899), .inp 0 [.i64, .i64, .i64]] 0 .nil, Hp.zero, pcOf 3⟩ = true := by kernel_rfl
theorem begins4 : go g (tab1 path cs) 1000 [] (bodyOf Tryz.f9) [] ⟨initSlots [.int .u8 (.atm 899), .inp 0 [.i64, .i64, .i64]] 0 .nil, Hp.zero, pcOf 4⟩ = true := by kernel_rfl
theorem begins5 : go g (tab1 path cs) 1000 [] (bodyOf Tryz.f9) [] ⟨initSlots [.int .u8 (.atm 899), .inp 0 [.i64, .i64, .i64]] 0 .nil, Hp.zero, pcOf 5⟩ = true := by kernel_rfl
theorem begins6 : go g (tab1 path cs) 1000 [] (bodyOf Tryz.f9) [] ⟨initSlots [.int .u8 (.atm 899), .inp 0 [.i64, .i64, .i64]] 0 .nil, Hp.zero, pcOf 6⟩ = true := by kernel_rfl
theorem begins7 : go g (tab1 path cs) 1000 [] (bodyOf Tryz.f9) [] ⟨initSlots [.int .u8 (.atm 899), .inp 0 [.i64, .i64, .i64]] 0 .nil, Hp.zero, pcOf 7⟩ = true := by kernel_rfl
theorem begins8 : go g (tab1 path cs) 1000 [] (bodyOf Tryz.f9) [] ⟨initSlots [.int .u8 (.atm 899), .inp 0 [.i64, .i64, .i64]] 0 .nil, Hp.zero, pcOf 8⟩ = true := by kernel_rfl
theorem calls {ρ : Nat → Int} {ro : Nat → Prop} {w : World} (hro : ∀ b, ro b → b < w.heap.size) (hgl : Glob.ok ro w.heap) {vals : List Value} (hv : VRs (En.zero ρ ro) w.heap [.int .u8 (.atm 899), .inp 0 [.i64, .i64, .i64]] vals) (hn : 0 ≤ ρ 899) :
    Calls Tryz.prog 9 vals.toArray w fun e w' => e = .returned (.bool true) ∧ Below w.heap.size w w' := by
  have key : ∀ k, PcOk ρ (pcOf k) → go g (tab1 path cs) 1000 [] (bodyOf Tryz.f9) [] ⟨initSlots [.int .u8 (.atm 899), .inp 0 [.i64, .i64, .i64]] 0 .nil, Hp.zero, pcOf k⟩ = true → Calls Tryz.prog 9 vals.toArray w fun e w' => e = .returned (.bool true) ∧ Below w.heap.size w w' := fun k hp hb =>
    law_one (cfg_ok prv_ok 9 _) (fn := Tryz.f9) (fn_at (by kernel_rfl) (by decide)) (by kernel_rfl) rfl (dst_at (by kernel_rfl)) isL rounds hro hgl hv hp hb
  have h1 := Int.tmod_nonneg 9 hn
  have h2 := Int.tmod_lt_of_pos (ρ 899) (b := 9) (by omega)
  obtain ⟨k, hk, hlt⟩ : ∃ k : Nat, (ρ 899).tmod 9 = (k : Int) ∧ k < 9 := ⟨((ρ 899).tmod 9).toNat, by omega, by omega⟩
  have hp := pcOf_ok hn hk
  match k, hlt with
  | 0, _ => exact key 0 hp begins0
  | 1, _ => exact key 1 hp begins1
  | 2, _ => exact key 2 hp begins2
  | 3, _ => exact key 3 hp begins3
  | 4, _ => exact key 4 hp begins4
  | 5, _ => exact key 5 hp begins5
  | 6, _ => exact key 6 hp begins6
  | 7, _ => exact key 7 hp begins7
  | 8, _ => exact key 8 hp begins8
end Go.As.Try.Queue
#print axioms Go.As.Try.Queue.calls
