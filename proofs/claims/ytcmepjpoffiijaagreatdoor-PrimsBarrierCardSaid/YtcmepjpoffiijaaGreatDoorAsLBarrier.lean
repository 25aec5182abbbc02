import Derived.Test.YtcmepjpoffiijaaGreatDoorAsT5
/-
  AS: the law Barrier: its loop's states, a round from each, the run up to the loop.
-/
namespace Go.As.Try.Barrier
open Go hiding Stat
open Go.As Go.Proofs Go.RowKit Go.As.Try
set_option maxRecDepth 100000
def c0 : CS := ⟨1, [(1, .inp 0 [.i64]), (5, .int .i64 (.lit 1)), (8, .ptr 0 0), (9, .slice 1 0 1 (.rest 6)), (10, .nils), (11, .map 2), (13, .int .i64 (.lit 0))],
  [.cells [.slice 3 0 1 (.rest 5), .slice 4 0 1 (.rest 3)] 25,
   .cells [.int .i64 (.lit (-1)), .int .i64 (.lit 0), .bool (.lit false), .int .i64 (.lit 0), .nils, .nils] 51,
   .map [(.int .i64 (.lit 0), .int .i64 (.lit 1), 0)] 0,
   .cells [.int .u8 (.lit 5), .str [98], .int .i64 (.lit 1), .str [], .int .i64 (.lit 1)] 75,
   .cells [.str [116, 48], .nils, .nils] 79],
  [(.lt (.atm 0) (.lit 0), false)], .lit 1⟩
def h0 : Hint := ⟨[], [], 0⟩
def c1 : CS := ⟨1, [(1, .inp 0 [.i64]), (5, .int .i64 (.lit 2)), (8, .ptr 0 0), (9, .slice 1 0 1 (.rest 6)), (10, .nils), (11, .map 2), (13, .int .i64 (.lit 0))],
  [.cells [.slice 3 0 1 (.rest 5), .slice 4 0 2 (.rest 3)] 25,
   .cells [.int .i64 (.lit (-1)), .int .i64 (.lit 0), .bool (.lit false), .int .i64 (.lit 0), .nils, .nils] 51,
   .map [(.int .i64 (.lit 0), .int .i64 (.lit 1), 0), (.int .i64 (.lit 1), .int .i64 (.lit 1), 0)] 0,
   .cells [.int .u8 (.lit 5), .str [98], .int .i64 (.lit 2), .str [], .int .i64 (.lit 1)] 75,
   .cells [.str [116, 48], .nils, .nils, .str [116, 49], .nils, .nils] 79],
  [(.lt (.atm 0) (.lit 0), false)], .lit 2⟩
def h1 : Hint := ⟨[], [], 0⟩
def c2 : CS := ⟨1, [(1, .inp 0 [.i64]), (5, .int .i64 (.lit 3)), (8, .ptr 0 0), (9, .slice 1 0 1 (.rest 6)), (10, .nils), (11, .map 2), (13, .int .i64 (.lit 0))],
  [.cells [.slice 3 0 1 (.rest 5), .slice 4 0 3 (.rest 3)] 25,
   .cells [.int .i64 (.lit (-1)), .int .i64 (.lit 0), .bool (.lit false), .int .i64 (.lit 0), .nils, .nils] 51,
   .map [(.int .i64 (.lit 0), .int .i64 (.lit 1), 0), (.int .i64 (.lit 1), .int .i64 (.lit 1), 0), (.int .i64 (.lit 2), .int .i64 (.lit 1), 0)] 0,
   .cells [.int .u8 (.lit 5), .str [98], .int .i64 (.lit 3), .str [], .int .i64 (.lit 1)] 75,
   .cells [.str [116, 48], .nils, .nils, .str [116, 49], .nils, .nils, .str [116, 50], .nils, .nils] 79],
  [(.lt (.atm 0) (.lit 0), false)], .lit 3⟩
def h2 : Hint := ⟨[], [], 0⟩
def c3 : CS := ⟨1, [(1, .inp 0 [.i64]), (5, .int .i64 (.lit 4)), (8, .ptr 0 0), (9, .slice 1 0 1 (.rest 6)), (10, .nils), (11, .map 2), (13, .int .i64 (.lit 0))],
  [.cells [.slice 3 0 1 (.rest 5), .slice 4 0 4 (.rest 3)] 25,
   .cells [.int .i64 (.lit (-1)), .int .i64 (.lit 0), .bool (.lit false), .int .i64 (.lit 0), .nils, .nils] 51,
   .map [(.int .i64 (.lit 0), .int .i64 (.lit 1), 0), (.int .i64 (.lit 1), .int .i64 (.lit 1), 0), (.int .i64 (.lit 2), .int .i64 (.lit 1), 0), (.int .i64 (.lit 3), .int .i64 (.lit 1), 0)] 0,
   .cells [.int .u8 (.lit 5), .str [98], .int .i64 (.lit 4), .str [], .int .i64 (.lit 1)] 75,
   .cells [.str [116, 48], .nils, .nils, .str [116, 49], .nils, .nils, .str [116, 50], .nils, .nils, .str [116, 51], .nils, .nils] 79],
  [(.lt (.atm 0) (.lit 0), false)], .lit 4⟩
def h3 : Hint := ⟨[], [], 0⟩
def c4 : CS := ⟨1, [(1, .inp 0 [.i64]), (5, .int .i64 (.lit 5)), (8, .ptr 0 0), (9, .slice 1 0 1 (.rest 6)), (10, .nils), (11, .map 2), (13, .int .i64 (.lit 0))],
  [.cells [.slice 3 0 1 (.rest 5), .slice 4 0 5 (.rest 3)] 25,
   .cells [.int .i64 (.lit (-1)), .int .i64 (.lit 0), .bool (.lit false), .int .i64 (.lit 0), .nils, .nils] 51,
   .map [(.int .i64 (.lit 0), .int .i64 (.lit 1), 0), (.int .i64 (.lit 1), .int .i64 (.lit 1), 0), (.int .i64 (.lit 2), .int .i64 (.lit 1), 0), (.int .i64 (.lit 3), .int .i64 (.lit 1), 0), (.int .i64 (.lit 4), .int .i64 (.lit 1), 0)] 0,
   .cells [.int .u8 (.lit 5), .str [98], .int .i64 (.lit 5), .str [], .int .i64 (.lit 1)] 75,
   .cells [.str [116, 48], .nils, .nils, .str [116, 49], .nils, .nils, .str [116, 50], .nils, .nils, .str [116, 51], .nils, .nils, .str [116, 52], .nils, .nils] 79],
  [(.lt (.atm 0) (.lit 0), false)], .lit 5⟩
def h4 : Hint := ⟨[], [], 0⟩
def c5 : CS := ⟨1, [(1, .inp 0 [.i64]), (5, .int .i64 (.lit 6)), (8, .ptr 0 0), (9, .slice 1 0 1 (.rest 6)), (10, .nils), (11, .map 2), (13, .int .i64 (.lit 0))],
  [.cells [.slice 3 0 1 (.rest 5), .slice 4 0 6 (.rest 3)] 25,
   .cells [.int .i64 (.lit (-1)), .int .i64 (.lit 0), .bool (.lit false), .int .i64 (.lit 0), .nils, .nils] 51,
   .map [(.int .i64 (.lit 0), .int .i64 (.lit 1), 0), (.int .i64 (.lit 1), .int .i64 (.lit 1), 0), (.int .i64 (.lit 2), .int .i64 (.lit 1), 0), (.int .i64 (.lit 3), .int .i64 (.lit 1), 0), (.int .i64 (.lit 4), .int .i64 (.lit 1), 0), (.int .i64 (.lit 5), .int .i64 (.lit 1), 0)] 0,
   .cells [.int .u8 (.lit 5), .str [98], .int .i64 (.lit 6), .str [], .int .i64 (.lit 1)] 75,
   .cells [.str [116, 48], .nils, .nils, .str [116, 49], .nils, .nils, .str [116, 50], .nils, .nils, .str [116, 51], .nils, .nils, .str [116, 52], .nils, .nils, .str [116, 53], .nils, .nils] 79],
  [(.lt (.atm 0) (.lit 0), false)], .lit 6⟩
def h5 : Hint := ⟨[], [], 0⟩
def c6 : CS := ⟨2, [(1, .inp 0 [.i64]), (5, .int .i64 (.lit 1)), (8, .ptr 0 0), (9, .slice 1 0 1 (.rest 6)), (10, .slice 2 0 1 (.rest 1)), (11, .map 3), (13, .int .i64 (.lit 1))],
  [.cells [.slice 4 0 1 (.rest 5), .slice 5 0 1 (.rest 3)] 25,
   .cells [.int .i64 (.lit (-1)), .int .i64 (.lit 0), .bool (.lit false), .int .i64 (.lit 0), .nils, .nils] 51,
   .cells [.int .i64 (.atm 1)] 3,
   .map [] 0,
   .cells [.int .u8 (.lit 5), .str [98], .int .i64 (.lit 1), .str [], .int .i64 (.lit 1)] 75,
   .cells [.str [116, 48], .nils, .nils] 79],
  [(.lt (.atm 0) (.lit 0), false), (.lt (.atm 1) (.lit 0), false), (.lt (.atm 1) (.lit 1), true)], .lit 0⟩
def h6 : Hint := ⟨[], [], 0⟩
def c7 : CS := ⟨2, [(1, .inp 0 [.i64]), (5, .int .i64 (.lit 2)), (8, .ptr 0 0), (9, .slice 1 0 1 (.rest 6)), (10, .slice 2 0 1 (.rest 1)), (11, .map 3), (13, .int .i64 (.lit 1))],
  [.cells [.slice 4 0 1 (.rest 5), .slice 5 0 2 (.rest 3)] 25,
   .cells [.int .i64 (.lit (-1)), .int .i64 (.lit 0), .bool (.lit false), .int .i64 (.lit 0), .nils, .nils] 51,
   .cells [.int .i64 (.atm 1)] 3,
   .map [(.int .i64 (.lit 1), .int .i64 (.lit 1), 0)] 0,
   .cells [.int .u8 (.lit 5), .str [98], .int .i64 (.lit 2), .str [], .int .i64 (.lit 1)] 75,
   .cells [.str [116, 48], .nils, .nils, .str [116, 49], .nils, .nils] 79],
  [(.lt (.atm 0) (.lit 0), false), (.lt (.atm 1) (.lit 0), false), (.lt (.atm 1) (.lit 2), true)], .lit 1⟩
def h7 : Hint := ⟨[], [], 0⟩
def c8 : CS := ⟨2, [(1, .inp 0 [.i64]), (5, .int .i64 (.lit 2)), (8, .ptr 0 0), (9, .slice 1 0 1 (.rest 6)), (10, .slice 2 0 1 (.rest 1)), (11, .map 3), (13, .int .i64 (.lit 1))],
  [.cells [.slice 4 0 1 (.rest 5), .slice 5 0 2 (.rest 3)] 25,
   .cells [.int .i64 (.lit (-1)), .int .i64 (.lit 0), .bool (.lit false), .int .i64 (.lit 0), .nils, .nils] 51,
   .cells [.int .i64 (.atm 1)] 3,
   .map [(.int .i64 (.lit 0), .int .i64 (.lit 1), 0)] 0,
   .cells [.int .u8 (.lit 5), .str [98], .int .i64 (.lit 2), .str [], .int .i64 (.lit 1)] 75,
   .cells [.str [116, 48], .nils, .nils, .str [116, 49], .nils, .nils] 79],
  [(.lt (.atm 0) (.lit 0), false), (.lt (.atm 1) (.lit 0), false), (.lt (.atm 1) (.lit 2), true)], .lit 1⟩
def h8 : Hint := ⟨[], [], 0⟩
def c9 : CS := ⟨2, [(1, .inp 0 [.i64]), (5, .int .i64 (.lit 3)), (8, .ptr 0 0), (9, .slice 1 0 1 (.rest 6)), (10, .slice 2 0 1 (.rest 1)), (11, .map 3), (13, .int .i64 (.lit 1))],
  [.cells [.slice 4 0 1 (.rest 5), .slice 5 0 3 (.rest 3)] 25,
   .cells [.int .i64 (.lit (-1)), .int .i64 (.lit 0), .bool (.lit false), .int .i64 (.lit 0), .nils, .nils] 51,
   .cells [.int .i64 (.atm 1)] 3,
   .map [(.int .i64 (.lit 1), .int .i64 (.lit 1), 0), (.int .i64 (.lit 2), .int .i64 (.lit 1), 0)] 0,
   .cells [.int .u8 (.lit 5), .str [98], .int .i64 (.lit 3), .str [], .int .i64 (.lit 1)] 75,
   .cells [.str [116, 48], .nils, .nils, .str [116, 49], .nils, .nils, .str [116, 50], .nils, .nils] 79],
  [(.lt (.atm 0) (.lit 0), false), (.lt (.atm 1) (.lit 0), false), (.lt (.atm 1) (.lit 3), true)], .lit 2⟩
def h9 : Hint := ⟨[], [], 0⟩
def c10 : CS := ⟨2, [(1, .inp 0 [.i64]), (5, .int .i64 (.lit 3)), (8, .ptr 0 0), (9, .slice 1 0 1 (.rest 6)), (10, .slice 2 0 1 (.rest 1)), (11, .map 3), (13, .int .i64 (.lit 1))],
  [.cells [.slice 4 0 1 (.rest 5), .slice 5 0 3 (.rest 3)] 25,
   .cells [.int .i64 (.lit (-1)), .int .i64 (.lit 0), .bool (.lit false), .int .i64 (.lit 0), .nils, .nils] 51,
   .cells [.int .i64 (.atm 1)] 3,
   .map [(.int .i64 (.lit 0), .int .i64 (.lit 1), 0), (.int .i64 (.lit 2), .int .i64 (.lit 1), 0)] 0,
   .cells [.int .u8 (.lit 5), .str [98], .int .i64 (.lit 3), .str [], .int .i64 (.lit 1)] 75,
   .cells [.str [116, 48], .nils, .nils, .str [116, 49], .nils, .nils, .str [116, 50], .nils, .nils] 79],
  [(.lt (.atm 0) (.lit 0), false), (.lt (.atm 1) (.lit 0), false), (.lt (.atm 1) (.lit 3), true)], .lit 2⟩
def h10 : Hint := ⟨[], [], 0⟩
def c11 : CS := ⟨2, [(1, .inp 0 [.i64]), (5, .int .i64 (.lit 3)), (8, .ptr 0 0), (9, .slice 1 0 1 (.rest 6)), (10, .slice 2 0 1 (.rest 1)), (11, .map 3), (13, .int .i64 (.lit 1))],
  [.cells [.slice 4 0 1 (.rest 5), .slice 5 0 3 (.rest 3)] 25,
   .cells [.int .i64 (.lit (-1)), .int .i64 (.lit 0), .bool (.lit false), .int .i64 (.lit 0), .nils, .nils] 51,
   .cells [.int .i64 (.atm 1)] 3,
   .map [(.int .i64 (.lit 0), .int .i64 (.lit 1), 0), (.int .i64 (.lit 1), .int .i64 (.lit 1), 0)] 0,
   .cells [.int .u8 (.lit 5), .str [98], .int .i64 (.lit 3), .str [], .int .i64 (.lit 1)] 75,
   .cells [.str [116, 48], .nils, .nils, .str [116, 49], .nils, .nils, .str [116, 50], .nils, .nils] 79],
  [(.lt (.atm 0) (.lit 0), false), (.lt (.atm 1) (.lit 0), false), (.lt (.atm 1) (.lit 3), true)], .lit 2⟩
def h11 : Hint := ⟨[], [], 0⟩
def c12 : CS := ⟨2, [(1, .inp 0 [.i64]), (5, .int .i64 (.lit 4)), (8, .ptr 0 0), (9, .slice 1 0 1 (.rest 6)), (10, .slice 2 0 1 (.rest 1)), (11, .map 3), (13, .int .i64 (.lit 1))],
  [.cells [.slice 4 0 1 (.rest 5), .slice 5 0 4 (.rest 3)] 25,
   .cells [.int .i64 (.lit (-1)), .int .i64 (.lit 0), .bool (.lit false), .int .i64 (.lit 0), .nils, .nils] 51,
   .cells [.int .i64 (.atm 1)] 3,
   .map [(.int .i64 (.lit 1), .int .i64 (.lit 1), 0), (.int .i64 (.lit 2), .int .i64 (.lit 1), 0), (.int .i64 (.lit 3), .int .i64 (.lit 1), 0)] 0,
   .cells [.int .u8 (.lit 5), .str [98], .int .i64 (.lit 4), .str [], .int .i64 (.lit 1)] 75,
   .cells [.str [116, 48], .nils, .nils, .str [116, 49], .nils, .nils, .str [116, 50], .nils, .nils, .str [116, 51], .nils, .nils] 79],
  [(.lt (.atm 0) (.lit 0), false), (.lt (.atm 1) (.lit 0), false), (.lt (.atm 1) (.lit 4), true)], .lit 3⟩
def h12 : Hint := ⟨[], [], 0⟩
def c13 : CS := ⟨2, [(1, .inp 0 [.i64]), (5, .int .i64 (.lit 4)), (8, .ptr 0 0), (9, .slice 1 0 1 (.rest 6)), (10, .slice 2 0 1 (.rest 1)), (11, .map 3), (13, .int .i64 (.lit 1))],
  [.cells [.slice 4 0 1 (.rest 5), .slice 5 0 4 (.rest 3)] 25,
   .cells [.int .i64 (.lit (-1)), .int .i64 (.lit 0), .bool (.lit false), .int .i64 (.lit 0), .nils, .nils] 51,
   .cells [.int .i64 (.atm 1)] 3,
   .map [(.int .i64 (.lit 0), .int .i64 (.lit 1), 0), (.int .i64 (.lit 2), .int .i64 (.lit 1), 0), (.int .i64 (.lit 3), .int .i64 (.lit 1), 0)] 0,
   .cells [.int .u8 (.lit 5), .str [98], .int .i64 (.lit 4), .str [], .int .i64 (.lit 1)] 75,
   .cells [.str [116, 48], .nils, .nils, .str [116, 49], .nils, .nils, .str [116, 50], .nils, .nils, .str [116, 51], .nils, .nils] 79],
  [(.lt (.atm 0) (.lit 0), false), (.lt (.atm 1) (.lit 0), false), (.lt (.atm 1) (.lit 4), true)], .lit 3⟩
def h13 : Hint := ⟨[], [], 0⟩
def c14 : CS := ⟨2, [(1, .inp 0 [.i64]), (5, .int .i64 (.lit 4)), (8, .ptr 0 0), (9, .slice 1 0 1 (.rest 6)), (10, .slice 2 0 1 (.rest 1)), (11, .map 3), (13, .int .i64 (.lit 1))],
  [.cells [.slice 4 0 1 (.rest 5), .slice 5 0 4 (.rest 3)] 25,
   .cells [.int .i64 (.lit (-1)), .int .i64 (.lit 0), .bool (.lit false), .int .i64 (.lit 0), .nils, .nils] 51,
   .cells [.int .i64 (.atm 1)] 3,
   .map [(.int .i64 (.lit 0), .int .i64 (.lit 1), 0), (.int .i64 (.lit 1), .int .i64 (.lit 1), 0), (.int .i64 (.lit 3), .int .i64 (.lit 1), 0)] 0,
   .cells [.int .u8 (.lit 5), .str [98], .int .i64 (.lit 4), .str [], .int .i64 (.lit 1)] 75,
   .cells [.str [116, 48], .nils, .nils, .str [116, 49], .nils, .nils, .str [116, 50], .nils, .nils, .str [116, 51], .nils, .nils] 79],
  [(.lt (.atm 0) (.lit 0), false), (.lt (.atm 1) (.lit 0), false), (.lt (.atm 1) (.lit 4), true)], .lit 3⟩
def h14 : Hint := ⟨[], [], 0⟩
def c15 : CS := ⟨2, [(1, .inp 0 [.i64]), (5, .int .i64 (.lit 4)), (8, .ptr 0 0), (9, .slice 1 0 1 (.rest 6)), (10, .slice 2 0 1 (.rest 1)), (11, .map 3), (13, .int .i64 (.lit 1))],
  [.cells [.slice 4 0 1 (.rest 5), .slice 5 0 4 (.rest 3)] 25,
   .cells [.int .i64 (.lit (-1)), .int .i64 (.lit 0), .bool (.lit false), .int .i64 (.lit 0), .nils, .nils] 51,
   .cells [.int .i64 (.atm 1)] 3,
   .map [(.int .i64 (.lit 0), .int .i64 (.lit 1), 0), (.int .i64 (.lit 1), .int .i64 (.lit 1), 0), (.int .i64 (.lit 2), .int .i64 (.lit 1), 0)] 0,
   .cells [.int .u8 (.lit 5), .str [98], .int .i64 (.lit 4), .str [], .int .i64 (.lit 1)] 75,
   .cells [.str [116, 48], .nils, .nils, .str [116, 49], .nils, .nils, .str [116, 50], .nils, .nils, .str [116, 51], .nils, .nils] 79],
  [(.lt (.atm 0) (.lit 0), false), (.lt (.atm 1) (.lit 0), false), (.lt (.atm 1) (.lit 4), true)], .lit 3⟩
def h15 : Hint := ⟨[], [], 0⟩
def c16 : CS := ⟨2, [(1, .inp 0 [.i64]), (5, .int .i64 (.lit 5)), (8, .ptr 0 0), (9, .slice 1 0 1 (.rest 6)), (10, .slice 2 0 1 (.rest 1)), (11, .map 3), (13, .int .i64 (.lit 1))],
  [.cells [.slice 4 0 1 (.rest 5), .slice 5 0 5 (.rest 3)] 25,
   .cells [.int .i64 (.lit (-1)), .int .i64 (.lit 0), .bool (.lit false), .int .i64 (.lit 0), .nils, .nils] 51,
   .cells [.int .i64 (.atm 1)] 3,
   .map [(.int .i64 (.lit 1), .int .i64 (.lit 1), 0), (.int .i64 (.lit 2), .int .i64 (.lit 1), 0), (.int .i64 (.lit 3), .int .i64 (.lit 1), 0), (.int .i64 (.lit 4), .int .i64 (.lit 1), 0)] 0,
   .cells [.int .u8 (.lit 5), .str [98], .int .i64 (.lit 5), .str [], .int .i64 (.lit 1)] 75,
   .cells [.str [116, 48], .nils, .nils, .str [116, 49], .nils, .nils, .str [116, 50], .nils, .nils, .str [116, 51], .nils, .nils, .str [116, 52], .nils, .nils] 79],
  [(.lt (.atm 0) (.lit 0), false), (.lt (.atm 1) (.lit 0), false), (.lt (.atm 1) (.lit 5), true)], .lit 4⟩
def h16 : Hint := ⟨[], [], 0⟩
def c17 : CS := ⟨2, [(1, .inp 0 [.i64]), (5, .int .i64 (.lit 5)), (8, .ptr 0 0), (9, .slice 1 0 1 (.rest 6)), (10, .slice 2 0 1 (.rest 1)), (11, .map 3), (13, .int .i64 (.lit 1))],
  [.cells [.slice 4 0 1 (.rest 5), .slice 5 0 5 (.rest 3)] 25,
   .cells [.int .i64 (.lit (-1)), .int .i64 (.lit 0), .bool (.lit false), .int .i64 (.lit 0), .nils, .nils] 51,
   .cells [.int .i64 (.atm 1)] 3,
   .map [(.int .i64 (.lit 0), .int .i64 (.lit 1), 0), (.int .i64 (.lit 2), .int .i64 (.lit 1), 0), (.int .i64 (.lit 3), .int .i64 (.lit 1), 0), (.int .i64 (.lit 4), .int .i64 (.lit 1), 0)] 0,
   .cells [.int .u8 (.lit 5), .str [98], .int .i64 (.lit 5), .str [], .int .i64 (.lit 1)] 75,
   .cells [.str [116, 48], .nils, .nils, .str [116, 49], .nils, .nils, .str [116, 50], .nils, .nils, .str [116, 51], .nils, .nils, .str [116, 52], .nils, .nils] 79],
  [(.lt (.atm 0) (.lit 0), false), (.lt (.atm 1) (.lit 0), false), (.lt (.atm 1) (.lit 5), true)], .lit 4⟩
def h17 : Hint := ⟨[], [], 0⟩
def c18 : CS := ⟨2, [(1, .inp 0 [.i64]), (5, .int .i64 (.lit 5)), (8, .ptr 0 0), (9, .slice 1 0 1 (.rest 6)), (10, .slice 2 0 1 (.rest 1)), (11, .map 3), (13, .int .i64 (.lit 1))],
  [.cells [.slice 4 0 1 (.rest 5), .slice 5 0 5 (.rest 3)] 25,
   .cells [.int .i64 (.lit (-1)), .int .i64 (.lit 0), .bool (.lit false), .int .i64 (.lit 0), .nils, .nils] 51,
   .cells [.int .i64 (.atm 1)] 3,
   .map [(.int .i64 (.lit 0), .int .i64 (.lit 1), 0), (.int .i64 (.lit 1), .int .i64 (.lit 1), 0), (.int .i64 (.lit 3), .int .i64 (.lit 1), 0), (.int .i64 (.lit 4), .int .i64 (.lit 1), 0)] 0,
   .cells [.int .u8 (.lit 5), .str [98], .int .i64 (.lit 5), .str [], .int .i64 (.lit 1)] 75,
   .cells [.str [116, 48], .nils, .nils, .str [116, 49], .nils, .nils, .str [116, 50], .nils, .nils, .str [116, 51], .nils, .nils, .str [116, 52], .nils, .nils] 79],
  [(.lt (.atm 0) (.lit 0), false), (.lt (.atm 1) (.lit 0), false), (.lt (.atm 1) (.lit 5), true)], .lit 4⟩
def h18 : Hint := ⟨[], [], 0⟩
def c19 : CS := ⟨2, [(1, .inp 0 [.i64]), (5, .int .i64 (.lit 5)), (8, .ptr 0 0), (9, .slice 1 0 1 (.rest 6)), (10, .slice 2 0 1 (.rest 1)), (11, .map 3), (13, .int .i64 (.lit 1))],
  [.cells [.slice 4 0 1 (.rest 5), .slice 5 0 5 (.rest 3)] 25,
   .cells [.int .i64 (.lit (-1)), .int .i64 (.lit 0), .bool (.lit false), .int .i64 (.lit 0), .nils, .nils] 51,
   .cells [.int .i64 (.atm 1)] 3,
   .map [(.int .i64 (.lit 0), .int .i64 (.lit 1), 0), (.int .i64 (.lit 1), .int .i64 (.lit 1), 0), (.int .i64 (.lit 2), .int .i64 (.lit 1), 0), (.int .i64 (.lit 4), .int .i64 (.lit 1), 0)] 0,
   .cells [.int .u8 (.lit 5), .str [98], .int .i64 (.lit 5), .str [], .int .i64 (.lit 1)] 75,
   .cells [.str [116, 48], .nils, .nils, .str [116, 49], .nils, .nils, .str [116, 50], .nils, .nils, .str [116, 51], .nils, .nils, .str [116, 52], .nils, .nils] 79],
  [(.lt (.atm 0) (.lit 0), false), (.lt (.atm 1) (.lit 0), false), (.lt (.atm 1) (.lit 5), true)], .lit 4⟩
def h19 : Hint := ⟨[], [], 0⟩
def c20 : CS := ⟨2, [(1, .inp 0 [.i64]), (5, .int .i64 (.lit 5)), (8, .ptr 0 0), (9, .slice 1 0 1 (.rest 6)), (10, .slice 2 0 1 (.rest 1)), (11, .map 3), (13, .int .i64 (.lit 1))],
  [.cells [.slice 4 0 1 (.rest 5), .slice 5 0 5 (.rest 3)] 25,
   .cells [.int .i64 (.lit (-1)), .int .i64 (.lit 0), .bool (.lit false), .int .i64 (.lit 0), .nils, .nils] 51,
   .cells [.int .i64 (.atm 1)] 3,
   .map [(.int .i64 (.lit 0), .int .i64 (.lit 1), 0), (.int .i64 (.lit 1), .int .i64 (.lit 1), 0), (.int .i64 (.lit 2), .int .i64 (.lit 1), 0), (.int .i64 (.lit 3), .int .i64 (.lit 1), 0)] 0,
   .cells [.int .u8 (.lit 5), .str [98], .int .i64 (.lit 5), .str [], .int .i64 (.lit 1)] 75,
   .cells [.str [116, 48], .nils, .nils, .str [116, 49], .nils, .nils, .str [116, 50], .nils, .nils, .str [116, 51], .nils, .nils, .str [116, 52], .nils, .nils] 79],
  [(.lt (.atm 0) (.lit 0), false), (.lt (.atm 1) (.lit 0), false), (.lt (.atm 1) (.lit 5), true)], .lit 4⟩
def h20 : Hint := ⟨[], [], 0⟩
def c21 : CS := ⟨2, [(1, .inp 0 [.i64]), (5, .int .i64 (.lit 6)), (8, .ptr 0 0), (9, .slice 1 0 1 (.rest 6)), (10, .slice 2 0 1 (.rest 1)), (11, .map 3), (13, .int .i64 (.lit 1))],
  [.cells [.slice 4 0 1 (.rest 5), .slice 5 0 6 (.rest 3)] 25,
   .cells [.int .i64 (.lit (-1)), .int .i64 (.lit 0), .bool (.lit false), .int .i64 (.lit 0), .nils, .nils] 51,
   .cells [.int .i64 (.atm 1)] 3,
   .map [(.int .i64 (.lit 1), .int .i64 (.lit 1), 0), (.int .i64 (.lit 2), .int .i64 (.lit 1), 0), (.int .i64 (.lit 3), .int .i64 (.lit 1), 0), (.int .i64 (.lit 4), .int .i64 (.lit 1), 0), (.int .i64 (.lit 5), .int .i64 (.lit 1), 0)] 0,
   .cells [.int .u8 (.lit 5), .str [98], .int .i64 (.lit 6), .str [], .int .i64 (.lit 1)] 75,
   .cells [.str [116, 48], .nils, .nils, .str [116, 49], .nils, .nils, .str [116, 50], .nils, .nils, .str [116, 51], .nils, .nils, .str [116, 52], .nils, .nils, .str [116, 53], .nils, .nils] 79],
  [(.lt (.atm 0) (.lit 0), false), (.lt (.atm 1) (.lit 0), false), (.lt (.atm 1) (.lit 6), true)], .lit 5⟩
def h21 : Hint := ⟨[], [], 0⟩
def c22 : CS := ⟨2, [(1, .inp 0 [.i64]), (5, .int .i64 (.lit 6)), (8, .ptr 0 0), (9, .slice 1 0 1 (.rest 6)), (10, .slice 2 0 1 (.rest 1)), (11, .map 3), (13, .int .i64 (.lit 1))],
  [.cells [.slice 4 0 1 (.rest 5), .slice 5 0 6 (.rest 3)] 25,
   .cells [.int .i64 (.lit (-1)), .int .i64 (.lit 0), .bool (.lit false), .int .i64 (.lit 0), .nils, .nils] 51,
   .cells [.int .i64 (.atm 1)] 3,
   .map [(.int .i64 (.lit 0), .int .i64 (.lit 1), 0), (.int .i64 (.lit 2), .int .i64 (.lit 1), 0), (.int .i64 (.lit 3), .int .i64 (.lit 1), 0), (.int .i64 (.lit 4), .int .i64 (.lit 1), 0), (.int .i64 (.lit 5), .int .i64 (.lit 1), 0)] 0,
   .cells [.int .u8 (.lit 5), .str [98], .int .i64 (.lit 6), .str [], .int .i64 (.lit 1)] 75,
   .cells [.str [116, 48], .nils, .nils, .str [116, 49], .nils, .nils, .str [116, 50], .nils, .nils, .str [116, 51], .nils, .nils, .str [116, 52], .nils, .nils, .str [116, 53], .nils, .nils] 79],
  [(.lt (.atm 0) (.lit 0), false), (.lt (.atm 1) (.lit 0), false), (.lt (.atm 1) (.lit 6), true)], .lit 5⟩
def h22 : Hint := ⟨[], [], 0⟩
def c23 : CS := ⟨2, [(1, .inp 0 [.i64]), (5, .int .i64 (.lit 6)), (8, .ptr 0 0), (9, .slice 1 0 1 (.rest 6)), (10, .slice 2 0 1 (.rest 1)), (11, .map 3), (13, .int .i64 (.lit 1))],
  [.cells [.slice 4 0 1 (.rest 5), .slice 5 0 6 (.rest 3)] 25,
   .cells [.int .i64 (.lit (-1)), .int .i64 (.lit 0), .bool (.lit false), .int .i64 (.lit 0), .nils, .nils] 51,
   .cells [.int .i64 (.atm 1)] 3,
   .map [(.int .i64 (.lit 0), .int .i64 (.lit 1), 0), (.int .i64 (.lit 1), .int .i64 (.lit 1), 0), (.int .i64 (.lit 3), .int .i64 (.lit 1), 0), (.int .i64 (.lit 4), .int .i64 (.lit 1), 0), (.int .i64 (.lit 5), .int .i64 (.lit 1), 0)] 0,
   .cells [.int .u8 (.lit 5), .str [98], .int .i64 (.lit 6), .str [], .int .i64 (.lit 1)] 75,
   .cells [.str [116, 48], .nils, .nils, .str [116, 49], .nils, .nils, .str [116, 50], .nils, .nils, .str [116, 51], .nils, .nils, .str [116, 52], .nils, .nils, .str [116, 53], .nils, .nils] 79],
  [(.lt (.atm 0) (.lit 0), false), (.lt (.atm 1) (.lit 0), false), (.lt (.atm 1) (.lit 6), true)], .lit 5⟩
def h23 : Hint := ⟨[], [], 0⟩
def c24 : CS := ⟨2, [(1, .inp 0 [.i64]), (5, .int .i64 (.lit 6)), (8, .ptr 0 0), (9, .slice 1 0 1 (.rest 6)), (10, .slice 2 0 1 (.rest 1)), (11, .map 3), (13, .int .i64 (.lit 1))],
  [.cells [.slice 4 0 1 (.rest 5), .slice 5 0 6 (.rest 3)] 25,
   .cells [.int .i64 (.lit (-1)), .int .i64 (.lit 0), .bool (.lit false), .int .i64 (.lit 0), .nils, .nils] 51,
   .cells [.int .i64 (.atm 1)] 3,
   .map [(.int .i64 (.lit 0), .int .i64 (.lit 1), 0), (.int .i64 (.lit 1), .int .i64 (.lit 1), 0), (.int .i64 (.lit 2), .int .i64 (.lit 1), 0), (.int .i64 (.lit 4), .int .i64 (.lit 1), 0), (.int .i64 (.lit 5), .int .i64 (.lit 1), 0)] 0,
   .cells [.int .u8 (.lit 5), .str [98], .int .i64 (.lit 6), .str [], .int .i64 (.lit 1)] 75,
   .cells [.str [116, 48], .nils, .nils, .str [116, 49], .nils, .nils, .str [116, 50], .nils, .nils, .str [116, 51], .nils, .nils, .str [116, 52], .nils, .nils, .str [116, 53], .nils, .nils] 79],
  [(.lt (.atm 0) (.lit 0), false), (.lt (.atm 1) (.lit 0), false), (.lt (.atm 1) (.lit 6), true)], .lit 5⟩
def h24 : Hint := ⟨[], [], 0⟩
def c25 : CS := ⟨2, [(1, .inp 0 [.i64]), (5, .int .i64 (.lit 6)), (8, .ptr 0 0), (9, .slice 1 0 1 (.rest 6)), (10, .slice 2 0 1 (.rest 1)), (11, .map 3), (13, .int .i64 (.lit 1))],
  [.cells [.slice 4 0 1 (.rest 5), .slice 5 0 6 (.rest 3)] 25,
   .cells [.int .i64 (.lit (-1)), .int .i64 (.lit 0), .bool (.lit false), .int .i64 (.lit 0), .nils, .nils] 51,
   .cells [.int .i64 (.atm 1)] 3,
   .map [(.int .i64 (.lit 0), .int .i64 (.lit 1), 0), (.int .i64 (.lit 1), .int .i64 (.lit 1), 0), (.int .i64 (.lit 2), .int .i64 (.lit 1), 0), (.int .i64 (.lit 3), .int .i64 (.lit 1), 0), (.int .i64 (.lit 5), .int .i64 (.lit 1), 0)] 0,
   .cells [.int .u8 (.lit 5), .str [98], .int .i64 (.lit 6), .str [], .int .i64 (.lit 1)] 75,
   .cells [.str [116, 48], .nils, .nils, .str [116, 49], .nils, .nils, .str [116, 50], .nils, .nils, .str [116, 51], .nils, .nils, .str [116, 52], .nils, .nils, .str [116, 53], .nils, .nils] 79],
  [(.lt (.atm 0) (.lit 0), false), (.lt (.atm 1) (.lit 0), false), (.lt (.atm 1) (.lit 6), true)], .lit 5⟩
def h25 : Hint := ⟨[], [], 0⟩
def c26 : CS := ⟨2, [(1, .inp 0 [.i64]), (5, .int .i64 (.lit 6)), (8, .ptr 0 0), (9, .slice 1 0 1 (.rest 6)), (10, .slice 2 0 1 (.rest 1)), (11, .map 3), (13, .int .i64 (.lit 1))],
  [.cells [.slice 4 0 1 (.rest 5), .slice 5 0 6 (.rest 3)] 25,
   .cells [.int .i64 (.lit (-1)), .int .i64 (.lit 0), .bool (.lit false), .int .i64 (.lit 0), .nils, .nils] 51,
   .cells [.int .i64 (.atm 1)] 3,
   .map [(.int .i64 (.lit 0), .int .i64 (.lit 1), 0), (.int .i64 (.lit 1), .int .i64 (.lit 1), 0), (.int .i64 (.lit 2), .int .i64 (.lit 1), 0), (.int .i64 (.lit 3), .int .i64 (.lit 1), 0), (.int .i64 (.lit 4), .int .i64 (.lit 1), 0)] 0,
   .cells [.int .u8 (.lit 5), .str [98], .int .i64 (.lit 6), .str [], .int .i64 (.lit 1)] 75,
   .cells [.str [116, 48], .nils, .nils, .str [116, 49], .nils, .nils, .str [116, 50], .nils, .nils, .str [116, 51], .nils, .nils, .str [116, 52], .nils, .nils, .str [116, 53], .nils, .nils] 79],
  [(.lt (.atm 0) (.lit 0), false), (.lt (.atm 1) (.lit 0), false), (.lt (.atm 1) (.lit 6), true)], .lit 5⟩
def h26 : Hint := ⟨[], [], 0⟩
def c27 : CS := ⟨4, [(1, .inp 0 [.i64]), (5, .int .i64 (.lit 2)), (8, .ptr 0 0), (9, .slice 1 0 1 (.rest 6)), (10, .slice 2 0 2 (.rest 1)), (11, .map 3), (13, .int .i64 (.lit 2))],
  [.cells [.slice 4 0 1 (.rest 5), .slice 5 0 2 (.rest 3)] 25,
   .cells [.int .i64 (.lit (-1)), .int .i64 (.lit 0), .bool (.lit false), .int .i64 (.lit 0), .nils, .nils] 51,
   .cells [.int .i64 (.atm 2), .int .i64 (.atm 3)] 3,
   .map [] 0,
   .cells [.int .u8 (.lit 5), .str [98], .int .i64 (.lit 2), .str [], .int .i64 (.lit 1)] 75,
   .cells [.str [116, 48], .nils, .nils, .str [116, 49], .nils, .nils] 79],
  [(.lt (.atm 0) (.lit 0), false), (.lt (.atm 1) (.lit 0), false), (.lt (.atm 1) (.lit 2), true), (.lt (.atm 2) (.lit 0), false), (.lt (.atm 2) (.lit 2), true), (.lt (.atm 3) (.lit 0), false), (.lt (.atm 3) (.lit 2), true)], .lit 0⟩
def h27 : Hint := ⟨[], [], 0⟩
def c28 : CS := ⟨4, [(1, .inp 0 [.i64]), (5, .int .i64 (.lit 3)), (8, .ptr 0 0), (9, .slice 1 0 1 (.rest 6)), (10, .slice 2 0 2 (.rest 1)), (11, .map 3), (13, .int .i64 (.lit 2))],
  [.cells [.slice 4 0 1 (.rest 5), .slice 5 0 3 (.rest 3)] 25,
   .cells [.int .i64 (.lit (-1)), .int .i64 (.lit 0), .bool (.lit false), .int .i64 (.lit 0), .nils, .nils] 51,
   .cells [.int .i64 (.atm 2), .int .i64 (.atm 3)] 3,
   .map [(.int .i64 (.lit 2), .int .i64 (.lit 1), 0)] 0,
   .cells [.int .u8 (.lit 5), .str [98], .int .i64 (.lit 3), .str [], .int .i64 (.lit 1)] 75,
   .cells [.str [116, 48], .nils, .nils, .str [116, 49], .nils, .nils, .str [116, 50], .nils, .nils] 79],
  [(.lt (.atm 0) (.lit 0), false), (.lt (.atm 1) (.lit 0), false), (.lt (.atm 1) (.lit 3), true), (.lt (.atm 2) (.lit 0), false), (.lt (.atm 2) (.lit 3), true), (.lt (.atm 3) (.lit 0), false), (.lt (.atm 3) (.lit 3), true)], .lit 1⟩
def h28 : Hint := ⟨[], [], 0⟩
def c29 : CS := ⟨4, [(1, .inp 0 [.i64]), (5, .int .i64 (.lit 3)), (8, .ptr 0 0), (9, .slice 1 0 1 (.rest 6)), (10, .slice 2 0 2 (.rest 1)), (11, .map 3), (13, .int .i64 (.lit 2))],
  [.cells [.slice 4 0 1 (.rest 5), .slice 5 0 3 (.rest 3)] 25,
   .cells [.int .i64 (.lit (-1)), .int .i64 (.lit 0), .bool (.lit false), .int .i64 (.lit 0), .nils, .nils] 51,
   .cells [.int .i64 (.atm 2), .int .i64 (.atm 3)] 3,
   .map [(.int .i64 (.lit 1), .int .i64 (.lit 1), 0)] 0,
   .cells [.int .u8 (.lit 5), .str [98], .int .i64 (.lit 3), .str [], .int .i64 (.lit 1)] 75,
   .cells [.str [116, 48], .nils, .nils, .str [116, 49], .nils, .nils, .str [116, 50], .nils, .nils] 79],
  [(.lt (.atm 0) (.lit 0), false), (.lt (.atm 1) (.lit 0), false), (.lt (.atm 1) (.lit 3), true), (.lt (.atm 2) (.lit 0), false), (.lt (.atm 2) (.lit 3), true), (.lt (.atm 3) (.lit 0), false), (.lt (.atm 3) (.lit 3), true)], .lit 1⟩
def h29 : Hint := ⟨[], [], 0⟩
def c30 : CS := ⟨4, [(1, .inp 0 [.i64]), (5, .int .i64 (.lit 3)), (8, .ptr 0 0), (9, .slice 1 0 1 (.rest 6)), (10, .slice 2 0 2 (.rest 1)), (11, .map 3), (13, .int .i64 (.lit 2))],
  [.cells [.slice 4 0 1 (.rest 5), .slice 5 0 3 (.rest 3)] 25,
   .cells [.int .i64 (.lit (-1)), .int .i64 (.lit 0), .bool (.lit false), .int .i64 (.lit 0), .nils, .nils] 51,
   .cells [.int .i64 (.atm 2), .int .i64 (.atm 3)] 3,
   .map [(.int .i64 (.lit 0), .int .i64 (.lit 1), 0)] 0,
   .cells [.int .u8 (.lit 5), .str [98], .int .i64 (.lit 3), .str [], .int .i64 (.lit 1)] 75,
   .cells [.str [116, 48], .nils, .nils, .str [116, 49], .nils, .nils, .str [116, 50], .nils, .nils] 79],
  [(.lt (.atm 0) (.lit 0), false), (.lt (.atm 1) (.lit 0), false), (.lt (.atm 1) (.lit 3), true), (.lt (.atm 2) (.lit 0), false), (.lt (.atm 2) (.lit 3), true), (.lt (.atm 3) (.lit 0), false), (.lt (.atm 3) (.lit 3), true)], .lit 1⟩
def h30 : Hint := ⟨[], [], 0⟩
def c31 : CS := ⟨4, [(1, .inp 0 [.i64]), (5, .int .i64 (.lit 4)), (8, .ptr 0 0), (9, .slice 1 0 1 (.rest 6)), (10, .slice 2 0 2 (.rest 1)), (11, .map 3), (13, .int .i64 (.lit 2))],
  [.cells [.slice 4 0 1 (.rest 5), .slice 5 0 4 (.rest 3)] 25,
   .cells [.int .i64 (.lit (-1)), .int .i64 (.lit 0), .bool (.lit false), .int .i64 (.lit 0), .nils, .nils] 51,
   .cells [.int .i64 (.atm 2), .int .i64 (.atm 3)] 3,
   .map [(.int .i64 (.lit 2), .int .i64 (.lit 1), 0), (.int .i64 (.lit 3), .int .i64 (.lit 1), 0)] 0,
   .cells [.int .u8 (.lit 5), .str [98], .int .i64 (.lit 4), .str [], .int .i64 (.lit 1)] 75,
   .cells [.str [116, 48], .nils, .nils, .str [116, 49], .nils, .nils, .str [116, 50], .nils, .nils, .str [116, 51], .nils, .nils] 79],
  [(.lt (.atm 0) (.lit 0), false), (.lt (.atm 1) (.lit 0), false), (.lt (.atm 1) (.lit 4), true), (.lt (.atm 2) (.lit 0), false), (.lt (.atm 2) (.lit 4), true), (.lt (.atm 3) (.lit 0), false), (.lt (.atm 3) (.lit 4), true)], .lit 2⟩
def h31 : Hint := ⟨[], [], 0⟩
def c32 : CS := ⟨4, [(1, .inp 0 [.i64]), (5, .int .i64 (.lit 4)), (8, .ptr 0 0), (9, .slice 1 0 1 (.rest 6)), (10, .slice 2 0 2 (.rest 1)), (11, .map 3), (13, .int .i64 (.lit 2))],
  [.cells [.slice 4 0 1 (.rest 5), .slice 5 0 4 (.rest 3)] 25,
   .cells [.int .i64 (.lit (-1)), .int .i64 (.lit 0), .bool (.lit false), .int .i64 (.lit 0), .nils, .nils] 51,
   .cells [.int .i64 (.atm 2), .int .i64 (.atm 3)] 3,
   .map [(.int .i64 (.lit 1), .int .i64 (.lit 1), 0), (.int .i64 (.lit 3), .int .i64 (.lit 1), 0)] 0,
   .cells [.int .u8 (.lit 5), .str [98], .int .i64 (.lit 4), .str [], .int .i64 (.lit 1)] 75,
   .cells [.str [116, 48], .nils, .nils, .str [116, 49], .nils, .nils, .str [116, 50], .nils, .nils, .str [116, 51], .nils, .nils] 79],
  [(.lt (.atm 0) (.lit 0), false), (.lt (.atm 1) (.lit 0), false), (.lt (.atm 1) (.lit 4), true), (.lt (.atm 2) (.lit 0), false), (.lt (.atm 2) (.lit 4), true), (.lt (.atm 3) (.lit 0), false), (.lt (.atm 3) (.lit 4), true)], .lit 2⟩
def h32 : Hint := ⟨[], [], 0⟩
def c33 : CS := ⟨4, [(1, .inp 0 [.i64]), (5, .int .i64 (.lit 4)), (8, .ptr 0 0), (9, .slice 1 0 1 (.rest 6)), (10, .slice 2 0 2 (.rest 1)), (11, .map 3), (13, .int .i64 (.lit 2))],
  [.cells [.slice 4 0 1 (.rest 5), .slice 5 0 4 (.rest 3)] 25,
   .cells [.int .i64 (.lit (-1)), .int .i64 (.lit 0), .bool (.lit false), .int .i64 (.lit 0), .nils, .nils] 51,
   .cells [.int .i64 (.atm 2), .int .i64 (.atm 3)] 3,
   .map [(.int .i64 (.lit 1), .int .i64 (.lit 1), 0), (.int .i64 (.lit 2), .int .i64 (.lit 1), 0)] 0,
   .cells [.int .u8 (.lit 5), .str [98], .int .i64 (.lit 4), .str [], .int .i64 (.lit 1)] 75,
   .cells [.str [116, 48], .nils, .nils, .str [116, 49], .nils, .nils, .str [116, 50], .nils, .nils, .str [116, 51], .nils, .nils] 79],
  [(.lt (.atm 0) (.lit 0), false), (.lt (.atm 1) (.lit 0), false), (.lt (.atm 1) (.lit 4), true), (.lt (.atm 2) (.lit 0), false), (.lt (.atm 2) (.lit 4), true), (.lt (.atm 3) (.lit 0), false), (.lt (.atm 3) (.lit 4), true)], .lit 2⟩
def h33 : Hint := ⟨[], [], 0⟩
def c34 : CS := ⟨4, [(1, .inp 0 [.i64]), (5, .int .i64 (.lit 4)), (8, .ptr 0 0), (9, .slice 1 0 1 (.rest 6)), (10, .slice 2 0 2 (.rest 1)), (11, .map 3), (13, .int .i64 (.lit 2))],
  [.cells [.slice 4 0 1 (.rest 5), .slice 5 0 4 (.rest 3)] 25,
   .cells [.int .i64 (.lit (-1)), .int .i64 (.lit 0), .bool (.lit false), .int .i64 (.lit 0), .nils, .nils] 51,
   .cells [.int .i64 (.atm 2), .int .i64 (.atm 3)] 3,
   .map [(.int .i64 (.lit 0), .int .i64 (.lit 1), 0), (.int .i64 (.lit 3), .int .i64 (.lit 1), 0)] 0,
   .cells [.int .u8 (.lit 5), .str [98], .int .i64 (.lit 4), .str [], .int .i64 (.lit 1)] 75,
   .cells [.str [116, 48], .nils, .nils, .str [116, 49], .nils, .nils, .str [116, 50], .nils, .nils, .str [116, 51], .nils, .nils] 79],
  [(.lt (.atm 0) (.lit 0), false), (.lt (.atm 1) (.lit 0), false), (.lt (.atm 1) (.lit 4), true), (.lt (.atm 2) (.lit 0), false), (.lt (.atm 2) (.lit 4), true), (.lt (.atm 3) (.lit 0), false), (.lt (.atm 3) (.lit 4), true)], .lit 2⟩
def h34 : Hint := ⟨[], [], 0⟩
def c35 : CS := ⟨4, [(1, .inp 0 [.i64]), (5, .int .i64 (.lit 4)), (8, .ptr 0 0), (9, .slice 1 0 1 (.rest 6)), (10, .slice 2 0 2 (.rest 1)), (11, .map 3), (13, .int .i64 (.lit 2))],
  [.cells [.slice 4 0 1 (.rest 5), .slice 5 0 4 (.rest 3)] 25,
   .cells [.int .i64 (.lit (-1)), .int .i64 (.lit 0), .bool (.lit false), .int .i64 (.lit 0), .nils, .nils] 51,
   .cells [.int .i64 (.atm 2), .int .i64 (.atm 3)] 3,
   .map [(.int .i64 (.lit 0), .int .i64 (.lit 1), 0), (.int .i64 (.lit 2), .int .i64 (.lit 1), 0)] 0,
   .cells [.int .u8 (.lit 5), .str [98], .int .i64 (.lit 4), .str [], .int .i64 (.lit 1)] 75,
   .cells [.str [116, 48], .nils, .nils, .str [116, 49], .nils, .nils, .str [116, 50], .nils, .nils, .str [116, 51], .nils, .nils] 79],
  [(.lt (.atm 0) (.lit 0), false), (.lt (.atm 1) (.lit 0), false), (.lt (.atm 1) (.lit 4), true), (.lt (.atm 2) (.lit 0), false), (.lt (.atm 2) (.lit 4), true), (.lt (.atm 3) (.lit 0), false), (.lt (.atm 3) (.lit 4), true)], .lit 2⟩
def h35 : Hint := ⟨[], [], 0⟩
def c36 : CS := ⟨4, [(1, .inp 0 [.i64]), (5, .int .i64 (.lit 4)), (8, .ptr 0 0), (9, .slice 1 0 1 (.rest 6)), (10, .slice 2 0 2 (.rest 1)), (11, .map 3), (13, .int .i64 (.lit 2))],
  [.cells [.slice 4 0 1 (.rest 5), .slice 5 0 4 (.rest 3)] 25,
   .cells [.int .i64 (.lit (-1)), .int .i64 (.lit 0), .bool (.lit false), .int .i64 (.lit 0), .nils, .nils] 51,
   .cells [.int .i64 (.atm 2), .int .i64 (.atm 3)] 3,
   .map [(.int .i64 (.lit 0), .int .i64 (.lit 1), 0), (.int .i64 (.lit 1), .int .i64 (.lit 1), 0)] 0,
   .cells [.int .u8 (.lit 5), .str [98], .int .i64 (.lit 4), .str [], .int .i64 (.lit 1)] 75,
   .cells [.str [116, 48], .nils, .nils, .str [116, 49], .nils, .nils, .str [116, 50], .nils, .nils, .str [116, 51], .nils, .nils] 79],
  [(.lt (.atm 0) (.lit 0), false), (.lt (.atm 1) (.lit 0), false), (.lt (.atm 1) (.lit 4), true), (.lt (.atm 2) (.lit 0), false), (.lt (.atm 2) (.lit 4), true), (.lt (.atm 3) (.lit 0), false), (.lt (.atm 3) (.lit 4), true)], .lit 2⟩
def h36 : Hint := ⟨[], [], 0⟩
def c37 : CS := ⟨4, [(1, .inp 0 [.i64]), (5, .int .i64 (.lit 5)), (8, .ptr 0 0), (9, .slice 1 0 1 (.rest 6)), (10, .slice 2 0 2 (.rest 1)), (11, .map 3), (13, .int .i64 (.lit 2))],
  [.cells [.slice 4 0 1 (.rest 5), .slice 5 0 5 (.rest 3)] 25,
   .cells [.int .i64 (.lit (-1)), .int .i64 (.lit 0), .bool (.lit false), .int .i64 (.lit 0), .nils, .nils] 51,
   .cells [.int .i64 (.atm 2), .int .i64 (.atm 3)] 3,
   .map [(.int .i64 (.lit 2), .int .i64 (.lit 1), 0), (.int .i64 (.lit 3), .int .i64 (.lit 1), 0), (.int .i64 (.lit 4), .int .i64 (.lit 1), 0)] 0,
   .cells [.int .u8 (.lit 5), .str [98], .int .i64 (.lit 5), .str [], .int .i64 (.lit 1)] 75,
   .cells [.str [116, 48], .nils, .nils, .str [116, 49], .nils, .nils, .str [116, 50], .nils, .nils, .str [116, 51], .nils, .nils, .str [116, 52], .nils, .nils] 79],
  [(.lt (.atm 0) (.lit 0), false), (.lt (.atm 1) (.lit 0), false), (.lt (.atm 1) (.lit 5), true), (.lt (.atm 2) (.lit 0), false), (.lt (.atm 2) (.lit 5), true), (.lt (.atm 3) (.lit 0), false), (.lt (.atm 3) (.lit 5), true)], .lit 3⟩
def h37 : Hint := ⟨[], [], 0⟩
def c38 : CS := ⟨4, [(1, .inp 0 [.i64]), (5, .int .i64 (.lit 5)), (8, .ptr 0 0), (9, .slice 1 0 1 (.rest 6)), (10, .slice 2 0 2 (.rest 1)), (11, .map 3), (13, .int .i64 (.lit 2))],
  [.cells [.slice 4 0 1 (.rest 5), .slice 5 0 5 (.rest 3)] 25,
   .cells [.int .i64 (.lit (-1)), .int .i64 (.lit 0), .bool (.lit false), .int .i64 (.lit 0), .nils, .nils] 51,
   .cells [.int .i64 (.atm 2), .int .i64 (.atm 3)] 3,
   .map [(.int .i64 (.lit 1), .int .i64 (.lit 1), 0), (.int .i64 (.lit 3), .int .i64 (.lit 1), 0), (.int .i64 (.lit 4), .int .i64 (.lit 1), 0)] 0,
   .cells [.int .u8 (.lit 5), .str [98], .int .i64 (.lit 5), .str [], .int .i64 (.lit 1)] 75,
   .cells [.str [116, 48], .nils, .nils, .str [116, 49], .nils, .nils, .str [116, 50], .nils, .nils, .str [116, 51], .nils, .nils, .str [116, 52], .nils, .nils] 79],
  [(.lt (.atm 0) (.lit 0), false), (.lt (.atm 1) (.lit 0), false), (.lt (.atm 1) (.lit 5), true), (.lt (.atm 2) (.lit 0), false), (.lt (.atm 2) (.lit 5), true), (.lt (.atm 3) (.lit 0), false), (.lt (.atm 3) (.lit 5), true)], .lit 3⟩
def h38 : Hint := ⟨[], [], 0⟩
def c39 : CS := ⟨4, [(1, .inp 0 [.i64]), (5, .int .i64 (.lit 5)), (8, .ptr 0 0), (9, .slice 1 0 1 (.rest 6)), (10, .slice 2 0 2 (.rest 1)), (11, .map 3), (13, .int .i64 (.lit 2))],
  [.cells [.slice 4 0 1 (.rest 5), .slice 5 0 5 (.rest 3)] 25,
   .cells [.int .i64 (.lit (-1)), .int .i64 (.lit 0), .bool (.lit false), .int .i64 (.lit 0), .nils, .nils] 51,
   .cells [.int .i64 (.atm 2), .int .i64 (.atm 3)] 3,
   .map [(.int .i64 (.lit 1), .int .i64 (.lit 1), 0), (.int .i64 (.lit 2), .int .i64 (.lit 1), 0), (.int .i64 (.lit 4), .int .i64 (.lit 1), 0)] 0,
   .cells [.int .u8 (.lit 5), .str [98], .int .i64 (.lit 5), .str [], .int .i64 (.lit 1)] 75,
   .cells [.str [116, 48], .nils, .nils, .str [116, 49], .nils, .nils, .str [116, 50], .nils, .nils, .str [116, 51], .nils, .nils, .str [116, 52], .nils, .nils] 79],
  [(.lt (.atm 0) (.lit 0), false), (.lt (.atm 1) (.lit 0), false), (.lt (.atm 1) (.lit 5), true), (.lt (.atm 2) (.lit 0), false), (.lt (.atm 2) (.lit 5), true), (.lt (.atm 3) (.lit 0), false), (.lt (.atm 3) (.lit 5), true)], .lit 3⟩
def h39 : Hint := ⟨[], [], 0⟩
def c40 : CS := ⟨4, [(1, .inp 0 [.i64]), (5, .int .i64 (.lit 5)), (8, .ptr 0 0), (9, .slice 1 0 1 (.rest 6)), (10, .slice 2 0 2 (.rest 1)), (11, .map 3), (13, .int .i64 (.lit 2))],
  [.cells [.slice 4 0 1 (.rest 5), .slice 5 0 5 (.rest 3)] 25,
   .cells [.int .i64 (.lit (-1)), .int .i64 (.lit 0), .bool (.lit false), .int .i64 (.lit 0), .nils, .nils] 51,
   .cells [.int .i64 (.atm 2), .int .i64 (.atm 3)] 3,
   .map [(.int .i64 (.lit 1), .int .i64 (.lit 1), 0), (.int .i64 (.lit 2), .int .i64 (.lit 1), 0), (.int .i64 (.lit 3), .int .i64 (.lit 1), 0)] 0,
   .cells [.int .u8 (.lit 5), .str [98], .int .i64 (.lit 5), .str [], .int .i64 (.lit 1)] 75,
   .cells [.str [116, 48], .nils, .nils, .str [116, 49], .nils, .nils, .str [116, 50], .nils, .nils, .str [116, 51], .nils, .nils, .str [116, 52], .nils, .nils] 79],
  [(.lt (.atm 0) (.lit 0), false), (.lt (.atm 1) (.lit 0), false), (.lt (.atm 1) (.lit 5), true), (.lt (.atm 2) (.lit 0), false), (.lt (.atm 2) (.lit 5), true), (.lt (.atm 3) (.lit 0), false), (.lt (.atm 3) (.lit 5), true)], .lit 3⟩
def h40 : Hint := ⟨[], [], 0⟩
def c41 : CS := ⟨4, [(1, .inp 0 [.i64]), (5, .int .i64 (.lit 5)), (8, .ptr 0 0), (9, .slice 1 0 1 (.rest 6)), (10, .slice 2 0 2 (.rest 1)), (11, .map 3), (13, .int .i64 (.lit 2))],
  [.cells [.slice 4 0 1 (.rest 5), .slice 5 0 5 (.rest 3)] 25,
   .cells [.int .i64 (.lit (-1)), .int .i64 (.lit 0), .bool (.lit false), .int .i64 (.lit 0), .nils, .nils] 51,
   .cells [.int .i64 (.atm 2), .int .i64 (.atm 3)] 3,
   .map [(.int .i64 (.lit 0), .int .i64 (.lit 1), 0), (.int .i64 (.lit 3), .int .i64 (.lit 1), 0), (.int .i64 (.lit 4), .int .i64 (.lit 1), 0)] 0,
   .cells [.int .u8 (.lit 5), .str [98], .int .i64 (.lit 5), .str [], .int .i64 (.lit 1)] 75,
   .cells [.str [116, 48], .nils, .nils, .str [116, 49], .nils, .nils, .str [116, 50], .nils, .nils, .str [116, 51], .nils, .nils, .str [116, 52], .nils, .nils] 79],
  [(.lt (.atm 0) (.lit 0), false), (.lt (.atm 1) (.lit 0), false), (.lt (.atm 1) (.lit 5), true), (.lt (.atm 2) (.lit 0), false), (.lt (.atm 2) (.lit 5), true), (.lt (.atm 3) (.lit 0), false), (.lt (.atm 3) (.lit 5), true)], .lit 3⟩
def h41 : Hint := ⟨[], [], 0⟩
def c42 : CS := ⟨4, [(1, .inp 0 [.i64]), (5, .int .i64 (.lit 5)), (8, .ptr 0 0), (9, .slice 1 0 1 (.rest 6)), (10, .slice 2 0 2 (.rest 1)), (11, .map 3), (13, .int .i64 (.lit 2))],
  [.cells [.slice 4 0 1 (.rest 5), .slice 5 0 5 (.rest 3)] 25,
   .cells [.int .i64 (.lit (-1)), .int .i64 (.lit 0), .bool (.lit false), .int .i64 (.lit 0), .nils, .nils] 51,
   .cells [.int .i64 (.atm 2), .int .i64 (.atm 3)] 3,
   .map [(.int .i64 (.lit 0), .int .i64 (.lit 1), 0), (.int .i64 (.lit 2), .int .i64 (.lit 1), 0), (.int .i64 (.lit 4), .int .i64 (.lit 1), 0)] 0,
   .cells [.int .u8 (.lit 5), .str [98], .int .i64 (.lit 5), .str [], .int .i64 (.lit 1)] 75,
   .cells [.str [116, 48], .nils, .nils, .str [116, 49], .nils, .nils, .str [116, 50], .nils, .nils, .str [116, 51], .nils, .nils, .str [116, 52], .nils, .nils] 79],
  [(.lt (.atm 0) (.lit 0), false), (.lt (.atm 1) (.lit 0), false), (.lt (.atm 1) (.lit 5), true), (.lt (.atm 2) (.lit 0), false), (.lt (.atm 2) (.lit 5), true), (.lt (.atm 3) (.lit 0), false), (.lt (.atm 3) (.lit 5), true)], .lit 3⟩
def h42 : Hint := ⟨[], [], 0⟩
def c43 : CS := ⟨4, [(1, .inp 0 [.i64]), (5, .int .i64 (.lit 5)), (8, .ptr 0 0), (9, .slice 1 0 1 (.rest 6)), (10, .slice 2 0 2 (.rest 1)), (11, .map 3), (13, .int .i64 (.lit 2))],
  [.cells [.slice 4 0 1 (.rest 5), .slice 5 0 5 (.rest 3)] 25,
   .cells [.int .i64 (.lit (-1)), .int .i64 (.lit 0), .bool (.lit false), .int .i64 (.lit 0), .nils, .nils] 51,
   .cells [.int .i64 (.atm 2), .int .i64 (.atm 3)] 3,
   .map [(.int .i64 (.lit 0), .int .i64 (.lit 1), 0), (.int .i64 (.lit 2), .int .i64 (.lit 1), 0), (.int .i64 (.lit 3), .int .i64 (.lit 1), 0)] 0,
   .cells [.int .u8 (.lit 5), .str [98], .int .i64 (.lit 5), .str [], .int .i64 (.lit 1)] 75,
   .cells [.str [116, 48], .nils, .nils, .str [116, 49], .nils, .nils, .str [116, 50], .nils, .nils, .str [116, 51], .nils, .nils, .str [116, 52], .nils, .nils] 79],
  [(.lt (.atm 0) (.lit 0), false), (.lt (.atm 1) (.lit 0), false), (.lt (.atm 1) (.lit 5), true), (.lt (.atm 2) (.lit 0), false), (.lt (.atm 2) (.lit 5), true), (.lt (.atm 3) (.lit 0), false), (.lt (.atm 3) (.lit 5), true)], .lit 3⟩
def h43 : Hint := ⟨[], [], 0⟩
def c44 : CS := ⟨4, [(1, .inp 0 [.i64]), (5, .int .i64 (.lit 5)), (8, .ptr 0 0), (9, .slice 1 0 1 (.rest 6)), (10, .slice 2 0 2 (.rest 1)), (11, .map 3), (13, .int .i64 (.lit 2))],
  [.cells [.slice 4 0 1 (.rest 5), .slice 5 0 5 (.rest 3)] 25,
   .cells [.int .i64 (.lit (-1)), .int .i64 (.lit 0), .bool (.lit false), .int .i64 (.lit 0), .nils, .nils] 51,
   .cells [.int .i64 (.atm 2), .int .i64 (.atm 3)] 3,
   .map [(.int .i64 (.lit 0), .int .i64 (.lit 1), 0), (.int .i64 (.lit 1), .int .i64 (.lit 1), 0), (.int .i64 (.lit 4), .int .i64 (.lit 1), 0)] 0,
   .cells [.int .u8 (.lit 5), .str [98], .int .i64 (.lit 5), .str [], .int .i64 (.lit 1)] 75,
   .cells [.str [116, 48], .nils, .nils, .str [116, 49], .nils, .nils, .str [116, 50], .nils, .nils, .str [116, 51], .nils, .nils, .str [116, 52], .nils, .nils] 79],
  [(.lt (.atm 0) (.lit 0), false), (.lt (.atm 1) (.lit 0), false), (.lt (.atm 1) (.lit 5), true), (.lt (.atm 2) (.lit 0), false), (.lt (.atm 2) (.lit 5), true), (.lt (.atm 3) (.lit 0), false), (.lt (.atm 3) (.lit 5), true)], .lit 3⟩
def h44 : Hint := ⟨[], [], 0⟩
def c45 : CS := ⟨4, [(1, .inp 0 [.i64]), (5, .int .i64 (.lit 5)), (8, .ptr 0 0), (9, .slice 1 0 1 (.rest 6)), (10, .slice 2 0 2 (.rest 1)), (11, .map 3), (13, .int .i64 (.lit 2))],
  [.cells [.slice 4 0 1 (.rest 5), .slice 5 0 5 (.rest 3)] 25,
   .cells [.int .i64 (.lit (-1)), .int .i64 (.lit 0), .bool (.lit false), .int .i64 (.lit 0), .nils, .nils] 51,
   .cells [.int .i64 (.atm 2), .int .i64 (.atm 3)] 3,
   .map [(.int .i64 (.lit 0), .int .i64 (.lit 1), 0), (.int .i64 (.lit 1), .int .i64 (.lit 1), 0), (.int .i64 (.lit 3), .int .i64 (.lit 1), 0)] 0,
   .cells [.int .u8 (.lit 5), .str [98], .int .i64 (.lit 5), .str [], .int .i64 (.lit 1)] 75,
   .cells [.str [116, 48], .nils, .nils, .str [116, 49], .nils, .nils, .str [116, 50], .nils, .nils, .str [116, 51], .nils, .nils, .str [116, 52], .nils, .nils] 79],
  [(.lt (.atm 0) (.lit 0), false), (.lt (.atm 1) (.lit 0), false), (.lt (.atm 1) (.lit 5), true), (.lt (.atm 2) (.lit 0), false), (.lt (.atm 2) (.lit 5), true), (.lt (.atm 3) (.lit 0), false), (.lt (.atm 3) (.lit 5), true)], .lit 3⟩
def h45 : Hint := ⟨[], [], 0⟩
def c46 : CS := ⟨4, [(1, .inp 0 [.i64]), (5, .int .i64 (.lit 5)), (8, .ptr 0 0), (9, .slice 1 0 1 (.rest 6)), (10, .slice 2 0 2 (.rest 1)), (11, .map 3), (13, .int .i64 (.lit 2))],
  [.cells [.slice 4 0 1 (.rest 5), .slice 5 0 5 (.rest 3)] 25,
   .cells [.int .i64 (.lit (-1)), .int .i64 (.lit 0), .bool (.lit false), .int .i64 (.lit 0), .nils, .nils] 51,
   .cells [.int .i64 (.atm 2), .int .i64 (.atm 3)] 3,
   .map [(.int .i64 (.lit 0), .int .i64 (.lit 1), 0), (.int .i64 (.lit 1), .int .i64 (.lit 1), 0), (.int .i64 (.lit 2), .int .i64 (.lit 1), 0)] 0,
   .cells [.int .u8 (.lit 5), .str [98], .int .i64 (.lit 5), .str [], .int .i64 (.lit 1)] 75,
   .cells [.str [116, 48], .nils, .nils, .str [116, 49], .nils, .nils, .str [116, 50], .nils, .nils, .str [116, 51], .nils, .nils, .str [116, 52], .nils, .nils] 79],
  [(.lt (.atm 0) (.lit 0), false), (.lt (.atm 1) (.lit 0), false), (.lt (.atm 1) (.lit 5), true), (.lt (.atm 2) (.lit 0), false), (.lt (.atm 2) (.lit 5), true), (.lt (.atm 3) (.lit 0), false), (.lt (.atm 3) (.lit 5), true)], .lit 3⟩
def h46 : Hint := ⟨[], [], 0⟩
def c47 : CS := ⟨4, [(1, .inp 0 [.i64]), (5, .int .i64 (.lit 6)), (8, .ptr 0 0), (9, .slice 1 0 1 (.rest 6)), (10, .slice 2 0 2 (.rest 1)), (11, .map 3), (13, .int .i64 (.lit 2))],
  [.cells [.slice 4 0 1 (.rest 5), .slice 5 0 6 (.rest 3)] 25,
   .cells [.int .i64 (.lit (-1)), .int .i64 (.lit 0), .bool (.lit false), .int .i64 (.lit 0), .nils, .nils] 51,
   .cells [.int .i64 (.atm 2), .int .i64 (.atm 3)] 3,
   .map [(.int .i64 (.lit 2), .int .i64 (.lit 1), 0), (.int .i64 (.lit 3), .int .i64 (.lit 1), 0), (.int .i64 (.lit 4), .int .i64 (.lit 1), 0), (.int .i64 (.lit 5), .int .i64 (.lit 1), 0)] 0,
   .cells [.int .u8 (.lit 5), .str [98], .int .i64 (.lit 6), .str [], .int .i64 (.lit 1)] 75,
   .cells [.str [116, 48], .nils, .nils, .str [116, 49], .nils, .nils, .str [116, 50], .nils, .nils, .str [116, 51], .nils, .nils, .str [116, 52], .nils, .nils, .str [116, 53], .nils, .nils] 79],
  [(.lt (.atm 0) (.lit 0), false), (.lt (.atm 1) (.lit 0), false), (.lt (.atm 1) (.lit 6), true), (.lt (.atm 2) (.lit 0), false), (.lt (.atm 2) (.lit 6), true), (.lt (.atm 3) (.lit 0), false), (.lt (.atm 3) (.lit 6), true)], .lit 4⟩
def h47 : Hint := ⟨[], [], 0⟩
def c48 : CS := ⟨4, [(1, .inp 0 [.i64]), (5, .int .i64 (.lit 6)), (8, .ptr 0 0), (9, .slice 1 0 1 (.rest 6)), (10, .slice 2 0 2 (.rest 1)), (11, .map 3), (13, .int .i64 (.lit 2))],
  [.cells [.slice 4 0 1 (.rest 5), .slice 5 0 6 (.rest 3)] 25,
   .cells [.int .i64 (.lit (-1)), .int .i64 (.lit 0), .bool (.lit false), .int .i64 (.lit 0), .nils, .nils] 51,
   .cells [.int .i64 (.atm 2), .int .i64 (.atm 3)] 3,
   .map [(.int .i64 (.lit 1), .int .i64 (.lit 1), 0), (.int .i64 (.lit 3), .int .i64 (.lit 1), 0), (.int .i64 (.lit 4), .int .i64 (.lit 1), 0), (.int .i64 (.lit 5), .int .i64 (.lit 1), 0)] 0,
   .cells [.int .u8 (.lit 5), .str [98], .int .i64 (.lit 6), .str [], .int .i64 (.lit 1)] 75,
   .cells [.str [116, 48], .nils, .nils, .str [116, 49], .nils, .nils, .str [116, 50], .nils, .nils, .str [116, 51], .nils, .nils, .str [116, 52], .nils, .nils, .str [116, 53], .nils, .nils] 79],
  [(.lt (.atm 0) (.lit 0), false), (.lt (.atm 1) (.lit 0), false), (.lt (.atm 1) (.lit 6), true), (.lt (.atm 2) (.lit 0), false), (.lt (.atm 2) (.lit 6), true), (.lt (.atm 3) (.lit 0), false), (.lt (.atm 3) (.lit 6), true)], .lit 4⟩
def h48 : Hint := ⟨[], [], 0⟩
def c49 : CS := ⟨4, [(1, .inp 0 [.i64]), (5, .int .i64 (.lit 6)), (8, .ptr 0 0), (9, .slice 1 0 1 (.rest 6)), (10, .slice 2 0 2 (.rest 1)), (11, .map 3), (13, .int .i64 (.lit 2))],
  [.cells [.slice 4 0 1 (.rest 5), .slice 5 0 6 (.rest 3)] 25,
   .cells [.int .i64 (.lit (-1)), .int .i64 (.lit 0), .bool (.lit false), .int .i64 (.lit 0), .nils, .nils] 51,
   .cells [.int .i64 (.atm 2), .int .i64 (.atm 3)] 3,
   .map [(.int .i64 (.lit 1), .int .i64 (.lit 1), 0), (.int .i64 (.lit 2), .int .i64 (.lit 1), 0), (.int .i64 (.lit 4), .int .i64 (.lit 1), 0), (.int .i64 (.lit 5), .int .i64 (.lit 1), 0)] 0,
   .cells [.int .u8 (.lit 5), .str [98], .int .i64 (.lit 6), .str [], .int .i64 (.lit 1)] 75,
   .cells [.str [116, 48], .nils, .nils, .str [116, 49], .nils, .nils, .str [116, 50], .nils, .nils, .str [116, 51], .nils, .nils, .str [116, 52], .nils, .nils, .str [116, 53], .nils, .nils] 79],
  [(.lt (.atm 0) (.lit 0), false), (.lt (.atm 1) (.lit 0), false), (.lt (.atm 1) (.lit 6), true), (.lt (.atm 2) (.lit 0), false), (.lt (.atm 2) (.lit 6), true), (.lt (.atm 3) (.lit 0), false), (.lt (.atm 3) (.lit 6), true)], .lit 4⟩
def h49 : Hint := ⟨[], [], 0⟩
def c50 : CS := ⟨4, [(1, .inp 0 [.i64]), (5, .int .i64 (.lit 6)), (8, .ptr 0 0), (9, .slice 1 0 1 (.rest 6)), (10, .slice 2 0 2 (.rest 1)), (11, .map 3), (13, .int .i64 (.lit 2))],
  [.cells [.slice 4 0 1 (.rest 5), .slice 5 0 6 (.rest 3)] 25,
   .cells [.int .i64 (.lit (-1)), .int .i64 (.lit 0), .bool (.lit false), .int .i64 (.lit 0), .nils, .nils] 51,
   .cells [.int .i64 (.atm 2), .int .i64 (.atm 3)] 3,
   .map [(.int .i64 (.lit 1), .int .i64 (.lit 1), 0), (.int .i64 (.lit 2), .int .i64 (.lit 1), 0), (.int .i64 (.lit 3), .int .i64 (.lit 1), 0), (.int .i64 (.lit 5), .int .i64 (.lit 1), 0)] 0,
   .cells [.int .u8 (.lit 5), .str [98], .int .i64 (.lit 6), .str [], .int .i64 (.lit 1)] 75,
   .cells [.str [116, 48], .nils, .nils, .str [116, 49], .nils, .nils, .str [116, 50], .nils, .nils, .str [116, 51], .nils, .nils, .str [116, 52], .nils, .nils, .str [116, 53], .nils, .nils] 79],
  [(.lt (.atm 0) (.lit 0), false), (.lt (.atm 1) (.lit 0), false), (.lt (.atm 1) (.lit 6), true), (.lt (.atm 2) (.lit 0), false), (.lt (.atm 2) (.lit 6), true), (.lt (.atm 3) (.lit 0), false), (.lt (.atm 3) (.lit 6), true)], .lit 4⟩
def h50 : Hint := ⟨[], [], 0⟩
def c51 : CS := ⟨4, [(1, .inp 0 [.i64]), (5, .int .i64 (.lit 6)), (8, .ptr 0 0), (9, .slice 1 0 1 (.rest 6)), (10, .slice 2 0 2 (.rest 1)), (11, .map 3), (13, .int .i64 (.lit 2))],
  [.cells [.slice 4 0 1 (.rest 5), .slice 5 0 6 (.rest 3)] 25,
   .cells [.int .i64 (.lit (-1)), .int .i64 (.lit 0), .bool (.lit false), .int .i64 (.lit 0), .nils, .nils] 51,
   .cells [.int .i64 (.atm 2), .int .i64 (.atm 3)] 3,
   .map [(.int .i64 (.lit 1), .int .i64 (.lit 1), 0), (.int .i64 (.lit 2), .int .i64 (.lit 1), 0), (.int .i64 (.lit 3), .int .i64 (.lit 1), 0), (.int .i64 (.lit 4), .int .i64 (.lit 1), 0)] 0,
   .cells [.int .u8 (.lit 5), .str [98], .int .i64 (.lit 6), .str [], .int .i64 (.lit 1)] 75,
   .cells [.str [116, 48], .nils, .nils, .str [116, 49], .nils, .nils, .str [116, 50], .nils, .nils, .str [116, 51], .nils, .nils, .str [116, 52], .nils, .nils, .str [116, 53], .nils, .nils] 79],
  [(.lt (.atm 0) (.lit 0), false), (.lt (.atm 1) (.lit 0), false), (.lt (.atm 1) (.lit 6), true), (.lt (.atm 2) (.lit 0), false), (.lt (.atm 2) (.lit 6), true), (.lt (.atm 3) (.lit 0), false), (.lt (.atm 3) (.lit 6), true)], .lit 4⟩
def h51 : Hint := ⟨[], [], 0⟩
def c52 : CS := ⟨4, [(1, .inp 0 [.i64]), (5, .int .i64 (.lit 6)), (8, .ptr 0 0), (9, .slice 1 0 1 (.rest 6)), (10, .slice 2 0 2 (.rest 1)), (11, .map 3), (13, .int .i64 (.lit 2))],
  [.cells [.slice 4 0 1 (.rest 5), .slice 5 0 6 (.rest 3)] 25,
   .cells [.int .i64 (.lit (-1)), .int .i64 (.lit 0), .bool (.lit false), .int .i64 (.lit 0), .nils, .nils] 51,
   .cells [.int .i64 (.atm 2), .int .i64 (.atm 3)] 3,
   .map [(.int .i64 (.lit 0), .int .i64 (.lit 1), 0), (.int .i64 (.lit 3), .int .i64 (.lit 1), 0), (.int .i64 (.lit 4), .int .i64 (.lit 1), 0), (.int .i64 (.lit 5), .int .i64 (.lit 1), 0)] 0,
   .cells [.int .u8 (.lit 5), .str [98], .int .i64 (.lit 6), .str [], .int .i64 (.lit 1)] 75,
   .cells [.str [116, 48], .nils, .nils, .str [116, 49], .nils, .nils, .str [116, 50], .nils, .nils, .str [116, 51], .nils, .nils, .str [116, 52], .nils, .nils, .str [116, 53], .nils, .nils] 79],
  [(.lt (.atm 0) (.lit 0), false), (.lt (.atm 1) (.lit 0), false), (.lt (.atm 1) (.lit 6), true), (.lt (.atm 2) (.lit 0), false), (.lt (.atm 2) (.lit 6), true), (.lt (.atm 3) (.lit 0), false), (.lt (.atm 3) (.lit 6), true)], .lit 4⟩
def h52 : Hint := ⟨[], [], 0⟩
def c53 : CS := ⟨4, [(1, .inp 0 [.i64]), (5, .int .i64 (.lit 6)), (8, .ptr 0 0), (9, .slice 1 0 1 (.rest 6)), (10, .slice 2 0 2 (.rest 1)), (11, .map 3), (13, .int .i64 (.lit 2))],
  [.cells [.slice 4 0 1 (.rest 5), .slice 5 0 6 (.rest 3)] 25,
   .cells [.int .i64 (.lit (-1)), .int .i64 (.lit 0), .bool (.lit false), .int .i64 (.lit 0), .nils, .nils] 51,
   .cells [.int .i64 (.atm 2), .int .i64 (.atm 3)] 3,
   .map [(.int .i64 (.lit 0), .int .i64 (.lit 1), 0), (.int .i64 (.lit 2), .int .i64 (.lit 1), 0), (.int .i64 (.lit 4), .int .i64 (.lit 1), 0), (.int .i64 (.lit 5), .int .i64 (.lit 1), 0)] 0,
   .cells [.int .u8 (.lit 5), .str [98], .int .i64 (.lit 6), .str [], .int .i64 (.lit 1)] 75,
   .cells [.str [116, 48], .nils, .nils, .str [116, 49], .nils, .nils, .str [116, 50], .nils, .nils, .str [116, 51], .nils, .nils, .str [116, 52], .nils, .nils, .str [116, 53], .nils, .nils] 79],
  [(.lt (.atm 0) (.lit 0), false), (.lt (.atm 1) (.lit 0), false), (.lt (.atm 1) (.lit 6), true), (.lt (.atm 2) (.lit 0), false), (.lt (.atm 2) (.lit 6), true), (.lt (.atm 3) (.lit 0), false), (.lt (.atm 3) (.lit 6), true)], .lit 4⟩
def h53 : Hint := ⟨[], [], 0⟩
def c54 : CS := ⟨4, [(1, .inp 0 [.i64]), (5, .int .i64 (.lit 6)), (8, .ptr 0 0), (9, .slice 1 0 1 (.rest 6)), (10, .slice 2 0 2 (.rest 1)), (11, .map 3), (13, .int .i64 (.lit 2))],
  [.cells [.slice 4 0 1 (.rest 5), .slice 5 0 6 (.rest 3)] 25,
   .cells [.int .i64 (.lit (-1)), .int .i64 (.lit 0), .bool (.lit false), .int .i64 (.lit 0), .nils, .nils] 51,
   .cells [.int .i64 (.atm 2), .int .i64 (.atm 3)] 3,
   .map [(.int .i64 (.lit 0), .int .i64 (.lit 1), 0), (.int .i64 (.lit 2), .int .i64 (.lit 1), 0), (.int .i64 (.lit 3), .int .i64 (.lit 1), 0), (.int .i64 (.lit 5), .int .i64 (.lit 1), 0)] 0,
   .cells [.int .u8 (.lit 5), .str [98], .int .i64 (.lit 6), .str [], .int .i64 (.lit 1)] 75,
   .cells [.str [116, 48], .nils, .nils, .str [116, 49], .nils, .nils, .str [116, 50], .nils, .nils, .str [116, 51], .nils, .nils, .str [116, 52], .nils, .nils, .str [116, 53], .nils, .nils] 79],
  [(.lt (.atm 0) (.lit 0), false), (.lt (.atm 1) (.lit 0), false), (.lt (.atm 1) (.lit 6), true), (.lt (.atm 2) (.lit 0), false), (.lt (.atm 2) (.lit 6), true), (.lt (.atm 3) (.lit 0), false), (.lt (.atm 3) (.lit 6), true)], .lit 4⟩
def h54 : Hint := ⟨[], [], 0⟩
def c55 : CS := ⟨4, [(1, .inp 0 [.i64]), (5, .int .i64 (.lit 6)), (8, .ptr 0 0), (9, .slice 1 0 1 (.rest 6)), (10, .slice 2 0 2 (.rest 1)), (11, .map 3), (13, .int .i64 (.lit 2))],
  [.cells [.slice 4 0 1 (.rest 5), .slice 5 0 6 (.rest 3)] 25,
   .cells [.int .i64 (.lit (-1)), .int .i64 (.lit 0), .bool (.lit false), .int .i64 (.lit 0), .nils, .nils] 51,
   .cells [.int .i64 (.atm 2), .int .i64 (.atm 3)] 3,
   .map [(.int .i64 (.lit 0), .int .i64 (.lit 1), 0), (.int .i64 (.lit 2), .int .i64 (.lit 1), 0), (.int .i64 (.lit 3), .int .i64 (.lit 1), 0), (.int .i64 (.lit 4), .int .i64 (.lit 1), 0)] 0,
   .cells [.int .u8 (.lit 5), .str [98], .int .i64 (.lit 6), .str [], .int .i64 (.lit 1)] 75,
   .cells [.str [116, 48], .nils, .nils, .str [116, 49], .nils, .nils, .str [116, 50], .nils, .nils, .str [116, 51], .nils, .nils, .str [116, 52], .nils, .nils, .str [116, 53], .nils, .nils] 79],
  [(.lt (.atm 0) (.lit 0), false), (.lt (.atm 1) (.lit 0), false), (.lt (.atm 1) (.lit 6), true), (.lt (.atm 2) (.lit 0), false), (.lt (.atm 2) (.lit 6), true), (.lt (.atm 3) (.lit 0), false), (.lt (.atm 3) (.lit 6), true)], .lit 4⟩
def h55 : Hint := ⟨[], [], 0⟩
def c56 : CS := ⟨4, [(1, .inp 0 [.i64]), (5, .int .i64 (.lit 6)), (8, .ptr 0 0), (9, .slice 1 0 1 (.rest 6)), (10, .slice 2 0 2 (.rest 1)), (11, .map 3), (13, .int .i64 (.lit 2))],
  [.cells [.slice 4 0 1 (.rest 5), .slice 5 0 6 (.rest 3)] 25,
   .cells [.int .i64 (.lit (-1)), .int .i64 (.lit 0), .bool (.lit false), .int .i64 (.lit 0), .nils, .nils] 51,
   .cells [.int .i64 (.atm 2), .int .i64 (.atm 3)] 3,
   .map [(.int .i64 (.lit 0), .int .i64 (.lit 1), 0), (.int .i64 (.lit 1), .int .i64 (.lit 1), 0), (.int .i64 (.lit 4), .int .i64 (.lit 1), 0), (.int .i64 (.lit 5), .int .i64 (.lit 1), 0)] 0,
   .cells [.int .u8 (.lit 5), .str [98], .int .i64 (.lit 6), .str [], .int .i64 (.lit 1)] 75,
   .cells [.str [116, 48], .nils, .nils, .str [116, 49], .nils, .nils, .str [116, 50], .nils, .nils, .str [116, 51], .nils, .nils, .str [116, 52], .nils, .nils, .str [116, 53], .nils, .nils] 79],
  [(.lt (.atm 0) (.lit 0), false), (.lt (.atm 1) (.lit 0), false), (.lt (.atm 1) (.lit 6), true), (.lt (.atm 2) (.lit 0), false), (.lt (.atm 2) (.lit 6), true), (.lt (.atm 3) (.lit 0), false), (.lt (.atm 3) (.lit 6), true)], .lit 4⟩
def h56 : Hint := ⟨[], [], 0⟩
def c57 : CS := ⟨4, [(1, .inp 0 [.i64]), (5, .int .i64 (.lit 6)), (8, .ptr 0 0), (9, .slice 1 0 1 (.rest 6)), (10, .slice 2 0 2 (.rest 1)), (11, .map 3), (13, .int .i64 (.lit 2))],
  [.cells [.slice 4 0 1 (.rest 5), .slice 5 0 6 (.rest 3)] 25,
   .cells [.int .i64 (.lit (-1)), .int .i64 (.lit 0), .bool (.lit false), .int .i64 (.lit 0), .nils, .nils] 51,
   .cells [.int .i64 (.atm 2), .int .i64 (.atm 3)] 3,
   .map [(.int .i64 (.lit 0), .int .i64 (.lit 1), 0), (.int .i64 (.lit 1), .int .i64 (.lit 1), 0), (.int .i64 (.lit 3), .int .i64 (.lit 1), 0), (.int .i64 (.lit 5), .int .i64 (.lit 1), 0)] 0,
   .cells [.int .u8 (.lit 5), .str [98], .int .i64 (.lit 6), .str [], .int .i64 (.lit 1)] 75,
   .cells [.str [116, 48], .nils, .nils, .str [116, 49], .nils, .nils, .str [116, 50], .nils, .nils, .str [116, 51], .nils, .nils, .str [116, 52], .nils, .nils, .str [116, 53], .nils, .nils] 79],
  [(.lt (.atm 0) (.lit 0), false), (.lt (.atm 1) (.lit 0), false), (.lt (.atm 1) (.lit 6), true), (.lt (.atm 2) (.lit 0), false), (.lt (.atm 2) (.lit 6), true), (.lt (.atm 3) (.lit 0), false), (.lt (.atm 3) (.lit 6), true)], .lit 4⟩
def h57 : Hint := ⟨[], [], 0⟩
def c58 : CS := ⟨4, [(1, .inp 0 [.i64]), (5, .int .i64 (.lit 6)), (8, .ptr 0 0), (9, .slice 1 0 1 (.rest 6)), (10, .slice 2 0 2 (.rest 1)), (11, .map 3), (13, .int .i64 (.lit 2))],
  [.cells [.slice 4 0 1 (.rest 5), .slice 5 0 6 (.rest 3)] 25,
   .cells [.int .i64 (.lit (-1)), .int .i64 (.lit 0), .bool (.lit false), .int .i64 (.lit 0), .nils, .nils] 51,
   .cells [.int .i64 (.atm 2), .int .i64 (.atm 3)] 3,
   .map [(.int .i64 (.lit 0), .int .i64 (.lit 1), 0), (.int .i64 (.lit 1), .int .i64 (.lit 1), 0), (.int .i64 (.lit 3), .int .i64 (.lit 1), 0), (.int .i64 (.lit 4), .int .i64 (.lit 1), 0)] 0,
   .cells [.int .u8 (.lit 5), .str [98], .int .i64 (.lit 6), .str [], .int .i64 (.lit 1)] 75,
   .cells [.str [116, 48], .nils, .nils, .str [116, 49], .nils, .nils, .str [116, 50], .nils, .nils, .str [116, 51], .nils, .nils, .str [116, 52], .nils, .nils, .str [116, 53], .nils, .nils] 79],
  [(.lt (.atm 0) (.lit 0), false), (.lt (.atm 1) (.lit 0), false), (.lt (.atm 1) (.lit 6), true), (.lt (.atm 2) (.lit 0), false), (.lt (.atm 2) (.lit 6), true), (.lt (.atm 3) (.lit 0), false), (.lt (.atm 3) (.lit 6), true)], .lit 4⟩
def h58 : Hint := ⟨[], [], 0⟩
def c59 : CS := ⟨4, [(1, .inp 0 [.i64]), (5, .int .i64 (.lit 6)), (8, .ptr 0 0), (9, .slice 1 0 1 (.rest 6)), (10, .slice 2 0 2 (.rest 1)), (11, .map 3), (13, .int .i64 (.lit 2))],
  [.cells [.slice 4 0 1 (.rest 5), .slice 5 0 6 (.rest 3)] 25,
   .cells [.int .i64 (.lit (-1)), .int .i64 (.lit 0), .bool (.lit false), .int .i64 (.lit 0), .nils, .nils] 51,
   .cells [.int .i64 (.atm 2), .int .i64 (.atm 3)] 3,
   .map [(.int .i64 (.lit 0), .int .i64 (.lit 1), 0), (.int .i64 (.lit 1), .int .i64 (.lit 1), 0), (.int .i64 (.lit 2), .int .i64 (.lit 1), 0), (.int .i64 (.lit 5), .int .i64 (.lit 1), 0)] 0,
   .cells [.int .u8 (.lit 5), .str [98], .int .i64 (.lit 6), .str [], .int .i64 (.lit 1)] 75,
   .cells [.str [116, 48], .nils, .nils, .str [116, 49], .nils, .nils, .str [116, 50], .nils, .nils, .str [116, 51], .nils, .nils, .str [116, 52], .nils, .nils, .str [116, 53], .nils, .nils] 79],
  [(.lt (.atm 0) (.lit 0), false), (.lt (.atm 1) (.lit 0), false), (.lt (.atm 1) (.lit 6), true), (.lt (.atm 2) (.lit 0), false), (.lt (.atm 2) (.lit 6), true), (.lt (.atm 3) (.lit 0), false), (.lt (.atm 3) (.lit 6), true)], .lit 4⟩
def h59 : Hint := ⟨[], [], 0⟩
def c60 : CS := ⟨4, [(1, .inp 0 [.i64]), (5, .int .i64 (.lit 6)), (8, .ptr 0 0), (9, .slice 1 0 1 (.rest 6)), (10, .slice 2 0 2 (.rest 1)), (11, .map 3), (13, .int .i64 (.lit 2))],
  [.cells [.slice 4 0 1 (.rest 5), .slice 5 0 6 (.rest 3)] 25,
   .cells [.int .i64 (.lit (-1)), .int .i64 (.lit 0), .bool (.lit false), .int .i64 (.lit 0), .nils, .nils] 51,
   .cells [.int .i64 (.atm 2), .int .i64 (.atm 3)] 3,
   .map [(.int .i64 (.lit 0), .int .i64 (.lit 1), 0), (.int .i64 (.lit 1), .int .i64 (.lit 1), 0), (.int .i64 (.lit 2), .int .i64 (.lit 1), 0), (.int .i64 (.lit 4), .int .i64 (.lit 1), 0)] 0,
   .cells [.int .u8 (.lit 5), .str [98], .int .i64 (.lit 6), .str [], .int .i64 (.lit 1)] 75,
   .cells [.str [116, 48], .nils, .nils, .str [116, 49], .nils, .nils, .str [116, 50], .nils, .nils, .str [116, 51], .nils, .nils, .str [116, 52], .nils, .nils, .str [116, 53], .nils, .nils] 79],
  [(.lt (.atm 0) (.lit 0), false), (.lt (.atm 1) (.lit 0), false), (.lt (.atm 1) (.lit 6), true), (.lt (.atm 2) (.lit 0), false), (.lt (.atm 2) (.lit 6), true), (.lt (.atm 3) (.lit 0), false), (.lt (.atm 3) (.lit 6), true)], .lit 4⟩
def h60 : Hint := ⟨[], [], 0⟩
def c61 : CS := ⟨4, [(1, .inp 0 [.i64]), (5, .int .i64 (.lit 6)), (8, .ptr 0 0), (9, .slice 1 0 1 (.rest 6)), (10, .slice 2 0 2 (.rest 1)), (11, .map 3), (13, .int .i64 (.lit 2))],
  [.cells [.slice 4 0 1 (.rest 5), .slice 5 0 6 (.rest 3)] 25,
   .cells [.int .i64 (.lit (-1)), .int .i64 (.lit 0), .bool (.lit false), .int .i64 (.lit 0), .nils, .nils] 51,
   .cells [.int .i64 (.atm 2), .int .i64 (.atm 3)] 3,
   .map [(.int .i64 (.lit 0), .int .i64 (.lit 1), 0), (.int .i64 (.lit 1), .int .i64 (.lit 1), 0), (.int .i64 (.lit 2), .int .i64 (.lit 1), 0), (.int .i64 (.lit 3), .int .i64 (.lit 1), 0)] 0,
   .cells [.int .u8 (.lit 5), .str [98], .int .i64 (.lit 6), .str [], .int .i64 (.lit 1)] 75,
   .cells [.str [116, 48], .nils, .nils, .str [116, 49], .nils, .nils, .str [116, 50], .nils, .nils, .str [116, 51], .nils, .nils, .str [116, 52], .nils, .nils, .str [116, 53], .nils, .nils] 79],
  [(.lt (.atm 0) (.lit 0), false), (.lt (.atm 1) (.lit 0), false), (.lt (.atm 1) (.lit 6), true), (.lt (.atm 2) (.lit 0), false), (.lt (.atm 2) (.lit 6), true), (.lt (.atm 3) (.lit 0), false), (.lt (.atm 3) (.lit 6), true)], .lit 4⟩
def h61 : Hint := ⟨[], [], 0⟩
def c62 : CS := ⟨6, [(1, .inp 0 [.i64]), (5, .int .i64 (.lit 3)), (8, .ptr 0 0), (9, .slice 1 0 1 (.rest 6)), (10, .slice 2 0 3 (.rest 1)), (11, .map 3), (13, .int .i64 (.lit 3))],
  [.cells [.slice 4 0 1 (.rest 5), .slice 5 0 3 (.rest 3)] 25,
   .cells [.int .i64 (.lit (-1)), .int .i64 (.lit 0), .bool (.lit false), .int .i64 (.lit 0), .nils, .nils] 51,
   .cells [.int .i64 (.atm 3), .int .i64 (.atm 4), .int .i64 (.atm 5)] 3,
   .map [] 0,
   .cells [.int .u8 (.lit 5), .str [98], .int .i64 (.lit 3), .str [], .int .i64 (.lit 1)] 75,
   .cells [.str [116, 48], .nils, .nils, .str [116, 49], .nils, .nils, .str [116, 50], .nils, .nils] 79],
  [(.lt (.atm 0) (.lit 0), false), (.lt (.atm 1) (.lit 0), false), (.lt (.atm 1) (.lit 3), true), (.lt (.atm 2) (.lit 0), false), (.lt (.atm 2) (.lit 3), true), (.lt (.atm 3) (.lit 0), false), (.lt (.atm 3) (.lit 3), true), (.lt (.atm 4) (.lit 0), false), (.lt (.atm 4) (.lit 3), true), (.lt (.atm 5) (.lit 0), false), (.lt (.atm 5) (.lit 3), true)], .lit 0⟩
def h62 : Hint := ⟨[], [], 0⟩
def c63 : CS := ⟨6, [(1, .inp 0 [.i64]), (5, .int .i64 (.lit 4)), (8, .ptr 0 0), (9, .slice 1 0 1 (.rest 6)), (10, .slice 2 0 3 (.rest 1)), (11, .map 3), (13, .int .i64 (.lit 3))],
  [.cells [.slice 4 0 1 (.rest 5), .slice 5 0 4 (.rest 3)] 25,
   .cells [.int .i64 (.lit (-1)), .int .i64 (.lit 0), .bool (.lit false), .int .i64 (.lit 0), .nils, .nils] 51,
   .cells [.int .i64 (.atm 3), .int .i64 (.atm 4), .int .i64 (.atm 5)] 3,
   .map [(.int .i64 (.lit 3), .int .i64 (.lit 1), 0)] 0,
   .cells [.int .u8 (.lit 5), .str [98], .int .i64 (.lit 4), .str [], .int .i64 (.lit 1)] 75,
   .cells [.str [116, 48], .nils, .nils, .str [116, 49], .nils, .nils, .str [116, 50], .nils, .nils, .str [116, 51], .nils, .nils] 79],
  [(.lt (.atm 0) (.lit 0), false), (.lt (.atm 1) (.lit 0), false), (.lt (.atm 1) (.lit 4), true), (.lt (.atm 2) (.lit 0), false), (.lt (.atm 2) (.lit 4), true), (.lt (.atm 3) (.lit 0), false), (.lt (.atm 3) (.lit 4), true), (.lt (.atm 4) (.lit 0), false), (.lt (.atm 4) (.lit 4), true), (.lt (.atm 5) (.lit 0), false), (.lt (.atm 5) (.lit 4), true)], .lit 1⟩
def h63 : Hint := ⟨[], [], 0⟩
def c64 : CS := ⟨6, [(1, .inp 0 [.i64]), (5, .int .i64 (.lit 4)), (8, .ptr 0 0), (9, .slice 1 0 1 (.rest 6)), (10, .slice 2 0 3 (.rest 1)), (11, .map 3), (13, .int .i64 (.lit 3))],
  [.cells [.slice 4 0 1 (.rest 5), .slice 5 0 4 (.rest 3)] 25,
   .cells [.int .i64 (.lit (-1)), .int .i64 (.lit 0), .bool (.lit false), .int .i64 (.lit 0), .nils, .nils] 51,
   .cells [.int .i64 (.atm 3), .int .i64 (.atm 4), .int .i64 (.atm 5)] 3,
   .map [(.int .i64 (.lit 2), .int .i64 (.lit 1), 0)] 0,
   .cells [.int .u8 (.lit 5), .str [98], .int .i64 (.lit 4), .str [], .int .i64 (.lit 1)] 75,
   .cells [.str [116, 48], .nils, .nils, .str [116, 49], .nils, .nils, .str [116, 50], .nils, .nils, .str [116, 51], .nils, .nils] 79],
  [(.lt (.atm 0) (.lit 0), false), (.lt (.atm 1) (.lit 0), false), (.lt (.atm 1) (.lit 4), true), (.lt (.atm 2) (.lit 0), false), (.lt (.atm 2) (.lit 4), true), (.lt (.atm 3) (.lit 0), false), (.lt (.atm 3) (.lit 4), true), (.lt (.atm 4) (.lit 0), false), (.lt (.atm 4) (.lit 4), true), (.lt (.atm 5) (.lit 0), false), (.lt (.atm 5) (.lit 4), true)], .lit 1⟩
def h64 : Hint := ⟨[], [], 0⟩
def c65 : CS := ⟨6, [(1, .inp 0 [.i64]), (5, .int .i64 (.lit 4)), (8, .ptr 0 0), (9, .slice 1 0 1 (.rest 6)), (10, .slice 2 0 3 (.rest 1)), (11, .map 3), (13, .int .i64 (.lit 3))],
  [.cells [.slice 4 0 1 (.rest 5), .slice 5 0 4 (.rest 3)] 25,
   .cells [.int .i64 (.lit (-1)), .int .i64 (.lit 0), .bool (.lit false), .int .i64 (.lit 0), .nils, .nils] 51,
   .cells [.int .i64 (.atm 3), .int .i64 (.atm 4), .int .i64 (.atm 5)] 3,
   .map [(.int .i64 (.lit 1), .int .i64 (.lit 1), 0)] 0,
   .cells [.int .u8 (.lit 5), .str [98], .int .i64 (.lit 4), .str [], .int .i64 (.lit 1)] 75,
   .cells [.str [116, 48], .nils, .nils, .str [116, 49], .nils, .nils, .str [116, 50], .nils, .nils, .str [116, 51], .nils, .nils] 79],
  [(.lt (.atm 0) (.lit 0), false), (.lt (.atm 1) (.lit 0), false), (.lt (.atm 1) (.lit 4), true), (.lt (.atm 2) (.lit 0), false), (.lt (.atm 2) (.lit 4), true), (.lt (.atm 3) (.lit 0), false), (.lt (.atm 3) (.lit 4), true), (.lt (.atm 4) (.lit 0), false), (.lt (.atm 4) (.lit 4), true), (.lt (.atm 5) (.lit 0), false), (.lt (.atm 5) (.lit 4), true)], .lit 1⟩
def h65 : Hint := ⟨[], [], 0⟩
def c66 : CS := ⟨6, [(1, .inp 0 [.i64]), (5, .int .i64 (.lit 4)), (8, .ptr 0 0), (9, .slice 1 0 1 (.rest 6)), (10, .slice 2 0 3 (.rest 1)), (11, .map 3), (13, .int .i64 (.lit 3))],
  [.cells [.slice 4 0 1 (.rest 5), .slice 5 0 4 (.rest 3)] 25,
   .cells [.int .i64 (.lit (-1)), .int .i64 (.lit 0), .bool (.lit false), .int .i64 (.lit 0), .nils, .nils] 51,
   .cells [.int .i64 (.atm 3), .int .i64 (.atm 4), .int .i64 (.atm 5)] 3,
   .map [(.int .i64 (.lit 0), .int .i64 (.lit 1), 0)] 0,
   .cells [.int .u8 (.lit 5), .str [98], .int .i64 (.lit 4), .str [], .int .i64 (.lit 1)] 75,
   .cells [.str [116, 48], .nils, .nils, .str [116, 49], .nils, .nils, .str [116, 50], .nils, .nils, .str [116, 51], .nils, .nils] 79],
  [(.lt (.atm 0) (.lit 0), false), (.lt (.atm 1) (.lit 0), false), (.lt (.atm 1) (.lit 4), true), (.lt (.atm 2) (.lit 0), false), (.lt (.atm 2) (.lit 4), true), (.lt (.atm 3) (.lit 0), false), (.lt (.atm 3) (.lit 4), true), (.lt (.atm 4) (.lit 0), false), (.lt (.atm 4) (.lit 4), true), (.lt (.atm 5) (.lit 0), false), (.lt (.atm 5) (.lit 4), true)], .lit 1⟩
def h66 : Hint := ⟨[], [], 0⟩
def c67 : CS := ⟨6, [(1, .inp 0 [.i64]), (5, .int .i64 (.lit 5)), (8, .ptr 0 0), (9, .slice 1 0 1 (.rest 6)), (10, .slice 2 0 3 (.rest 1)), (11, .map 3), (13, .int .i64 (.lit 3))],
  [.cells [.slice 4 0 1 (.rest 5), .slice 5 0 5 (.rest 3)] 25,
   .cells [.int .i64 (.lit (-1)), .int .i64 (.lit 0), .bool (.lit false), .int .i64 (.lit 0), .nils, .nils] 51,
   .cells [.int .i64 (.atm 3), .int .i64 (.atm 4), .int .i64 (.atm 5)] 3,
   .map [(.int .i64 (.lit 3), .int .i64 (.lit 1), 0), (.int .i64 (.lit 4), .int .i64 (.lit 1), 0)] 0,
   .cells [.int .u8 (.lit 5), .str [98], .int .i64 (.lit 5), .str [], .int .i64 (.lit 1)] 75,
   .cells [.str [116, 48], .nils, .nils, .str [116, 49], .nils, .nils, .str [116, 50], .nils, .nils, .str [116, 51], .nils, .nils, .str [116, 52], .nils, .nils] 79],
  [(.lt (.atm 0) (.lit 0), false), (.lt (.atm 1) (.lit 0), false), (.lt (.atm 1) (.lit 5), true), (.lt (.atm 2) (.lit 0), false), (.lt (.atm 2) (.lit 5), true), (.lt (.atm 3) (.lit 0), false), (.lt (.atm 3) (.lit 5), true), (.lt (.atm 4) (.lit 0), false), (.lt (.atm 4) (.lit 5), true), (.lt (.atm 5) (.lit 0), false), (.lt (.atm 5) (.lit 5), true)], .lit 2⟩
def h67 : Hint := ⟨[], [], 0⟩
def c68 : CS := ⟨6, [(1, .inp 0 [.i64]), (5, .int .i64 (.lit 5)), (8, .ptr 0 0), (9, .slice 1 0 1 (.rest 6)), (10, .slice 2 0 3 (.rest 1)), (11, .map 3), (13, .int .i64 (.lit 3))],
  [.cells [.slice 4 0 1 (.rest 5), .slice 5 0 5 (.rest 3)] 25,
   .cells [.int .i64 (.lit (-1)), .int .i64 (.lit 0), .bool (.lit false), .int .i64 (.lit 0), .nils, .nils] 51,
   .cells [.int .i64 (.atm 3), .int .i64 (.atm 4), .int .i64 (.atm 5)] 3,
   .map [(.int .i64 (.lit 2), .int .i64 (.lit 1), 0), (.int .i64 (.lit 4), .int .i64 (.lit 1), 0)] 0,
   .cells [.int .u8 (.lit 5), .str [98], .int .i64 (.lit 5), .str [], .int .i64 (.lit 1)] 75,
   .cells [.str [116, 48], .nils, .nils, .str [116, 49], .nils, .nils, .str [116, 50], .nils, .nils, .str [116, 51], .nils, .nils, .str [116, 52], .nils, .nils] 79],
  [(.lt (.atm 0) (.lit 0), false), (.lt (.atm 1) (.lit 0), false), (.lt (.atm 1) (.lit 5), true), (.lt (.atm 2) (.lit 0), false), (.lt (.atm 2) (.lit 5), true), (.lt (.atm 3) (.lit 0), false), (.lt (.atm 3) (.lit 5), true), (.lt (.atm 4) (.lit 0), false), (.lt (.atm 4) (.lit 5), true), (.lt (.atm 5) (.lit 0), false), (.lt (.atm 5) (.lit 5), true)], .lit 2⟩
def h68 : Hint := ⟨[], [], 0⟩
def c69 : CS := ⟨6, [(1, .inp 0 [.i64]), (5, .int .i64 (.lit 5)), (8, .ptr 0 0), (9, .slice 1 0 1 (.rest 6)), (10, .slice 2 0 3 (.rest 1)), (11, .map 3), (13, .int .i64 (.lit 3))],
  [.cells [.slice 4 0 1 (.rest 5), .slice 5 0 5 (.rest 3)] 25,
   .cells [.int .i64 (.lit (-1)), .int .i64 (.lit 0), .bool (.lit false), .int .i64 (.lit 0), .nils, .nils] 51,
   .cells [.int .i64 (.atm 3), .int .i64 (.atm 4), .int .i64 (.atm 5)] 3,
   .map [(.int .i64 (.lit 2), .int .i64 (.lit 1), 0), (.int .i64 (.lit 3), .int .i64 (.lit 1), 0)] 0,
   .cells [.int .u8 (.lit 5), .str [98], .int .i64 (.lit 5), .str [], .int .i64 (.lit 1)] 75,
   .cells [.str [116, 48], .nils, .nils, .str [116, 49], .nils, .nils, .str [116, 50], .nils, .nils, .str [116, 51], .nils, .nils, .str [116, 52], .nils, .nils] 79],
  [(.lt (.atm 0) (.lit 0), false), (.lt (.atm 1) (.lit 0), false), (.lt (.atm 1) (.lit 5), true), (.lt (.atm 2) (.lit 0), false), (.lt (.atm 2) (.lit 5), true), (.lt (.atm 3) (.lit 0), false), (.lt (.atm 3) (.lit 5), true), (.lt (.atm 4) (.lit 0), false), (.lt (.atm 4) (.lit 5), true), (.lt (.atm 5) (.lit 0), false), (.lt (.atm 5) (.lit 5), true)], .lit 2⟩
def h69 : Hint := ⟨[], [], 0⟩
def c70 : CS := ⟨6, [(1, .inp 0 [.i64]), (5, .int .i64 (.lit 5)), (8, .ptr 0 0), (9, .slice 1 0 1 (.rest 6)), (10, .slice 2 0 3 (.rest 1)), (11, .map 3), (13, .int .i64 (.lit 3))],
  [.cells [.slice 4 0 1 (.rest 5), .slice 5 0 5 (.rest 3)] 25,
   .cells [.int .i64 (.lit (-1)), .int .i64 (.lit 0), .bool (.lit false), .int .i64 (.lit 0), .nils, .nils] 51,
   .cells [.int .i64 (.atm 3), .int .i64 (.atm 4), .int .i64 (.atm 5)] 3,
   .map [(.int .i64 (.lit 1), .int .i64 (.lit 1), 0), (.int .i64 (.lit 4), .int .i64 (.lit 1), 0)] 0,
   .cells [.int .u8 (.lit 5), .str [98], .int .i64 (.lit 5), .str [], .int .i64 (.lit 1)] 75,
   .cells [.str [116, 48], .nils, .nils, .str [116, 49], .nils, .nils, .str [116, 50], .nils, .nils, .str [116, 51], .nils, .nils, .str [116, 52], .nils, .nils] 79],
  [(.lt (.atm 0) (.lit 0), false), (.lt (.atm 1) (.lit 0), false), (.lt (.atm 1) (.lit 5), true), (.lt (.atm 2) (.lit 0), false), (.lt (.atm 2) (.lit 5), true), (.lt (.atm 3) (.lit 0), false), (.lt (.atm 3) (.lit 5), true), (.lt (.atm 4) (.lit 0), false), (.lt (.atm 4) (.lit 5), true), (.lt (.atm 5) (.lit 0), false), (.lt (.atm 5) (.lit 5), true)], .lit 2⟩
def h70 : Hint := ⟨[], [], 0⟩
def c71 : CS := ⟨6, [(1, .inp 0 [.i64]), (5, .int .i64 (.lit 5)), (8, .ptr 0 0), (9, .slice 1 0 1 (.rest 6)), (10, .slice 2 0 3 (.rest 1)), (11, .map 3), (13, .int .i64 (.lit 3))],
  [.cells [.slice 4 0 1 (.rest 5), .slice 5 0 5 (.rest 3)] 25,
   .cells [.int .i64 (.lit (-1)), .int .i64 (.lit 0), .bool (.lit false), .int .i64 (.lit 0), .nils, .nils] 51,
   .cells [.int .i64 (.atm 3), .int .i64 (.atm 4), .int .i64 (.atm 5)] 3,
   .map [(.int .i64 (.lit 1), .int .i64 (.lit 1), 0), (.int .i64 (.lit 3), .int .i64 (.lit 1), 0)] 0,
   .cells [.int .u8 (.lit 5), .str [98], .int .i64 (.lit 5), .str [], .int .i64 (.lit 1)] 75,
   .cells [.str [116, 48], .nils, .nils, .str [116, 49], .nils, .nils, .str [116, 50], .nils, .nils, .str [116, 51], .nils, .nils, .str [116, 52], .nils, .nils] 79],
  [(.lt (.atm 0) (.lit 0), false), (.lt (.atm 1) (.lit 0), false), (.lt (.atm 1) (.lit 5), true), (.lt (.atm 2) (.lit 0), false), (.lt (.atm 2) (.lit 5), true), (.lt (.atm 3) (.lit 0), false), (.lt (.atm 3) (.lit 5), true), (.lt (.atm 4) (.lit 0), false), (.lt (.atm 4) (.lit 5), true), (.lt (.atm 5) (.lit 0), false), (.lt (.atm 5) (.lit 5), true)], .lit 2⟩
def h71 : Hint := ⟨[], [], 0⟩
def c72 : CS := ⟨6, [(1, .inp 0 [.i64]), (5, .int .i64 (.lit 5)), (8, .ptr 0 0), (9, .slice 1 0 1 (.rest 6)), (10, .slice 2 0 3 (.rest 1)), (11, .map 3), (13, .int .i64 (.lit 3))],
  [.cells [.slice 4 0 1 (.rest 5), .slice 5 0 5 (.rest 3)] 25,
   .cells [.int .i64 (.lit (-1)), .int .i64 (.lit 0), .bool (.lit false), .int .i64 (.lit 0), .nils, .nils] 51,
   .cells [.int .i64 (.atm 3), .int .i64 (.atm 4), .int .i64 (.atm 5)] 3,
   .map [(.int .i64 (.lit 1), .int .i64 (.lit 1), 0), (.int .i64 (.lit 2), .int .i64 (.lit 1), 0)] 0,
   .cells [.int .u8 (.lit 5), .str [98], .int .i64 (.lit 5), .str [], .int .i64 (.lit 1)] 75,
   .cells [.str [116, 48], .nils, .nils, .str [116, 49], .nils, .nils, .str [116, 50], .nils, .nils, .str [116, 51], .nils, .nils, .str [116, 52], .nils, .nils] 79],
  [(.lt (.atm 0) (.lit 0), false), (.lt (.atm 1) (.lit 0), false), (.lt (.atm 1) (.lit 5), true), (.lt (.atm 2) (.lit 0), false), (.lt (.atm 2) (.lit 5), true), (.lt (.atm 3) (.lit 0), false), (.lt (.atm 3) (.lit 5), true), (.lt (.atm 4) (.lit 0), false), (.lt (.atm 4) (.lit 5), true), (.lt (.atm 5) (.lit 0), false), (.lt (.atm 5) (.lit 5), true)], .lit 2⟩
def h72 : Hint := ⟨[], [], 0⟩
def c73 : CS := ⟨6, [(1, .inp 0 [.i64]), (5, .int .i64 (.lit 5)), (8, .ptr 0 0), (9, .slice 1 0 1 (.rest 6)), (10, .slice 2 0 3 (.rest 1)), (11, .map 3), (13, .int .i64 (.lit 3))],
  [.cells [.slice 4 0 1 (.rest 5), .slice 5 0 5 (.rest 3)] 25,
   .cells [.int .i64 (.lit (-1)), .int .i64 (.lit 0), .bool (.lit false), .int .i64 (.lit 0), .nils, .nils] 51,
   .cells [.int .i64 (.atm 3), .int .i64 (.atm 4), .int .i64 (.atm 5)] 3,
   .map [(.int .i64 (.lit 0), .int .i64 (.lit 1), 0), (.int .i64 (.lit 4), .int .i64 (.lit 1), 0)] 0,
   .cells [.int .u8 (.lit 5), .str [98], .int .i64 (.lit 5), .str [], .int .i64 (.lit 1)] 75,
   .cells [.str [116, 48], .nils, .nils, .str [116, 49], .nils, .nils, .str [116, 50], .nils, .nils, .str [116, 51], .nils, .nils, .str [116, 52], .nils, .nils] 79],
  [(.lt (.atm 0) (.lit 0), false), (.lt (.atm 1) (.lit 0), false), (.lt (.atm 1) (.lit 5), true), (.lt (.atm 2) (.lit 0), false), (.lt (.atm 2) (.lit 5), true), (.lt (.atm 3) (.lit 0), false), (.lt (.atm 3) (.lit 5), true), (.lt (.atm 4) (.lit 0), false), (.lt (.atm 4) (.lit 5), true), (.lt (.atm 5) (.lit 0), false), (.lt (.atm 5) (.lit 5), true)], .lit 2⟩
def h73 : Hint := ⟨[], [], 0⟩
def c74 : CS := ⟨6, [(1, .inp 0 [.i64]), (5, .int .i64 (.lit 5)), (8, .ptr 0 0), (9, .slice 1 0 1 (.rest 6)), (10, .slice 2 0 3 (.rest 1)), (11, .map 3), (13, .int .i64 (.lit 3))],
  [.cells [.slice 4 0 1 (.rest 5), .slice 5 0 5 (.rest 3)] 25,
   .cells [.int .i64 (.lit (-1)), .int .i64 (.lit 0), .bool (.lit false), .int .i64 (.lit 0), .nils, .nils] 51,
   .cells [.int .i64 (.atm 3), .int .i64 (.atm 4), .int .i64 (.atm 5)] 3,
   .map [(.int .i64 (.lit 0), .int .i64 (.lit 1), 0), (.int .i64 (.lit 3), .int .i64 (.lit 1), 0)] 0,
   .cells [.int .u8 (.lit 5), .str [98], .int .i64 (.lit 5), .str [], .int .i64 (.lit 1)] 75,
   .cells [.str [116, 48], .nils, .nils, .str [116, 49], .nils, .nils, .str [116, 50], .nils, .nils, .str [116, 51], .nils, .nils, .str [116, 52], .nils, .nils] 79],
  [(.lt (.atm 0) (.lit 0), false), (.lt (.atm 1) (.lit 0), false), (.lt (.atm 1) (.lit 5), true), (.lt (.atm 2) (.lit 0), false), (.lt (.atm 2) (.lit 5), true), (.lt (.atm 3) (.lit 0), false), (.lt (.atm 3) (.lit 5), true), (.lt (.atm 4) (.lit 0), false), (.lt (.atm 4) (.lit 5), true), (.lt (.atm 5) (.lit 0), false), (.lt (.atm 5) (.lit 5), true)], .lit 2⟩
def h74 : Hint := ⟨[], [], 0⟩
def c75 : CS := ⟨6, [(1, .inp 0 [.i64]), (5, .int .i64 (.lit 5)), (8, .ptr 0 0), (9, .slice 1 0 1 (.rest 6)), (10, .slice 2 0 3 (.rest 1)), (11, .map 3), (13, .int .i64 (.lit 3))],
  [.cells [.slice 4 0 1 (.rest 5), .slice 5 0 5 (.rest 3)] 25,
   .cells [.int .i64 (.lit (-1)), .int .i64 (.lit 0), .bool (.lit false), .int .i64 (.lit 0), .nils, .nils] 51,
   .cells [.int .i64 (.atm 3), .int .i64 (.atm 4), .int .i64 (.atm 5)] 3,
   .map [(.int .i64 (.lit 0), .int .i64 (.lit 1), 0), (.int .i64 (.lit 2), .int .i64 (.lit 1), 0)] 0,
   .cells [.int .u8 (.lit 5), .str [98], .int .i64 (.lit 5), .str [], .int .i64 (.lit 1)] 75,
   .cells [.str [116, 48], .nils, .nils, .str [116, 49], .nils, .nils, .str [116, 50], .nils, .nils, .str [116, 51], .nils, .nils, .str [116, 52], .nils, .nils] 79],
  [(.lt (.atm 0) (.lit 0), false), (.lt (.atm 1) (.lit 0), false), (.lt (.atm 1) (.lit 5), true), (.lt (.atm 2) (.lit 0), false), (.lt (.atm 2) (.lit 5), true), (.lt (.atm 3) (.lit 0), false), (.lt (.atm 3) (.lit 5), true), (.lt (.atm 4) (.lit 0), false), (.lt (.atm 4) (.lit 5), true), (.lt (.atm 5) (.lit 0), false), (.lt (.atm 5) (.lit 5), true)], .lit 2⟩
def h75 : Hint := ⟨[], [], 0⟩
def c76 : CS := ⟨6, [(1, .inp 0 [.i64]), (5, .int .i64 (.lit 5)), (8, .ptr 0 0), (9, .slice 1 0 1 (.rest 6)), (10, .slice 2 0 3 (.rest 1)), (11, .map 3), (13, .int .i64 (.lit 3))],
  [.cells [.slice 4 0 1 (.rest 5), .slice 5 0 5 (.rest 3)] 25,
   .cells [.int .i64 (.lit (-1)), .int .i64 (.lit 0), .bool (.lit false), .int .i64 (.lit 0), .nils, .nils] 51,
   .cells [.int .i64 (.atm 3), .int .i64 (.atm 4), .int .i64 (.atm 5)] 3,
   .map [(.int .i64 (.lit 0), .int .i64 (.lit 1), 0), (.int .i64 (.lit 1), .int .i64 (.lit 1), 0)] 0,
   .cells [.int .u8 (.lit 5), .str [98], .int .i64 (.lit 5), .str [], .int .i64 (.lit 1)] 75,
   .cells [.str [116, 48], .nils, .nils, .str [116, 49], .nils, .nils, .str [116, 50], .nils, .nils, .str [116, 51], .nils, .nils, .str [116, 52], .nils, .nils] 79],
  [(.lt (.atm 0) (.lit 0), false), (.lt (.atm 1) (.lit 0), false), (.lt (.atm 1) (.lit 5), true), (.lt (.atm 2) (.lit 0), false), (.lt (.atm 2) (.lit 5), true), (.lt (.atm 3) (.lit 0), false), (.lt (.atm 3) (.lit 5), true), (.lt (.atm 4) (.lit 0), false), (.lt (.atm 4) (.lit 5), true), (.lt (.atm 5) (.lit 0), false), (.lt (.atm 5) (.lit 5), true)], .lit 2⟩
def h76 : Hint := ⟨[], [], 0⟩
def c77 : CS := ⟨6, [(1, .inp 0 [.i64]), (5, .int .i64 (.lit 6)), (8, .ptr 0 0), (9, .slice 1 0 1 (.rest 6)), (10, .slice 2 0 3 (.rest 1)), (11, .map 3), (13, .int .i64 (.lit 3))],
  [.cells [.slice 4 0 1 (.rest 5), .slice 5 0 6 (.rest 3)] 25,
   .cells [.int .i64 (.lit (-1)), .int .i64 (.lit 0), .bool (.lit false), .int .i64 (.lit 0), .nils, .nils] 51,
   .cells [.int .i64 (.atm 3), .int .i64 (.atm 4), .int .i64 (.atm 5)] 3,
   .map [(.int .i64 (.lit 3), .int .i64 (.lit 1), 0), (.int .i64 (.lit 4), .int .i64 (.lit 1), 0), (.int .i64 (.lit 5), .int .i64 (.lit 1), 0)] 0,
   .cells [.int .u8 (.lit 5), .str [98], .int .i64 (.lit 6), .str [], .int .i64 (.lit 1)] 75,
   .cells [.str [116, 48], .nils, .nils, .str [116, 49], .nils, .nils, .str [116, 50], .nils, .nils, .str [116, 51], .nils, .nils, .str [116, 52], .nils, .nils, .str [116, 53], .nils, .nils] 79],
  [(.lt (.atm 0) (.lit 0), false), (.lt (.atm 1) (.lit 0), false), (.lt (.atm 1) (.lit 6), true), (.lt (.atm 2) (.lit 0), false), (.lt (.atm 2) (.lit 6), true), (.lt (.atm 3) (.lit 0), false), (.lt (.atm 3) (.lit 6), true), (.lt (.atm 4) (.lit 0), false), (.lt (.atm 4) (.lit 6), true), (.lt (.atm 5) (.lit 0), false), (.lt (.atm 5) (.lit 6), true)], .lit 3⟩
def h77 : Hint := ⟨[], [], 0⟩
def c78 : CS := ⟨6, [(1, .inp 0 [.i64]), (5, .int .i64 (.lit 6)), (8, .ptr 0 0), (9, .slice 1 0 1 (.rest 6)), (10, .slice 2 0 3 (.rest 1)), (11, .map 3), (13, .int .i64 (.lit 3))],
  [.cells [.slice 4 0 1 (.rest 5), .slice 5 0 6 (.rest 3)] 25,
   .cells [.int .i64 (.lit (-1)), .int .i64 (.lit 0), .bool (.lit false), .int .i64 (.lit 0), .nils, .nils] 51,
   .cells [.int .i64 (.atm 3), .int .i64 (.atm 4), .int .i64 (.atm 5)] 3,
   .map [(.int .i64 (.lit 2), .int .i64 (.lit 1), 0), (.int .i64 (.lit 4), .int .i64 (.lit 1), 0), (.int .i64 (.lit 5), .int .i64 (.lit 1), 0)] 0,
   .cells [.int .u8 (.lit 5), .str [98], .int .i64 (.lit 6), .str [], .int .i64 (.lit 1)] 75,
   .cells [.str [116, 48], .nils, .nils, .str [116, 49], .nils, .nils, .str [116, 50], .nils, .nils, .str [116, 51], .nils, .nils, .str [116, 52], .nils, .nils, .str [116, 53], .nils, .nils] 79],
  [(.lt (.atm 0) (.lit 0), false), (.lt (.atm 1) (.lit 0), false), (.lt (.atm 1) (.lit 6), true), (.lt (.atm 2) (.lit 0), false), (.lt (.atm 2) (.lit 6), true), (.lt (.atm 3) (.lit 0), false), (.lt (.atm 3) (.lit 6), true), (.lt (.atm 4) (.lit 0), false), (.lt (.atm 4) (.lit 6), true), (.lt (.atm 5) (.lit 0), false), (.lt (.atm 5) (.lit 6), true)], .lit 3⟩
def h78 : Hint := ⟨[], [], 0⟩
def c79 : CS := ⟨6, [(1, .inp 0 [.i64]), (5, .int .i64 (.lit 6)), (8, .ptr 0 0), (9, .slice 1 0 1 (.rest 6)), (10, .slice 2 0 3 (.rest 1)), (11, .map 3), (13, .int .i64 (.lit 3))],
  [.cells [.slice 4 0 1 (.rest 5), .slice 5 0 6 (.rest 3)] 25,
   .cells [.int .i64 (.lit (-1)), .int .i64 (.lit 0), .bool (.lit false), .int .i64 (.lit 0), .nils, .nils] 51,
   .cells [.int .i64 (.atm 3), .int .i64 (.atm 4), .int .i64 (.atm 5)] 3,
   .map [(.int .i64 (.lit 2), .int .i64 (.lit 1), 0), (.int .i64 (.lit 3), .int .i64 (.lit 1), 0), (.int .i64 (.lit 5), .int .i64 (.lit 1), 0)] 0,
   .cells [.int .u8 (.lit 5), .str [98], .int .i64 (.lit 6), .str [], .int .i64 (.lit 1)] 75,
   .cells [.str [116, 48], .nils, .nils, .str [116, 49], .nils, .nils, .str [116, 50], .nils, .nils, .str [116, 51], .nils, .nils, .str [116, 52], .nils, .nils, .str [116, 53], .nils, .nils] 79],
  [(.lt (.atm 0) (.lit 0), false), (.lt (.atm 1) (.lit 0), false), (.lt (.atm 1) (.lit 6), true), (.lt (.atm 2) (.lit 0), false), (.lt (.atm 2) (.lit 6), true), (.lt (.atm 3) (.lit 0), false), (.lt (.atm 3) (.lit 6), true), (.lt (.atm 4) (.lit 0), false), (.lt (.atm 4) (.lit 6), true), (.lt (.atm 5) (.lit 0), false), (.lt (.atm 5) (.lit 6), true)], .lit 3⟩
def h79 : Hint := ⟨[], [], 0⟩
def c80 : CS := ⟨6, [(1, .inp 0 [.i64]), (5, .int .i64 (.lit 6)), (8, .ptr 0 0), (9, .slice 1 0 1 (.rest 6)), (10, .slice 2 0 3 (.rest 1)), (11, .map 3), (13, .int .i64 (.lit 3))],
  [.cells [.slice 4 0 1 (.rest 5), .slice 5 0 6 (.rest 3)] 25,
   .cells [.int .i64 (.lit (-1)), .int .i64 (.lit 0), .bool (.lit false), .int .i64 (.lit 0), .nils, .nils] 51,
   .cells [.int .i64 (.atm 3), .int .i64 (.atm 4), .int .i64 (.atm 5)] 3,
   .map [(.int .i64 (.lit 2), .int .i64 (.lit 1), 0), (.int .i64 (.lit 3), .int .i64 (.lit 1), 0), (.int .i64 (.lit 4), .int .i64 (.lit 1), 0)] 0,
   .cells [.int .u8 (.lit 5), .str [98], .int .i64 (.lit 6), .str [], .int .i64 (.lit 1)] 75,
   .cells [.str [116, 48], .nils, .nils, .str [116, 49], .nils, .nils, .str [116, 50], .nils, .nils, .str [116, 51], .nils, .nils, .str [116, 52], .nils, .nils, .str [116, 53], .nils, .nils] 79],
  [(.lt (.atm 0) (.lit 0), false), (.lt (.atm 1) (.lit 0), false), (.lt (.atm 1) (.lit 6), true), (.lt (.atm 2) (.lit 0), false), (.lt (.atm 2) (.lit 6), true), (.lt (.atm 3) (.lit 0), false), (.lt (.atm 3) (.lit 6), true), (.lt (.atm 4) (.lit 0), false), (.lt (.atm 4) (.lit 6), true), (.lt (.atm 5) (.lit 0), false), (.lt (.atm 5) (.lit 6), true)], .lit 3⟩
def h80 : Hint := ⟨[], [], 0⟩
def c81 : CS := ⟨6, [(1, .inp 0 [.i64]), (5, .int .i64 (.lit 6)), (8, .ptr 0 0), (9, .slice 1 0 1 (.rest 6)), (10, .slice 2 0 3 (.rest 1)), (11, .map 3), (13, .int .i64 (.lit 3))],
  [.cells [.slice 4 0 1 (.rest 5), .slice 5 0 6 (.rest 3)] 25,
   .cells [.int .i64 (.lit (-1)), .int .i64 (.lit 0), .bool (.lit false), .int .i64 (.lit 0), .nils, .nils] 51,
   .cells [.int .i64 (.atm 3), .int .i64 (.atm 4), .int .i64 (.atm 5)] 3,
   .map [(.int .i64 (.lit 1), .int .i64 (.lit 1), 0), (.int .i64 (.lit 4), .int .i64 (.lit 1), 0), (.int .i64 (.lit 5), .int .i64 (.lit 1), 0)] 0,
   .cells [.int .u8 (.lit 5), .str [98], .int .i64 (.lit 6), .str [], .int .i64 (.lit 1)] 75,
   .cells [.str [116, 48], .nils, .nils, .str [116, 49], .nils, .nils, .str [116, 50], .nils, .nils, .str [116, 51], .nils, .nils, .str [116, 52], .nils, .nils, .str [116, 53], .nils, .nils] 79],
  [(.lt (.atm 0) (.lit 0), false), (.lt (.atm 1) (.lit 0), false), (.lt (.atm 1) (.lit 6), true), (.lt (.atm 2) (.lit 0), false), (.lt (.atm 2) (.lit 6), true), (.lt (.atm 3) (.lit 0), false), (.lt (.atm 3) (.lit 6), true), (.lt (.atm 4) (.lit 0), false), (.lt (.atm 4) (.lit 6), true), (.lt (.atm 5) (.lit 0), false), (.lt (.atm 5) (.lit 6), true)], .lit 3⟩
def h81 : Hint := ⟨[], [], 0⟩
def c82 : CS := ⟨6, [(1, .inp 0 [.i64]), (5, .int .i64 (.lit 6)), (8, .ptr 0 0), (9, .slice 1 0 1 (.rest 6)), (10, .slice 2 0 3 (.rest 1)), (11, .map 3), (13, .int .i64 (.lit 3))],
  [.cells [.slice 4 0 1 (.rest 5), .slice 5 0 6 (.rest 3)] 25,
   .cells [.int .i64 (.lit (-1)), .int .i64 (.lit 0), .bool (.lit false), .int .i64 (.lit 0), .nils, .nils] 51,
   .cells [.int .i64 (.atm 3), .int .i64 (.atm 4), .int .i64 (.atm 5)] 3,
   .map [(.int .i64 (.lit 1), .int .i64 (.lit 1), 0), (.int .i64 (.lit 3), .int .i64 (.lit 1), 0), (.int .i64 (.lit 5), .int .i64 (.lit 1), 0)] 0,
   .cells [.int .u8 (.lit 5), .str [98], .int .i64 (.lit 6), .str [], .int .i64 (.lit 1)] 75,
   .cells [.str [116, 48], .nils, .nils, .str [116, 49], .nils, .nils, .str [116, 50], .nils, .nils, .str [116, 51], .nils, .nils, .str [116, 52], .nils, .nils, .str [116, 53], .nils, .nils] 79],
  [(.lt (.atm 0) (.lit 0), false), (.lt (.atm 1) (.lit 0), false), (.lt (.atm 1) (.lit 6), true), (.lt (.atm 2) (.lit 0), false), (.lt (.atm 2) (.lit 6), true), (.lt (.atm 3) (.lit 0), false), (.lt (.atm 3) (.lit 6), true), (.lt (.atm 4) (.lit 0), false), (.lt (.atm 4) (.lit 6), true), (.lt (.atm 5) (.lit 0), false), (.lt (.atm 5) (.lit 6), true)], .lit 3⟩
def h82 : Hint := ⟨[], [], 0⟩
def c83 : CS := ⟨6, [(1, .inp 0 [.i64]), (5, .int .i64 (.lit 6)), (8, .ptr 0 0), (9, .slice 1 0 1 (.rest 6)), (10, .slice 2 0 3 (.rest 1)), (11, .map 3), (13, .int .i64 (.lit 3))],
  [.cells [.slice 4 0 1 (.rest 5), .slice 5 0 6 (.rest 3)] 25,
   .cells [.int .i64 (.lit (-1)), .int .i64 (.lit 0), .bool (.lit false), .int .i64 (.lit 0), .nils, .nils] 51,
   .cells [.int .i64 (.atm 3), .int .i64 (.atm 4), .int .i64 (.atm 5)] 3,
   .map [(.int .i64 (.lit 1), .int .i64 (.lit 1), 0), (.int .i64 (.lit 3), .int .i64 (.lit 1), 0), (.int .i64 (.lit 4), .int .i64 (.lit 1), 0)] 0,
   .cells [.int .u8 (.lit 5), .str [98], .int .i64 (.lit 6), .str [], .int .i64 (.lit 1)] 75,
   .cells [.str [116, 48], .nils, .nils, .str [116, 49], .nils, .nils, .str [116, 50], .nils, .nils, .str [116, 51], .nils, .nils, .str [116, 52], .nils, .nils, .str [116, 53], .nils, .nils] 79],
  [(.lt (.atm 0) (.lit 0), false), (.lt (.atm 1) (.lit 0), false), (.lt (.atm 1) (.lit 6), true), (.lt (.atm 2) (.lit 0), false), (.lt (.atm 2) (.lit 6), true), (.lt (.atm 3) (.lit 0), false), (.lt (.atm 3) (.lit 6), true), (.lt (.atm 4) (.lit 0), false), (.lt (.atm 4) (.lit 6), true), (.lt (.atm 5) (.lit 0), false), (.lt (.atm 5) (.lit 6), true)], .lit 3⟩
def h83 : Hint := ⟨[], [], 0⟩
def c84 : CS := ⟨6, [(1, .inp 0 [.i64]), (5, .int .i64 (.lit 6)), (8, .ptr 0 0), (9, .slice 1 0 1 (.rest 6)), (10, .slice 2 0 3 (.rest 1)), (11, .map 3), (13, .int .i64 (.lit 3))],
  [.cells [.slice 4 0 1 (.rest 5), .slice 5 0 6 (.rest 3)] 25,
   .cells [.int .i64 (.lit (-1)), .int .i64 (.lit 0), .bool (.lit false), .int .i64 (.lit 0), .nils, .nils] 51,
   .cells [.int .i64 (.atm 3), .int .i64 (.atm 4), .int .i64 (.atm 5)] 3,
   .map [(.int .i64 (.lit 1), .int .i64 (.lit 1), 0), (.int .i64 (.lit 2), .int .i64 (.lit 1), 0), (.int .i64 (.lit 5), .int .i64 (.lit 1), 0)] 0,
   .cells [.int .u8 (.lit 5), .str [98], .int .i64 (.lit 6), .str [], .int .i64 (.lit 1)] 75,
   .cells [.str [116, 48], .nils, .nils, .str [116, 49], .nils, .nils, .str [116, 50], .nils, .nils, .str [116, 51], .nils, .nils, .str [116, 52], .nils, .nils, .str [116, 53], .nils, .nils] 79],
  [(.lt (.atm 0) (.lit 0), false), (.lt (.atm 1) (.lit 0), false), (.lt (.atm 1) (.lit 6), true), (.lt (.atm 2) (.lit 0), false), (.lt (.atm 2) (.lit 6), true), (.lt (.atm 3) (.lit 0), false), (.lt (.atm 3) (.lit 6), true), (.lt (.atm 4) (.lit 0), false), (.lt (.atm 4) (.lit 6), true), (.lt (.atm 5) (.lit 0), false), (.lt (.atm 5) (.lit 6), true)], .lit 3⟩
def h84 : Hint := ⟨[], [], 0⟩
def c85 : CS := ⟨6, [(1, .inp 0 [.i64]), (5, .int .i64 (.lit 6)), (8, .ptr 0 0), (9, .slice 1 0 1 (.rest 6)), (10, .slice 2 0 3 (.rest 1)), (11, .map 3), (13, .int .i64 (.lit 3))],
  [.cells [.slice 4 0 1 (.rest 5), .slice 5 0 6 (.rest 3)] 25,
   .cells [.int .i64 (.lit (-1)), .int .i64 (.lit 0), .bool (.lit false), .int .i64 (.lit 0), .nils, .nils] 51,
   .cells [.int .i64 (.atm 3), .int .i64 (.atm 4), .int .i64 (.atm 5)] 3,
   .map [(.int .i64 (.lit 1), .int .i64 (.lit 1), 0), (.int .i64 (.lit 2), .int .i64 (.lit 1), 0), (.int .i64 (.lit 4), .int .i64 (.lit 1), 0)] 0,
   .cells [.int .u8 (.lit 5), .str [98], .int .i64 (.lit 6), .str [], .int .i64 (.lit 1)] 75,
   .cells [.str [116, 48], .nils, .nils, .str [116, 49], .nils, .nils, .str [116, 50], .nils, .nils, .str [116, 51], .nils, .nils, .str [116, 52], .nils, .nils, .str [116, 53], .nils, .nils] 79],
  [(.lt (.atm 0) (.lit 0), false), (.lt (.atm 1) (.lit 0), false), (.lt (.atm 1) (.lit 6), true), (.lt (.atm 2) (.lit 0), false), (.lt (.atm 2) (.lit 6), true), (.lt (.atm 3) (.lit 0), false), (.lt (.atm 3) (.lit 6), true), (.lt (.atm 4) (.lit 0), false), (.lt (.atm 4) (.lit 6), true), (.lt (.atm 5) (.lit 0), false), (.lt (.atm 5) (.lit 6), true)], .lit 3⟩
def h85 : Hint := ⟨[], [], 0⟩
def c86 : CS := ⟨6, [(1, .inp 0 [.i64]), (5, .int .i64 (.lit 6)), (8, .ptr 0 0), (9, .slice 1 0 1 (.rest 6)), (10, .slice 2 0 3 (.rest 1)), (11, .map 3), (13, .int .i64 (.lit 3))],
  [.cells [.slice 4 0 1 (.rest 5), .slice 5 0 6 (.rest 3)] 25,
   .cells [.int .i64 (.lit (-1)), .int .i64 (.lit 0), .bool (.lit false), .int .i64 (.lit 0), .nils, .nils] 51,
   .cells [.int .i64 (.atm 3), .int .i64 (.atm 4), .int .i64 (.atm 5)] 3,
   .map [(.int .i64 (.lit 1), .int .i64 (.lit 1), 0), (.int .i64 (.lit 2), .int .i64 (.lit 1), 0), (.int .i64 (.lit 3), .int .i64 (.lit 1), 0)] 0,
   .cells [.int .u8 (.lit 5), .str [98], .int .i64 (.lit 6), .str [], .int .i64 (.lit 1)] 75,
   .cells [.str [116, 48], .nils, .nils, .str [116, 49], .nils, .nils, .str [116, 50], .nils, .nils, .str [116, 51], .nils, .nils, .str [116, 52], .nils, .nils, .str [116, 53], .nils, .nils] 79],
  [(.lt (.atm 0) (.lit 0), false), (.lt (.atm 1) (.lit 0), false), (.lt (.atm 1) (.lit 6), true), (.lt (.atm 2) (.lit 0), false), (.lt (.atm 2) (.lit 6), true), (.lt (.atm 3) (.lit 0), false), (.lt (.atm 3) (.lit 6), true), (.lt (.atm 4) (.lit 0), false), (.lt (.atm 4) (.lit 6), true), (.lt (.atm 5) (.lit 0), false), (.lt (.atm 5) (.lit 6), true)], .lit 3⟩
def h86 : Hint := ⟨[], [], 0⟩
def c87 : CS := ⟨6, [(1, .inp 0 [.i64]), (5, .int .i64 (.lit 6)), (8, .ptr 0 0), (9, .slice 1 0 1 (.rest 6)), (10, .slice 2 0 3 (.rest 1)), (11, .map 3), (13, .int .i64 (.lit 3))],
  [.cells [.slice 4 0 1 (.rest 5), .slice 5 0 6 (.rest 3)] 25,
   .cells [.int .i64 (.lit (-1)), .int .i64 (.lit 0), .bool (.lit false), .int .i64 (.lit 0), .nils, .nils] 51,
   .cells [.int .i64 (.atm 3), .int .i64 (.atm 4), .int .i64 (.atm 5)] 3,
   .map [(.int .i64 (.lit 0), .int .i64 (.lit 1), 0), (.int .i64 (.lit 4), .int .i64 (.lit 1), 0), (.int .i64 (.lit 5), .int .i64 (.lit 1), 0)] 0,
   .cells [.int .u8 (.lit 5), .str [98], .int .i64 (.lit 6), .str [], .int .i64 (.lit 1)] 75,
   .cells [.str [116, 48], .nils, .nils, .str [116, 49], .nils, .nils, .str [116, 50], .nils, .nils, .str [116, 51], .nils, .nils, .str [116, 52], .nils, .nils, .str [116, 53], .nils, .nils] 79],
  [(.lt (.atm 0) (.lit 0), false), (.lt (.atm 1) (.lit 0), false), (.lt (.atm 1) (.lit 6), true), (.lt (.atm 2) (.lit 0), false), (.lt (.atm 2) (.lit 6), true), (.lt (.atm 3) (.lit 0), false), (.lt (.atm 3) (.lit 6), true), (.lt (.atm 4) (.lit 0), false), (.lt (.atm 4) (.lit 6), true), (.lt (.atm 5) (.lit 0), false), (.lt (.atm 5) (.lit 6), true)], .lit 3⟩
def h87 : Hint := ⟨[], [], 0⟩
def c88 : CS := ⟨6, [(1, .inp 0 [.i64]), (5, .int .i64 (.lit 6)), (8, .ptr 0 0), (9, .slice 1 0 1 (.rest 6)), (10, .slice 2 0 3 (.rest 1)), (11, .map 3), (13, .int .i64 (.lit 3))],
  [.cells [.slice 4 0 1 (.rest 5), .slice 5 0 6 (.rest 3)] 25,
   .cells [.int .i64 (.lit (-1)), .int .i64 (.lit 0), .bool (.lit false), .int .i64 (.lit 0), .nils, .nils] 51,
   .cells [.int .i64 (.atm 3), .int .i64 (.atm 4), .int .i64 (.atm 5)] 3,
   .map [(.int .i64 (.lit 0), .int .i64 (.lit 1), 0), (.int .i64 (.lit 3), .int .i64 (.lit 1), 0), (.int .i64 (.lit 5), .int .i64 (.lit 1), 0)] 0,
   .cells [.int .u8 (.lit 5), .str [98], .int .i64 (.lit 6), .str [], .int .i64 (.lit 1)] 75,
   .cells [.str [116, 48], .nils, .nils, .str [116, 49], .nils, .nils, .str [116, 50], .nils, .nils, .str [116, 51], .nils, .nils, .str [116, 52], .nils, .nils, .str [116, 53], .nils, .nils] 79],
  [(.lt (.atm 0) (.lit 0), false), (.lt (.atm 1) (.lit 0), false), (.lt (.atm 1) (.lit 6), true), (.lt (.atm 2) (.lit 0), false), (.lt (.atm 2) (.lit 6), true), (.lt (.atm 3) (.lit 0), false), (.lt (.atm 3) (.lit 6), true), (.lt (.atm 4) (.lit 0), false), (.lt (.atm 4) (.lit 6), true), (.lt (.atm 5) (.lit 0), false), (.lt (.atm 5) (.lit 6), true)], .lit 3⟩
def h88 : Hint := ⟨[], [], 0⟩
def c89 : CS := ⟨6, [(1, .inp 0 [.i64]), (5, .int .i64 (.lit 6)), (8, .ptr 0 0), (9, .slice 1 0 1 (.rest 6)), (10, .slice 2 0 3 (.rest 1)), (11, .map 3), (13, .int .i64 (.lit 3))],
  [.cells [.slice 4 0 1 (.rest 5), .slice 5 0 6 (.rest 3)] 25,
   .cells [.int .i64 (.lit (-1)), .int .i64 (.lit 0), .bool (.lit false), .int .i64 (.lit 0), .nils, .nils] 51,
   .cells [.int .i64 (.atm 3), .int .i64 (.atm 4), .int .i64 (.atm 5)] 3,
   .map [(.int .i64 (.lit 0), .int .i64 (.lit 1), 0), (.int .i64 (.lit 3), .int .i64 (.lit 1), 0), (.int .i64 (.lit 4), .int .i64 (.lit 1), 0)] 0,
   .cells [.int .u8 (.lit 5), .str [98], .int .i64 (.lit 6), .str [], .int .i64 (.lit 1)] 75,
   .cells [.str [116, 48], .nils, .nils, .str [116, 49], .nils, .nils, .str [116, 50], .nils, .nils, .str [116, 51], .nils, .nils, .str [116, 52], .nils, .nils, .str [116, 53], .nils, .nils] 79],
  [(.lt (.atm 0) (.lit 0), false), (.lt (.atm 1) (.lit 0), false), (.lt (.atm 1) (.lit 6), true), (.lt (.atm 2) (.lit 0), false), (.lt (.atm 2) (.lit 6), true), (.lt (.atm 3) (.lit 0), false), (.lt (.atm 3) (.lit 6), true), (.lt (.atm 4) (.lit 0), false), (.lt (.atm 4) (.lit 6), true), (.lt (.atm 5) (.lit 0), false), (.lt (.atm 5) (.lit 6), true)], .lit 3⟩
def h89 : Hint := ⟨[], [], 0⟩
def c90 : CS := ⟨6, [(1, .inp 0 [.i64]), (5, .int .i64 (.lit 6)), (8, .ptr 0 0), (9, .slice 1 0 1 (.rest 6)), (10, .slice 2 0 3 (.rest 1)), (11, .map 3), (13, .int .i64 (.lit 3))],
  [.cells [.slice 4 0 1 (.rest 5), .slice 5 0 6 (.rest 3)] 25,
   .cells [.int .i64 (.lit (-1)), .int .i64 (.lit 0), .bool (.lit false), .int .i64 (.lit 0), .nils, .nils] 51,
   .cells [.int .i64 (.atm 3), .int .i64 (.atm 4), .int .i64 (.atm 5)] 3,
   .map [(.int .i64 (.lit 0), .int .i64 (.lit 1), 0), (.int .i64 (.lit 2), .int .i64 (.lit 1), 0), (.int .i64 (.lit 5), .int .i64 (.lit 1), 0)] 0,
   .cells [.int .u8 (.lit 5), .str [98], .int .i64 (.lit 6), .str [], .int .i64 (.lit 1)] 75,
   .cells [.str [116, 48], .nils, .nils, .str [116, 49], .nils, .nils, .str [116, 50], .nils, .nils, .str [116, 51], .nils, .nils, .str [116, 52], .nils, .nils, .str [116, 53], .nils, .nils] 79],
  [(.lt (.atm 0) (.lit 0), false), (.lt (.atm 1) (.lit 0), false), (.lt (.atm 1) (.lit 6), true), (.lt (.atm 2) (.lit 0), false), (.lt (.atm 2) (.lit 6), true), (.lt (.atm 3) (.lit 0), false), (.lt (.atm 3) (.lit 6), true), (.lt (.atm 4) (.lit 0), false), (.lt (.atm 4) (.lit 6), true), (.lt (.atm 5) (.lit 0), false), (.lt (.atm 5) (.lit 6), true)], .lit 3⟩
def h90 : Hint := ⟨[], [], 0⟩
def c91 : CS := ⟨6, [(1, .inp 0 [.i64]), (5, .int .i64 (.lit 6)), (8, .ptr 0 0), (9, .slice 1 0 1 (.rest 6)), (10, .slice 2 0 3 (.rest 1)), (11, .map 3), (13, .int .i64 (.lit 3))],
  [.cells [.slice 4 0 1 (.rest 5), .slice 5 0 6 (.rest 3)] 25,
   .cells [.int .i64 (.lit (-1)), .int .i64 (.lit 0), .bool (.lit false), .int .i64 (.lit 0), .nils, .nils] 51,
   .cells [.int .i64 (.atm 3), .int .i64 (.atm 4), .int .i64 (.atm 5)] 3,
   .map [(.int .i64 (.lit 0), .int .i64 (.lit 1), 0), (.int .i64 (.lit 2), .int .i64 (.lit 1), 0), (.int .i64 (.lit 4), .int .i64 (.lit 1), 0)] 0,
   .cells [.int .u8 (.lit 5), .str [98], .int .i64 (.lit 6), .str [], .int .i64 (.lit 1)] 75,
   .cells [.str [116, 48], .nils, .nils, .str [116, 49], .nils, .nils, .str [116, 50], .nils, .nils, .str [116, 51], .nils, .nils, .str [116, 52], .nils, .nils, .str [116, 53], .nils, .nils] 79],
  [(.lt (.atm 0) (.lit 0), false), (.lt (.atm 1) (.lit 0), false), (.lt (.atm 1) (.lit 6), true), (.lt (.atm 2) (.lit 0), false), (.lt (.atm 2) (.lit 6), true), (.lt (.atm 3) (.lit 0), false), (.lt (.atm 3) (.lit 6), true), (.lt (.atm 4) (.lit 0), false), (.lt (.atm 4) (.lit 6), true), (.lt (.atm 5) (.lit 0), false), (.lt (.atm 5) (.lit 6), true)], .lit 3⟩
def h91 : Hint := ⟨[], [], 0⟩
def c92 : CS := ⟨6, [(1, .inp 0 [.i64]), (5, .int .i64 (.lit 6)), (8, .ptr 0 0), (9, .slice 1 0 1 (.rest 6)), (10, .slice 2 0 3 (.rest 1)), (11, .map 3), (13, .int .i64 (.lit 3))],
  [.cells [.slice 4 0 1 (.rest 5), .slice 5 0 6 (.rest 3)] 25,
   .cells [.int .i64 (.lit (-1)), .int .i64 (.lit 0), .bool (.lit false), .int .i64 (.lit 0), .nils, .nils] 51,
   .cells [.int .i64 (.atm 3), .int .i64 (.atm 4), .int .i64 (.atm 5)] 3,
   .map [(.int .i64 (.lit 0), .int .i64 (.lit 1), 0), (.int .i64 (.lit 2), .int .i64 (.lit 1), 0), (.int .i64 (.lit 3), .int .i64 (.lit 1), 0)] 0,
   .cells [.int .u8 (.lit 5), .str [98], .int .i64 (.lit 6), .str [], .int .i64 (.lit 1)] 75,
   .cells [.str [116, 48], .nils, .nils, .str [116, 49], .nils, .nils, .str [116, 50], .nils, .nils, .str [116, 51], .nils, .nils, .str [116, 52], .nils, .nils, .str [116, 53], .nils, .nils] 79],
  [(.lt (.atm 0) (.lit 0), false), (.lt (.atm 1) (.lit 0), false), (.lt (.atm 1) (.lit 6), true), (.lt (.atm 2) (.lit 0), false), (.lt (.atm 2) (.lit 6), true), (.lt (.atm 3) (.lit 0), false), (.lt (.atm 3) (.lit 6), true), (.lt (.atm 4) (.lit 0), false), (.lt (.atm 4) (.lit 6), true), (.lt (.atm 5) (.lit 0), false), (.lt (.atm 5) (.lit 6), true)], .lit 3⟩
def h92 : Hint := ⟨[], [], 0⟩
def c93 : CS := ⟨6, [(1, .inp 0 [.i64]), (5, .int .i64 (.lit 6)), (8, .ptr 0 0), (9, .slice 1 0 1 (.rest 6)), (10, .slice 2 0 3 (.rest 1)), (11, .map 3), (13, .int .i64 (.lit 3))],
  [.cells [.slice 4 0 1 (.rest 5), .slice 5 0 6 (.rest 3)] 25,
   .cells [.int .i64 (.lit (-1)), .int .i64 (.lit 0), .bool (.lit false), .int .i64 (.lit 0), .nils, .nils] 51,
   .cells [.int .i64 (.atm 3), .int .i64 (.atm 4), .int .i64 (.atm 5)] 3,
   .map [(.int .i64 (.lit 0), .int .i64 (.lit 1), 0), (.int .i64 (.lit 1), .int .i64 (.lit 1), 0), (.int .i64 (.lit 5), .int .i64 (.lit 1), 0)] 0,
   .cells [.int .u8 (.lit 5), .str [98], .int .i64 (.lit 6), .str [], .int .i64 (.lit 1)] 75,
   .cells [.str [116, 48], .nils, .nils, .str [116, 49], .nils, .nils, .str [116, 50], .nils, .nils, .str [116, 51], .nils, .nils, .str [116, 52], .nils, .nils, .str [116, 53], .nils, .nils] 79],
  [(.lt (.atm 0) (.lit 0), false), (.lt (.atm 1) (.lit 0), false), (.lt (.atm 1) (.lit 6), true), (.lt (.atm 2) (.lit 0), false), (.lt (.atm 2) (.lit 6), true), (.lt (.atm 3) (.lit 0), false), (.lt (.atm 3) (.lit 6), true), (.lt (.atm 4) (.lit 0), false), (.lt (.atm 4) (.lit 6), true), (.lt (.atm 5) (.lit 0), false), (.lt (.atm 5) (.lit 6), true)], .lit 3⟩
def h93 : Hint := ⟨[], [], 0⟩
def c94 : CS := ⟨6, [(1, .inp 0 [.i64]), (5, .int .i64 (.lit 6)), (8, .ptr 0 0), (9, .slice 1 0 1 (.rest 6)), (10, .slice 2 0 3 (.rest 1)), (11, .map 3), (13, .int .i64 (.lit 3))],
  [.cells [.slice 4 0 1 (.rest 5), .slice 5 0 6 (.rest 3)] 25,
   .cells [.int .i64 (.lit (-1)), .int .i64 (.lit 0), .bool (.lit false), .int .i64 (.lit 0), .nils, .nils] 51,
   .cells [.int .i64 (.atm 3), .int .i64 (.atm 4), .int .i64 (.atm 5)] 3,
   .map [(.int .i64 (.lit 0), .int .i64 (.lit 1), 0), (.int .i64 (.lit 1), .int .i64 (.lit 1), 0), (.int .i64 (.lit 4), .int .i64 (.lit 1), 0)] 0,
   .cells [.int .u8 (.lit 5), .str [98], .int .i64 (.lit 6), .str [], .int .i64 (.lit 1)] 75,
   .cells [.str [116, 48], .nils, .nils, .str [116, 49], .nils, .nils, .str [116, 50], .nils, .nils, .str [116, 51], .nils, .nils, .str [116, 52], .nils, .nils, .str [116, 53], .nils, .nils] 79],
  [(.lt (.atm 0) (.lit 0), false), (.lt (.atm 1) (.lit 0), false), (.lt (.atm 1) (.lit 6), true), (.lt (.atm 2) (.lit 0), false), (.lt (.atm 2) (.lit 6), true), (.lt (.atm 3) (.lit 0), false), (.lt (.atm 3) (.lit 6), true), (.lt (.atm 4) (.lit 0), false), (.lt (.atm 4) (.lit 6), true), (.lt (.atm 5) (.lit 0), false), (.lt (.atm 5) (.lit 6), true)], .lit 3⟩
def h94 : Hint := ⟨[], [], 0⟩
def c95 : CS := ⟨6, [(1, .inp 0 [.i64]), (5, .int .i64 (.lit 6)), (8, .ptr 0 0), (9, .slice 1 0 1 (.rest 6)), (10, .slice 2 0 3 (.rest 1)), (11, .map 3), (13, .int .i64 (.lit 3))],
  [.cells [.slice 4 0 1 (.rest 5), .slice 5 0 6 (.rest 3)] 25,
   .cells [.int .i64 (.lit (-1)), .int .i64 (.lit 0), .bool (.lit false), .int .i64 (.lit 0), .nils, .nils] 51,
   .cells [.int .i64 (.atm 3), .int .i64 (.atm 4), .int .i64 (.atm 5)] 3,
   .map [(.int .i64 (.lit 0), .int .i64 (.lit 1), 0), (.int .i64 (.lit 1), .int .i64 (.lit 1), 0), (.int .i64 (.lit 3), .int .i64 (.lit 1), 0)] 0,
   .cells [.int .u8 (.lit 5), .str [98], .int .i64 (.lit 6), .str [], .int .i64 (.lit 1)] 75,
   .cells [.str [116, 48], .nils, .nils, .str [116, 49], .nils, .nils, .str [116, 50], .nils, .nils, .str [116, 51], .nils, .nils, .str [116, 52], .nils, .nils, .str [116, 53], .nils, .nils] 79],
  [(.lt (.atm 0) (.lit 0), false), (.lt (.atm 1) (.lit 0), false), (.lt (.atm 1) (.lit 6), true), (.lt (.atm 2) (.lit 0), false), (.lt (.atm 2) (.lit 6), true), (.lt (.atm 3) (.lit 0), false), (.lt (.atm 3) (.lit 6), true), (.lt (.atm 4) (.lit 0), false), (.lt (.atm 4) (.lit 6), true), (.lt (.atm 5) (.lit 0), false), (.lt (.atm 5) (.lit 6), true)], .lit 3⟩
def h95 : Hint := ⟨[], [], 0⟩
def c96 : CS := ⟨6, [(1, .inp 0 [.i64]), (5, .int .i64 (.lit 6)), (8, .ptr 0 0), (9, .slice 1 0 1 (.rest 6)), (10, .slice 2 0 3 (.rest 1)), (11, .map 3), (13, .int .i64 (.lit 3))],
  [.cells [.slice 4 0 1 (.rest 5), .slice 5 0 6 (.rest 3)] 25,
   .cells [.int .i64 (.lit (-1)), .int .i64 (.lit 0), .bool (.lit false), .int .i64 (.lit 0), .nils, .nils] 51,
   .cells [.int .i64 (.atm 3), .int .i64 (.atm 4), .int .i64 (.atm 5)] 3,
   .map [(.int .i64 (.lit 0), .int .i64 (.lit 1), 0), (.int .i64 (.lit 1), .int .i64 (.lit 1), 0), (.int .i64 (.lit 2), .int .i64 (.lit 1), 0)] 0,
   .cells [.int .u8 (.lit 5), .str [98], .int .i64 (.lit 6), .str [], .int .i64 (.lit 1)] 75,
   .cells [.str [116, 48], .nils, .nils, .str [116, 49], .nils, .nils, .str [116, 50], .nils, .nils, .str [116, 51], .nils, .nils, .str [116, 52], .nils, .nils, .str [116, 53], .nils, .nils] 79],
  [(.lt (.atm 0) (.lit 0), false), (.lt (.atm 1) (.lit 0), false), (.lt (.atm 1) (.lit 6), true), (.lt (.atm 2) (.lit 0), false), (.lt (.atm 2) (.lit 6), true), (.lt (.atm 3) (.lit 0), false), (.lt (.atm 3) (.lit 6), true), (.lt (.atm 4) (.lit 0), false), (.lt (.atm 4) (.lit 6), true), (.lt (.atm 5) (.lit 0), false), (.lt (.atm 5) (.lit 6), true)], .lit 3⟩
def h96 : Hint := ⟨[], [], 0⟩
def c97 : CS := ⟨8, [(1, .inp 0 [.i64]), (5, .int .i64 (.lit 4)), (8, .ptr 0 0), (9, .slice 1 0 1 (.rest 6)), (10, .slice 2 0 4 (.rest 1)), (11, .map 3), (13, .int .i64 (.lit 4))],
  [.cells [.slice 4 0 1 (.rest 5), .slice 5 0 4 (.rest 3)] 25,
   .cells [.int .i64 (.lit (-1)), .int .i64 (.lit 0), .bool (.lit false), .int .i64 (.lit 0), .nils, .nils] 51,
   .cells [.int .i64 (.atm 4), .int .i64 (.atm 5), .int .i64 (.atm 6), .int .i64 (.atm 7)] 3,
   .map [] 0,
   .cells [.int .u8 (.lit 5), .str [98], .int .i64 (.lit 4), .str [], .int .i64 (.lit 1)] 75,
   .cells [.str [116, 48], .nils, .nils, .str [116, 49], .nils, .nils, .str [116, 50], .nils, .nils, .str [116, 51], .nils, .nils] 79],
  [(.lt (.atm 0) (.lit 0), false), (.lt (.atm 1) (.lit 0), false), (.lt (.atm 1) (.lit 4), true), (.lt (.atm 2) (.lit 0), false), (.lt (.atm 2) (.lit 4), true), (.lt (.atm 3) (.lit 0), false), (.lt (.atm 3) (.lit 4), true), (.lt (.atm 4) (.lit 0), false), (.lt (.atm 4) (.lit 4), true), (.lt (.atm 5) (.lit 0), false), (.lt (.atm 5) (.lit 4), true), (.lt (.atm 6) (.lit 0), false), (.lt (.atm 6) (.lit 4), true), (.lt (.atm 7) (.lit 0), false), (.lt (.atm 7) (.lit 4), true)], .lit 0⟩
def h97 : Hint := ⟨[], [], 0⟩
def c98 : CS := ⟨8, [(1, .inp 0 [.i64]), (5, .int .i64 (.lit 5)), (8, .ptr 0 0), (9, .slice 1 0 1 (.rest 6)), (10, .slice 2 0 4 (.rest 1)), (11, .map 3), (13, .int .i64 (.lit 4))],
  [.cells [.slice 4 0 1 (.rest 5), .slice 5 0 5 (.rest 3)] 25,
   .cells [.int .i64 (.lit (-1)), .int .i64 (.lit 0), .bool (.lit false), .int .i64 (.lit 0), .nils, .nils] 51,
   .cells [.int .i64 (.atm 4), .int .i64 (.atm 5), .int .i64 (.atm 6), .int .i64 (.atm 7)] 3,
   .map [(.int .i64 (.lit 4), .int .i64 (.lit 1), 0)] 0,
   .cells [.int .u8 (.lit 5), .str [98], .int .i64 (.lit 5), .str [], .int .i64 (.lit 1)] 75,
   .cells [.str [116, 48], .nils, .nils, .str [116, 49], .nils, .nils, .str [116, 50], .nils, .nils, .str [116, 51], .nils, .nils, .str [116, 52], .nils, .nils] 79],
  [(.lt (.atm 0) (.lit 0), false), (.lt (.atm 1) (.lit 0), false), (.lt (.atm 1) (.lit 5), true), (.lt (.atm 2) (.lit 0), false), (.lt (.atm 2) (.lit 5), true), (.lt (.atm 3) (.lit 0), false), (.lt (.atm 3) (.lit 5), true), (.lt (.atm 4) (.lit 0), false), (.lt (.atm 4) (.lit 5), true), (.lt (.atm 5) (.lit 0), false), (.lt (.atm 5) (.lit 5), true), (.lt (.atm 6) (.lit 0), false), (.lt (.atm 6) (.lit 5), true), (.lt (.atm 7) (.lit 0), false), (.lt (.atm 7) (.lit 5), true)], .lit 1⟩
def h98 : Hint := ⟨[], [], 0⟩
def c99 : CS := ⟨8, [(1, .inp 0 [.i64]), (5, .int .i64 (.lit 5)), (8, .ptr 0 0), (9, .slice 1 0 1 (.rest 6)), (10, .slice 2 0 4 (.rest 1)), (11, .map 3), (13, .int .i64 (.lit 4))],
  [.cells [.slice 4 0 1 (.rest 5), .slice 5 0 5 (.rest 3)] 25,
   .cells [.int .i64 (.lit (-1)), .int .i64 (.lit 0), .bool (.lit false), .int .i64 (.lit 0), .nils, .nils] 51,
   .cells [.int .i64 (.atm 4), .int .i64 (.atm 5), .int .i64 (.atm 6), .int .i64 (.atm 7)] 3,
   .map [(.int .i64 (.lit 3), .int .i64 (.lit 1), 0)] 0,
   .cells [.int .u8 (.lit 5), .str [98], .int .i64 (.lit 5), .str [], .int .i64 (.lit 1)] 75,
   .cells [.str [116, 48], .nils, .nils, .str [116, 49], .nils, .nils, .str [116, 50], .nils, .nils, .str [116, 51], .nils, .nils, .str [116, 52], .nils, .nils] 79],
  [(.lt (.atm 0) (.lit 0), false), (.lt (.atm 1) (.lit 0), false), (.lt (.atm 1) (.lit 5), true), (.lt (.atm 2) (.lit 0), false), (.lt (.atm 2) (.lit 5), true), (.lt (.atm 3) (.lit 0), false), (.lt (.atm 3) (.lit 5), true), (.lt (.atm 4) (.lit 0), false), (.lt (.atm 4) (.lit 5), true), (.lt (.atm 5) (.lit 0), false), (.lt (.atm 5) (.lit 5), true), (.lt (.atm 6) (.lit 0), false), (.lt (.atm 6) (.lit 5), true), (.lt (.atm 7) (.lit 0), false), (.lt (.atm 7) (.lit 5), true)], .lit 1⟩
def h99 : Hint := ⟨[], [], 0⟩
def c100 : CS := ⟨8, [(1, .inp 0 [.i64]), (5, .int .i64 (.lit 5)), (8, .ptr 0 0), (9, .slice 1 0 1 (.rest 6)), (10, .slice 2 0 4 (.rest 1)), (11, .map 3), (13, .int .i64 (.lit 4))],
  [.cells [.slice 4 0 1 (.rest 5), .slice 5 0 5 (.rest 3)] 25,
   .cells [.int .i64 (.lit (-1)), .int .i64 (.lit 0), .bool (.lit false), .int .i64 (.lit 0), .nils, .nils] 51,
   .cells [.int .i64 (.atm 4), .int .i64 (.atm 5), .int .i64 (.atm 6), .int .i64 (.atm 7)] 3,
   .map [(.int .i64 (.lit 2), .int .i64 (.lit 1), 0)] 0,
   .cells [.int .u8 (.lit 5), .str [98], .int .i64 (.lit 5), .str [], .int .i64 (.lit 1)] 75,
   .cells [.str [116, 48], .nils, .nils, .str [116, 49], .nils, .nils, .str [116, 50], .nils, .nils, .str [116, 51], .nils, .nils, .str [116, 52], .nils, .nils] 79],
  [(.lt (.atm 0) (.lit 0), false), (.lt (.atm 1) (.lit 0), false), (.lt (.atm 1) (.lit 5), true), (.lt (.atm 2) (.lit 0), false), (.lt (.atm 2) (.lit 5), true), (.lt (.atm 3) (.lit 0), false), (.lt (.atm 3) (.lit 5), true), (.lt (.atm 4) (.lit 0), false), (.lt (.atm 4) (.lit 5), true), (.lt (.atm 5) (.lit 0), false), (.lt (.atm 5) (.lit 5), true), (.lt (.atm 6) (.lit 0), false), (.lt (.atm 6) (.lit 5), true), (.lt (.atm 7) (.lit 0), false), (.lt (.atm 7) (.lit 5), true)], .lit 1⟩
def h100 : Hint := ⟨[], [], 0⟩
def c101 : CS := ⟨8, [(1, .inp 0 [.i64]), (5, .int .i64 (.lit 5)), (8, .ptr 0 0), (9, .slice 1 0 1 (.rest 6)), (10, .slice 2 0 4 (.rest 1)), (11, .map 3), (13, .int .i64 (.lit 4))],
  [.cells [.slice 4 0 1 (.rest 5), .slice 5 0 5 (.rest 3)] 25,
   .cells [.int .i64 (.lit (-1)), .int .i64 (.lit 0), .bool (.lit false), .int .i64 (.lit 0), .nils, .nils] 51,
   .cells [.int .i64 (.atm 4), .int .i64 (.atm 5), .int .i64 (.atm 6), .int .i64 (.atm 7)] 3,
   .map [(.int .i64 (.lit 1), .int .i64 (.lit 1), 0)] 0,
   .cells [.int .u8 (.lit 5), .str [98], .int .i64 (.lit 5), .str [], .int .i64 (.lit 1)] 75,
   .cells [.str [116, 48], .nils, .nils, .str [116, 49], .nils, .nils, .str [116, 50], .nils, .nils, .str [116, 51], .nils, .nils, .str [116, 52], .nils, .nils] 79],
  [(.lt (.atm 0) (.lit 0), false), (.lt (.atm 1) (.lit 0), false), (.lt (.atm 1) (.lit 5), true), (.lt (.atm 2) (.lit 0), false), (.lt (.atm 2) (.lit 5), true), (.lt (.atm 3) (.lit 0), false), (.lt (.atm 3) (.lit 5), true), (.lt (.atm 4) (.lit 0), false), (.lt (.atm 4) (.lit 5), true), (.lt (.atm 5) (.lit 0), false), (.lt (.atm 5) (.lit 5), true), (.lt (.atm 6) (.lit 0), false), (.lt (.atm 6) (.lit 5), true), (.lt (.atm 7) (.lit 0), false), (.lt (.atm 7) (.lit 5), true)], .lit 1⟩
def h101 : Hint := ⟨[], [], 0⟩
def c102 : CS := ⟨8, [(1, .inp 0 [.i64]), (5, .int .i64 (.lit 5)), (8, .ptr 0 0), (9, .slice 1 0 1 (.rest 6)), (10, .slice 2 0 4 (.rest 1)), (11, .map 3), (13, .int .i64 (.lit 4))],
  [.cells [.slice 4 0 1 (.rest 5), .slice 5 0 5 (.rest 3)] 25,
   .cells [.int .i64 (.lit (-1)), .int .i64 (.lit 0), .bool (.lit false), .int .i64 (.lit 0), .nils, .nils] 51,
   .cells [.int .i64 (.atm 4), .int .i64 (.atm 5), .int .i64 (.atm 6), .int .i64 (.atm 7)] 3,
   .map [(.int .i64 (.lit 0), .int .i64 (.lit 1), 0)] 0,
   .cells [.int .u8 (.lit 5), .str [98], .int .i64 (.lit 5), .str [], .int .i64 (.lit 1)] 75,
   .cells [.str [116, 48], .nils, .nils, .str [116, 49], .nils, .nils, .str [116, 50], .nils, .nils, .str [116, 51], .nils, .nils, .str [116, 52], .nils, .nils] 79],
  [(.lt (.atm 0) (.lit 0), false), (.lt (.atm 1) (.lit 0), false), (.lt (.atm 1) (.lit 5), true), (.lt (.atm 2) (.lit 0), false), (.lt (.atm 2) (.lit 5), true), (.lt (.atm 3) (.lit 0), false), (.lt (.atm 3) (.lit 5), true), (.lt (.atm 4) (.lit 0), false), (.lt (.atm 4) (.lit 5), true), (.lt (.atm 5) (.lit 0), false), (.lt (.atm 5) (.lit 5), true), (.lt (.atm 6) (.lit 0), false), (.lt (.atm 6) (.lit 5), true), (.lt (.atm 7) (.lit 0), false), (.lt (.atm 7) (.lit 5), true)], .lit 1⟩
def h102 : Hint := ⟨[], [], 0⟩
def c103 : CS := ⟨8, [(1, .inp 0 [.i64]), (5, .int .i64 (.lit 6)), (8, .ptr 0 0), (9, .slice 1 0 1 (.rest 6)), (10, .slice 2 0 4 (.rest 1)), (11, .map 3), (13, .int .i64 (.lit 4))],
  [.cells [.slice 4 0 1 (.rest 5), .slice 5 0 6 (.rest 3)] 25,
   .cells [.int .i64 (.lit (-1)), .int .i64 (.lit 0), .bool (.lit false), .int .i64 (.lit 0), .nils, .nils] 51,
   .cells [.int .i64 (.atm 4), .int .i64 (.atm 5), .int .i64 (.atm 6), .int .i64 (.atm 7)] 3,
   .map [(.int .i64 (.lit 4), .int .i64 (.lit 1), 0), (.int .i64 (.lit 5), .int .i64 (.lit 1), 0)] 0,
   .cells [.int .u8 (.lit 5), .str [98], .int .i64 (.lit 6), .str [], .int .i64 (.lit 1)] 75,
   .cells [.str [116, 48], .nils, .nils, .str [116, 49], .nils, .nils, .str [116, 50], .nils, .nils, .str [116, 51], .nils, .nils, .str [116, 52], .nils, .nils, .str [116, 53], .nils, .nils] 79],
  [(.lt (.atm 0) (.lit 0), false), (.lt (.atm 1) (.lit 0), false), (.lt (.atm 1) (.lit 6), true), (.lt (.atm 2) (.lit 0), false), (.lt (.atm 2) (.lit 6), true), (.lt (.atm 3) (.lit 0), false), (.lt (.atm 3) (.lit 6), true), (.lt (.atm 4) (.lit 0), false), (.lt (.atm 4) (.lit 6), true), (.lt (.atm 5) (.lit 0), false), (.lt (.atm 5) (.lit 6), true), (.lt (.atm 6) (.lit 0), false), (.lt (.atm 6) (.lit 6), true), (.lt (.atm 7) (.lit 0), false), (.lt (.atm 7) (.lit 6), true)], .lit 2⟩
def h103 : Hint := ⟨[], [], 0⟩
def c104 : CS := ⟨8, [(1, .inp 0 [.i64]), (5, .int .i64 (.lit 6)), (8, .ptr 0 0), (9, .slice 1 0 1 (.rest 6)), (10, .slice 2 0 4 (.rest 1)), (11, .map 3), (13, .int .i64 (.lit 4))],
  [.cells [.slice 4 0 1 (.rest 5), .slice 5 0 6 (.rest 3)] 25,
   .cells [.int .i64 (.lit (-1)), .int .i64 (.lit 0), .bool (.lit false), .int .i64 (.lit 0), .nils, .nils] 51,
   .cells [.int .i64 (.atm 4), .int .i64 (.atm 5), .int .i64 (.atm 6), .int .i64 (.atm 7)] 3,
   .map [(.int .i64 (.lit 3), .int .i64 (.lit 1), 0), (.int .i64 (.lit 5), .int .i64 (.lit 1), 0)] 0,
   .cells [.int .u8 (.lit 5), .str [98], .int .i64 (.lit 6), .str [], .int .i64 (.lit 1)] 75,
   .cells [.str [116, 48], .nils, .nils, .str [116, 49], .nils, .nils, .str [116, 50], .nils, .nils, .str [116, 51], .nils, .nils, .str [116, 52], .nils, .nils, .str [116, 53], .nils, .nils] 79],
  [(.lt (.atm 0) (.lit 0), false), (.lt (.atm 1) (.lit 0), false), (.lt (.atm 1) (.lit 6), true), (.lt (.atm 2) (.lit 0), false), (.lt (.atm 2) (.lit 6), true), (.lt (.atm 3) (.lit 0), false), (.lt (.atm 3) (.lit 6), true), (.lt (.atm 4) (.lit 0), false), (.lt (.atm 4) (.lit 6), true), (.lt (.atm 5) (.lit 0), false), (.lt (.atm 5) (.lit 6), true), (.lt (.atm 6) (.lit 0), false), (.lt (.atm 6) (.lit 6), true), (.lt (.atm 7) (.lit 0), false), (.lt (.atm 7) (.lit 6), true)], .lit 2⟩
def h104 : Hint := ⟨[], [], 0⟩
def c105 : CS := ⟨8, [(1, .inp 0 [.i64]), (5, .int .i64 (.lit 6)), (8, .ptr 0 0), (9, .slice 1 0 1 (.rest 6)), (10, .slice 2 0 4 (.rest 1)), (11, .map 3), (13, .int .i64 (.lit 4))],
  [.cells [.slice 4 0 1 (.rest 5), .slice 5 0 6 (.rest 3)] 25,
   .cells [.int .i64 (.lit (-1)), .int .i64 (.lit 0), .bool (.lit false), .int .i64 (.lit 0), .nils, .nils] 51,
   .cells [.int .i64 (.atm 4), .int .i64 (.atm 5), .int .i64 (.atm 6), .int .i64 (.atm 7)] 3,
   .map [(.int .i64 (.lit 3), .int .i64 (.lit 1), 0), (.int .i64 (.lit 4), .int .i64 (.lit 1), 0)] 0,
   .cells [.int .u8 (.lit 5), .str [98], .int .i64 (.lit 6), .str [], .int .i64 (.lit 1)] 75,
   .cells [.str [116, 48], .nils, .nils, .str [116, 49], .nils, .nils, .str [116, 50], .nils, .nils, .str [116, 51], .nils, .nils, .str [116, 52], .nils, .nils, .str [116, 53], .nils, .nils] 79],
  [(.lt (.atm 0) (.lit 0), false), (.lt (.atm 1) (.lit 0), false), (.lt (.atm 1) (.lit 6), true), (.lt (.atm 2) (.lit 0), false), (.lt (.atm 2) (.lit 6), true), (.lt (.atm 3) (.lit 0), false), (.lt (.atm 3) (.lit 6), true), (.lt (.atm 4) (.lit 0), false), (.lt (.atm 4) (.lit 6), true), (.lt (.atm 5) (.lit 0), false), (.lt (.atm 5) (.lit 6), true), (.lt (.atm 6) (.lit 0), false), (.lt (.atm 6) (.lit 6), true), (.lt (.atm 7) (.lit 0), false), (.lt (.atm 7) (.lit 6), true)], .lit 2⟩
def h105 : Hint := ⟨[], [], 0⟩
def c106 : CS := ⟨8, [(1, .inp 0 [.i64]), (5, .int .i64 (.lit 6)), (8, .ptr 0 0), (9, .slice 1 0 1 (.rest 6)), (10, .slice 2 0 4 (.rest 1)), (11, .map 3), (13, .int .i64 (.lit 4))],
  [.cells [.slice 4 0 1 (.rest 5), .slice 5 0 6 (.rest 3)] 25,
   .cells [.int .i64 (.lit (-1)), .int .i64 (.lit 0), .bool (.lit false), .int .i64 (.lit 0), .nils, .nils] 51,
   .cells [.int .i64 (.atm 4), .int .i64 (.atm 5), .int .i64 (.atm 6), .int .i64 (.atm 7)] 3,
   .map [(.int .i64 (.lit 2), .int .i64 (.lit 1), 0), (.int .i64 (.lit 5), .int .i64 (.lit 1), 0)] 0,
   .cells [.int .u8 (.lit 5), .str [98], .int .i64 (.lit 6), .str [], .int .i64 (.lit 1)] 75,
   .cells [.str [116, 48], .nils, .nils, .str [116, 49], .nils, .nils, .str [116, 50], .nils, .nils, .str [116, 51], .nils, .nils, .str [116, 52], .nils, .nils, .str [116, 53], .nils, .nils] 79],
  [(.lt (.atm 0) (.lit 0), false), (.lt (.atm 1) (.lit 0), false), (.lt (.atm 1) (.lit 6), true), (.lt (.atm 2) (.lit 0), false), (.lt (.atm 2) (.lit 6), true), (.lt (.atm 3) (.lit 0), false), (.lt (.atm 3) (.lit 6), true), (.lt (.atm 4) (.lit 0), false), (.lt (.atm 4) (.lit 6), true), (.lt (.atm 5) (.lit 0), false), (.lt (.atm 5) (.lit 6), true), (.lt (.atm 6) (.lit 0), false), (.lt (.atm 6) (.lit 6), true), (.lt (.atm 7) (.lit 0), false), (.lt (.atm 7) (.lit 6), true)], .lit 2⟩
def h106 : Hint := ⟨[], [], 0⟩
def c107 : CS := ⟨8, [(1, .inp 0 [.i64]), (5, .int .i64 (.lit 6)), (8, .ptr 0 0), (9, .slice 1 0 1 (.rest 6)), (10, .slice 2 0 4 (.rest 1)), (11, .map 3), (13, .int .i64 (.lit 4))],
  [.cells [.slice 4 0 1 (.rest 5), .slice 5 0 6 (.rest 3)] 25,
   .cells [.int .i64 (.lit (-1)), .int .i64 (.lit 0), .bool (.lit false), .int .i64 (.lit 0), .nils, .nils] 51,
   .cells [.int .i64 (.atm 4), .int .i64 (.atm 5), .int .i64 (.atm 6), .int .i64 (.atm 7)] 3,
   .map [(.int .i64 (.lit 2), .int .i64 (.lit 1), 0), (.int .i64 (.lit 4), .int .i64 (.lit 1), 0)] 0,
   .cells [.int .u8 (.lit 5), .str [98], .int .i64 (.lit 6), .str [], .int .i64 (.lit 1)] 75,
   .cells [.str [116, 48], .nils, .nils, .str [116, 49], .nils, .nils, .str [116, 50], .nils, .nils, .str [116, 51], .nils, .nils, .str [116, 52], .nils, .nils, .str [116, 53], .nils, .nils] 79],
  [(.lt (.atm 0) (.lit 0), false), (.lt (.atm 1) (.lit 0), false), (.lt (.atm 1) (.lit 6), true), (.lt (.atm 2) (.lit 0), false), (.lt (.atm 2) (.lit 6), true), (.lt (.atm 3) (.lit 0), false), (.lt (.atm 3) (.lit 6), true), (.lt (.atm 4) (.lit 0), false), (.lt (.atm 4) (.lit 6), true), (.lt (.atm 5) (.lit 0), false), (.lt (.atm 5) (.lit 6), true), (.lt (.atm 6) (.lit 0), false), (.lt (.atm 6) (.lit 6), true), (.lt (.atm 7) (.lit 0), false), (.lt (.atm 7) (.lit 6), true)], .lit 2⟩
def h107 : Hint := ⟨[], [], 0⟩
def c108 : CS := ⟨8, [(1, .inp 0 [.i64]), (5, .int .i64 (.lit 6)), (8, .ptr 0 0), (9, .slice 1 0 1 (.rest 6)), (10, .slice 2 0 4 (.rest 1)), (11, .map 3), (13, .int .i64 (.lit 4))],
  [.cells [.slice 4 0 1 (.rest 5), .slice 5 0 6 (.rest 3)] 25,
   .cells [.int .i64 (.lit (-1)), .int .i64 (.lit 0), .bool (.lit false), .int .i64 (.lit 0), .nils, .nils] 51,
   .cells [.int .i64 (.atm 4), .int .i64 (.atm 5), .int .i64 (.atm 6), .int .i64 (.atm 7)] 3,
   .map [(.int .i64 (.lit 2), .int .i64 (.lit 1), 0), (.int .i64 (.lit 3), .int .i64 (.lit 1), 0)] 0,
   .cells [.int .u8 (.lit 5), .str [98], .int .i64 (.lit 6), .str [], .int .i64 (.lit 1)] 75,
   .cells [.str [116, 48], .nils, .nils, .str [116, 49], .nils, .nils, .str [116, 50], .nils, .nils, .str [116, 51], .nils, .nils, .str [116, 52], .nils, .nils, .str [116, 53], .nils, .nils] 79],
  [(.lt (.atm 0) (.lit 0), false), (.lt (.atm 1) (.lit 0), false), (.lt (.atm 1) (.lit 6), true), (.lt (.atm 2) (.lit 0), false), (.lt (.atm 2) (.lit 6), true), (.lt (.atm 3) (.lit 0), false), (.lt (.atm 3) (.lit 6), true), (.lt (.atm 4) (.lit 0), false), (.lt (.atm 4) (.lit 6), true), (.lt (.atm 5) (.lit 0), false), (.lt (.atm 5) (.lit 6), true), (.lt (.atm 6) (.lit 0), false), (.lt (.atm 6) (.lit 6), true), (.lt (.atm 7) (.lit 0), false), (.lt (.atm 7) (.lit 6), true)], .lit 2⟩
def h108 : Hint := ⟨[], [], 0⟩
def c109 : CS := ⟨8, [(1, .inp 0 [.i64]), (5, .int .i64 (.lit 6)), (8, .ptr 0 0), (9, .slice 1 0 1 (.rest 6)), (10, .slice 2 0 4 (.rest 1)), (11, .map 3), (13, .int .i64 (.lit 4))],
  [.cells [.slice 4 0 1 (.rest 5), .slice 5 0 6 (.rest 3)] 25,
   .cells [.int .i64 (.lit (-1)), .int .i64 (.lit 0), .bool (.lit false), .int .i64 (.lit 0), .nils, .nils] 51,
   .cells [.int .i64 (.atm 4), .int .i64 (.atm 5), .int .i64 (.atm 6), .int .i64 (.atm 7)] 3,
   .map [(.int .i64 (.lit 1), .int .i64 (.lit 1), 0), (.int .i64 (.lit 5), .int .i64 (.lit 1), 0)] 0,
   .cells [.int .u8 (.lit 5), .str [98], .int .i64 (.lit 6), .str [], .int .i64 (.lit 1)] 75,
   .cells [.str [116, 48], .nils, .nils, .str [116, 49], .nils, .nils, .str [116, 50], .nils, .nils, .str [116, 51], .nils, .nils, .str [116, 52], .nils, .nils, .str [116, 53], .nils, .nils] 79],
  [(.lt (.atm 0) (.lit 0), false), (.lt (.atm 1) (.lit 0), false), (.lt (.atm 1) (.lit 6), true), (.lt (.atm 2) (.lit 0), false), (.lt (.atm 2) (.lit 6), true), (.lt (.atm 3) (.lit 0), false), (.lt (.atm 3) (.lit 6), true), (.lt (.atm 4) (.lit 0), false), (.lt (.atm 4) (.lit 6), true), (.lt (.atm 5) (.lit 0), false), (.lt (.atm 5) (.lit 6), true), (.lt (.atm 6) (.lit 0), false), (.lt (.atm 6) (.lit 6), true), (.lt (.atm 7) (.lit 0), false), (.lt (.atm 7) (.lit 6), true)], .lit 2⟩
def h109 : Hint := ⟨[], [], 0⟩
def c110 : CS := ⟨8, [(1, .inp 0 [.i64]), (5, .int .i64 (.lit 6)), (8, .ptr 0 0), (9, .slice 1 0 1 (.rest 6)), (10, .slice 2 0 4 (.rest 1)), (11, .map 3), (13, .int .i64 (.lit 4))],
  [.cells [.slice 4 0 1 (.rest 5), .slice 5 0 6 (.rest 3)] 25,
   .cells [.int .i64 (.lit (-1)), .int .i64 (.lit 0), .bool (.lit false), .int .i64 (.lit 0), .nils, .nils] 51,
   .cells [.int .i64 (.atm 4), .int .i64 (.atm 5), .int .i64 (.atm 6), .int .i64 (.atm 7)] 3,
   .map [(.int .i64 (.lit 1), .int .i64 (.lit 1), 0), (.int .i64 (.lit 4), .int .i64 (.lit 1), 0)] 0,
   .cells [.int .u8 (.lit 5), .str [98], .int .i64 (.lit 6), .str [], .int .i64 (.lit 1)] 75,
   .cells [.str [116, 48], .nils, .nils, .str [116, 49], .nils, .nils, .str [116, 50], .nils, .nils, .str [116, 51], .nils, .nils, .str [116, 52], .nils, .nils, .str [116, 53], .nils, .nils] 79],
  [(.lt (.atm 0) (.lit 0), false), (.lt (.atm 1) (.lit 0), false), (.lt (.atm 1) (.lit 6), true), (.lt (.atm 2) (.lit 0), false), (.lt (.atm 2) (.lit 6), true), (.lt (.atm 3) (.lit 0), false), (.lt (.atm 3) (.lit 6), true), (.lt (.atm 4) (.lit 0), false), (.lt (.atm 4) (.lit 6), true), (.lt (.atm 5) (.lit 0), false), (.lt (.atm 5) (.lit 6), true), (.lt (.atm 6) (.lit 0), false), (.lt (.atm 6) (.lit 6), true), (.lt (.atm 7) (.lit 0), false), (.lt (.atm 7) (.lit 6), true)], .lit 2⟩
def h110 : Hint := ⟨[], [], 0⟩
def c111 : CS := ⟨8, [(1, .inp 0 [.i64]), (5, .int .i64 (.lit 6)), (8, .ptr 0 0), (9, .slice 1 0 1 (.rest 6)), (10, .slice 2 0 4 (.rest 1)), (11, .map 3), (13, .int .i64 (.lit 4))],
  [.cells [.slice 4 0 1 (.rest 5), .slice 5 0 6 (.rest 3)] 25,
   .cells [.int .i64 (.lit (-1)), .int .i64 (.lit 0), .bool (.lit false), .int .i64 (.lit 0), .nils, .nils] 51,
   .cells [.int .i64 (.atm 4), .int .i64 (.atm 5), .int .i64 (.atm 6), .int .i64 (.atm 7)] 3,
   .map [(.int .i64 (.lit 1), .int .i64 (.lit 1), 0), (.int .i64 (.lit 3), .int .i64 (.lit 1), 0)] 0,
   .cells [.int .u8 (.lit 5), .str [98], .int .i64 (.lit 6), .str [], .int .i64 (.lit 1)] 75,
   .cells [.str [116, 48], .nils, .nils, .str [116, 49], .nils, .nils, .str [116, 50], .nils, .nils, .str [116, 51], .nils, .nils, .str [116, 52], .nils, .nils, .str [116, 53], .nils, .nils] 79],
  [(.lt (.atm 0) (.lit 0), false), (.lt (.atm 1) (.lit 0), false), (.lt (.atm 1) (.lit 6), true), (.lt (.atm 2) (.lit 0), false), (.lt (.atm 2) (.lit 6), true), (.lt (.atm 3) (.lit 0), false), (.lt (.atm 3) (.lit 6), true), (.lt (.atm 4) (.lit 0), false), (.lt (.atm 4) (.lit 6), true), (.lt (.atm 5) (.lit 0), false), (.lt (.atm 5) (.lit 6), true), (.lt (.atm 6) (.lit 0), false), (.lt (.atm 6) (.lit 6), true), (.lt (.atm 7) (.lit 0), false), (.lt (.atm 7) (.lit 6), true)], .lit 2⟩
def h111 : Hint := ⟨[], [], 0⟩
def c112 : CS := ⟨8, [(1, .inp 0 [.i64]), (5, .int .i64 (.lit 6)), (8, .ptr 0 0), (9, .slice 1 0 1 (.rest 6)), (10, .slice 2 0 4 (.rest 1)), (11, .map 3), (13, .int .i64 (.lit 4))],
  [.cells [.slice 4 0 1 (.rest 5), .slice 5 0 6 (.rest 3)] 25,
   .cells [.int .i64 (.lit (-1)), .int .i64 (.lit 0), .bool (.lit false), .int .i64 (.lit 0), .nils, .nils] 51,
   .cells [.int .i64 (.atm 4), .int .i64 (.atm 5), .int .i64 (.atm 6), .int .i64 (.atm 7)] 3,
   .map [(.int .i64 (.lit 1), .int .i64 (.lit 1), 0), (.int .i64 (.lit 2), .int .i64 (.lit 1), 0)] 0,
   .cells [.int .u8 (.lit 5), .str [98], .int .i64 (.lit 6), .str [], .int .i64 (.lit 1)] 75,
   .cells [.str [116, 48], .nils, .nils, .str [116, 49], .nils, .nils, .str [116, 50], .nils, .nils, .str [116, 51], .nils, .nils, .str [116, 52], .nils, .nils, .str [116, 53], .nils, .nils] 79],
  [(.lt (.atm 0) (.lit 0), false), (.lt (.atm 1) (.lit 0), false), (.lt (.atm 1) (.lit 6), true), (.lt (.atm 2) (.lit 0), false), (.lt (.atm 2) (.lit 6), true), (.lt (.atm 3) (.lit 0), false), (.lt (.atm 3) (.lit 6), true), (.lt (.atm 4) (.lit 0), false), (.lt (.atm 4) (.lit 6), true), (.lt (.atm 5) (.lit 0), false), (.lt (.atm 5) (.lit 6), true), (.lt (.atm 6) (.lit 0), false), (.lt (.atm 6) (.lit 6), true), (.lt (.atm 7) (.lit 0), false), (.lt (.atm 7) (.lit 6), true)], .lit 2⟩
def h112 : Hint := ⟨[], [], 0⟩
def c113 : CS := ⟨8, [(1, .inp 0 [.i64]), (5, .int .i64 (.lit 6)), (8, .ptr 0 0), (9, .slice 1 0 1 (.rest 6)), (10, .slice 2 0 4 (.rest 1)), (11, .map 3), (13, .int .i64 (.lit 4))],
  [.cells [.slice 4 0 1 (.rest 5), .slice 5 0 6 (.rest 3)] 25,
   .cells [.int .i64 (.lit (-1)), .int .i64 (.lit 0), .bool (.lit false), .int .i64 (.lit 0), .nils, .nils] 51,
   .cells [.int .i64 (.atm 4), .int .i64 (.atm 5), .int .i64 (.atm 6), .int .i64 (.atm 7)] 3,
   .map [(.int .i64 (.lit 0), .int .i64 (.lit 1), 0), (.int .i64 (.lit 5), .int .i64 (.lit 1), 0)] 0,
   .cells [.int .u8 (.lit 5), .str [98], .int .i64 (.lit 6), .str [], .int .i64 (.lit 1)] 75,
   .cells [.str [116, 48], .nils, .nils, .str [116, 49], .nils, .nils, .str [116, 50], .nils, .nils, .str [116, 51], .nils, .nils, .str [116, 52], .nils, .nils, .str [116, 53], .nils, .nils] 79],
  [(.lt (.atm 0) (.lit 0), false), (.lt (.atm 1) (.lit 0), false), (.lt (.atm 1) (.lit 6), true), (.lt (.atm 2) (.lit 0), false), (.lt (.atm 2) (.lit 6), true), (.lt (.atm 3) (.lit 0), false), (.lt (.atm 3) (.lit 6), true), (.lt (.atm 4) (.lit 0), false), (.lt (.atm 4) (.lit 6), true), (.lt (.atm 5) (.lit 0), false), (.lt (.atm 5) (.lit 6), true), (.lt (.atm 6) (.lit 0), false), (.lt (.atm 6) (.lit 6), true), (.lt (.atm 7) (.lit 0), false), (.lt (.atm 7) (.lit 6), true)], .lit 2⟩
def h113 : Hint := ⟨[], [], 0⟩
def c114 : CS := ⟨8, [(1, .inp 0 [.i64]), (5, .int .i64 (.lit 6)), (8, .ptr 0 0), (9, .slice 1 0 1 (.rest 6)), (10, .slice 2 0 4 (.rest 1)), (11, .map 3), (13, .int .i64 (.lit 4))],
  [.cells [.slice 4 0 1 (.rest 5), .slice 5 0 6 (.rest 3)] 25,
   .cells [.int .i64 (.lit (-1)), .int .i64 (.lit 0), .bool (.lit false), .int .i64 (.lit 0), .nils, .nils] 51,
   .cells [.int .i64 (.atm 4), .int .i64 (.atm 5), .int .i64 (.atm 6), .int .i64 (.atm 7)] 3,
   .map [(.int .i64 (.lit 0), .int .i64 (.lit 1), 0), (.int .i64 (.lit 4), .int .i64 (.lit 1), 0)] 0,
   .cells [.int .u8 (.lit 5), .str [98], .int .i64 (.lit 6), .str [], .int .i64 (.lit 1)] 75,
   .cells [.str [116, 48], .nils, .nils, .str [116, 49], .nils, .nils, .str [116, 50], .nils, .nils, .str [116, 51], .nils, .nils, .str [116, 52], .nils, .nils, .str [116, 53], .nils, .nils] 79],
  [(.lt (.atm 0) (.lit 0), false), (.lt (.atm 1) (.lit 0), false), (.lt (.atm 1) (.lit 6), true), (.lt (.atm 2) (.lit 0), false), (.lt (.atm 2) (.lit 6), true), (.lt (.atm 3) (.lit 0), false), (.lt (.atm 3) (.lit 6), true), (.lt (.atm 4) (.lit 0), false), (.lt (.atm 4) (.lit 6), true), (.lt (.atm 5) (.lit 0), false), (.lt (.atm 5) (.lit 6), true), (.lt (.atm 6) (.lit 0), false), (.lt (.atm 6) (.lit 6), true), (.lt (.atm 7) (.lit 0), false), (.lt (.atm 7) (.lit 6), true)], .lit 2⟩
def h114 : Hint := ⟨[], [], 0⟩
def c115 : CS := ⟨8, [(1, .inp 0 [.i64]), (5, .int .i64 (.lit 6)), (8, .ptr 0 0), (9, .slice 1 0 1 (.rest 6)), (10, .slice 2 0 4 (.rest 1)), (11, .map 3), (13, .int .i64 (.lit 4))],
  [.cells [.slice 4 0 1 (.rest 5), .slice 5 0 6 (.rest 3)] 25,
   .cells [.int .i64 (.lit (-1)), .int .i64 (.lit 0), .bool (.lit false), .int .i64 (.lit 0), .nils, .nils] 51,
   .cells [.int .i64 (.atm 4), .int .i64 (.atm 5), .int .i64 (.atm 6), .int .i64 (.atm 7)] 3,
   .map [(.int .i64 (.lit 0), .int .i64 (.lit 1), 0), (.int .i64 (.lit 3), .int .i64 (.lit 1), 0)] 0,
   .cells [.int .u8 (.lit 5), .str [98], .int .i64 (.lit 6), .str [], .int .i64 (.lit 1)] 75,
   .cells [.str [116, 48], .nils, .nils, .str [116, 49], .nils, .nils, .str [116, 50], .nils, .nils, .str [116, 51], .nils, .nils, .str [116, 52], .nils, .nils, .str [116, 53], .nils, .nils] 79],
  [(.lt (.atm 0) (.lit 0), false), (.lt (.atm 1) (.lit 0), false), (.lt (.atm 1) (.lit 6), true), (.lt (.atm 2) (.lit 0), false), (.lt (.atm 2) (.lit 6), true), (.lt (.atm 3) (.lit 0), false), (.lt (.atm 3) (.lit 6), true), (.lt (.atm 4) (.lit 0), false), (.lt (.atm 4) (.lit 6), true), (.lt (.atm 5) (.lit 0), false), (.lt (.atm 5) (.lit 6), true), (.lt (.atm 6) (.lit 0), false), (.lt (.atm 6) (.lit 6), true), (.lt (.atm 7) (.lit 0), false), (.lt (.atm 7) (.lit 6), true)], .lit 2⟩
def h115 : Hint := ⟨[], [], 0⟩
def c116 : CS := ⟨8, [(1, .inp 0 [.i64]), (5, .int .i64 (.lit 6)), (8, .ptr 0 0), (9, .slice 1 0 1 (.rest 6)), (10, .slice 2 0 4 (.rest 1)), (11, .map 3), (13, .int .i64 (.lit 4))],
  [.cells [.slice 4 0 1 (.rest 5), .slice 5 0 6 (.rest 3)] 25,
   .cells [.int .i64 (.lit (-1)), .int .i64 (.lit 0), .bool (.lit false), .int .i64 (.lit 0), .nils, .nils] 51,
   .cells [.int .i64 (.atm 4), .int .i64 (.atm 5), .int .i64 (.atm 6), .int .i64 (.atm 7)] 3,
   .map [(.int .i64 (.lit 0), .int .i64 (.lit 1), 0), (.int .i64 (.lit 2), .int .i64 (.lit 1), 0)] 0,
   .cells [.int .u8 (.lit 5), .str [98], .int .i64 (.lit 6), .str [], .int .i64 (.lit 1)] 75,
   .cells [.str [116, 48], .nils, .nils, .str [116, 49], .nils, .nils, .str [116, 50], .nils, .nils, .str [116, 51], .nils, .nils, .str [116, 52], .nils, .nils, .str [116, 53], .nils, .nils] 79],
  [(.lt (.atm 0) (.lit 0), false), (.lt (.atm 1) (.lit 0), false), (.lt (.atm 1) (.lit 6), true), (.lt (.atm 2) (.lit 0), false), (.lt (.atm 2) (.lit 6), true), (.lt (.atm 3) (.lit 0), false), (.lt (.atm 3) (.lit 6), true), (.lt (.atm 4) (.lit 0), false), (.lt (.atm 4) (.lit 6), true), (.lt (.atm 5) (.lit 0), false), (.lt (.atm 5) (.lit 6), true), (.lt (.atm 6) (.lit 0), false), (.lt (.atm 6) (.lit 6), true), (.lt (.atm 7) (.lit 0), false), (.lt (.atm 7) (.lit 6), true)], .lit 2⟩
def h116 : Hint := ⟨[], [], 0⟩
def c117 : CS := ⟨8, [(1, .inp 0 [.i64]), (5, .int .i64 (.lit 6)), (8, .ptr 0 0), (9, .slice 1 0 1 (.rest 6)), (10, .slice 2 0 4 (.rest 1)), (11, .map 3), (13, .int .i64 (.lit 4))],
  [.cells [.slice 4 0 1 (.rest 5), .slice 5 0 6 (.rest 3)] 25,
   .cells [.int .i64 (.lit (-1)), .int .i64 (.lit 0), .bool (.lit false), .int .i64 (.lit 0), .nils, .nils] 51,
   .cells [.int .i64 (.atm 4), .int .i64 (.atm 5), .int .i64 (.atm 6), .int .i64 (.atm 7)] 3,
   .map [(.int .i64 (.lit 0), .int .i64 (.lit 1), 0), (.int .i64 (.lit 1), .int .i64 (.lit 1), 0)] 0,
   .cells [.int .u8 (.lit 5), .str [98], .int .i64 (.lit 6), .str [], .int .i64 (.lit 1)] 75,
   .cells [.str [116, 48], .nils, .nils, .str [116, 49], .nils, .nils, .str [116, 50], .nils, .nils, .str [116, 51], .nils, .nils, .str [116, 52], .nils, .nils, .str [116, 53], .nils, .nils] 79],
  [(.lt (.atm 0) (.lit 0), false), (.lt (.atm 1) (.lit 0), false), (.lt (.atm 1) (.lit 6), true), (.lt (.atm 2) (.lit 0), false), (.lt (.atm 2) (.lit 6), true), (.lt (.atm 3) (.lit 0), false), (.lt (.atm 3) (.lit 6), true), (.lt (.atm 4) (.lit 0), false), (.lt (.atm 4) (.lit 6), true), (.lt (.atm 5) (.lit 0), false), (.lt (.atm 5) (.lit 6), true), (.lt (.atm 6) (.lit 0), false), (.lt (.atm 6) (.lit 6), true), (.lt (.atm 7) (.lit 0), false), (.lt (.atm 7) (.lit 6), true)], .lit 2⟩
def h117 : Hint := ⟨[], [], 0⟩
def c118 : CS := ⟨10, [(1, .inp 0 [.i64]), (5, .int .i64 (.lit 5)), (8, .ptr 0 0), (9, .slice 1 0 1 (.rest 6)), (10, .slice 2 0 5 (.rest 1)), (11, .map 3), (13, .int .i64 (.lit 5))],
  [.cells [.slice 4 0 1 (.rest 5), .slice 5 0 5 (.rest 3)] 25,
   .cells [.int .i64 (.lit (-1)), .int .i64 (.lit 0), .bool (.lit false), .int .i64 (.lit 0), .nils, .nils] 51,
   .cells [.int .i64 (.atm 5), .int .i64 (.atm 6), .int .i64 (.atm 7), .int .i64 (.atm 8), .int .i64 (.atm 9)] 3,
   .map [] 0,
   .cells [.int .u8 (.lit 5), .str [98], .int .i64 (.lit 5), .str [], .int .i64 (.lit 1)] 75,
   .cells [.str [116, 48], .nils, .nils, .str [116, 49], .nils, .nils, .str [116, 50], .nils, .nils, .str [116, 51], .nils, .nils, .str [116, 52], .nils, .nils] 79],
  [(.lt (.atm 0) (.lit 0), false), (.lt (.atm 1) (.lit 0), false), (.lt (.atm 1) (.lit 5), true), (.lt (.atm 2) (.lit 0), false), (.lt (.atm 2) (.lit 5), true), (.lt (.atm 3) (.lit 0), false), (.lt (.atm 3) (.lit 5), true), (.lt (.atm 4) (.lit 0), false), (.lt (.atm 4) (.lit 5), true), (.lt (.atm 5) (.lit 0), false), (.lt (.atm 5) (.lit 5), true), (.lt (.atm 6) (.lit 0), false), (.lt (.atm 6) (.lit 5), true), (.lt (.atm 7) (.lit 0), false), (.lt (.atm 7) (.lit 5), true), (.lt (.atm 8) (.lit 0), false), (.lt (.atm 8) (.lit 5), true), (.lt (.atm 9) (.lit 0), false), (.lt (.atm 9) (.lit 5), true)], .lit 0⟩
def h118 : Hint := ⟨[], [], 0⟩
def c119 : CS := ⟨10, [(1, .inp 0 [.i64]), (5, .int .i64 (.lit 6)), (8, .ptr 0 0), (9, .slice 1 0 1 (.rest 6)), (10, .slice 2 0 5 (.rest 1)), (11, .map 3), (13, .int .i64 (.lit 5))],
  [.cells [.slice 4 0 1 (.rest 5), .slice 5 0 6 (.rest 3)] 25,
   .cells [.int .i64 (.lit (-1)), .int .i64 (.lit 0), .bool (.lit false), .int .i64 (.lit 0), .nils, .nils] 51,
   .cells [.int .i64 (.atm 5), .int .i64 (.atm 6), .int .i64 (.atm 7), .int .i64 (.atm 8), .int .i64 (.atm 9)] 3,
   .map [(.int .i64 (.lit 5), .int .i64 (.lit 1), 0)] 0,
   .cells [.int .u8 (.lit 5), .str [98], .int .i64 (.lit 6), .str [], .int .i64 (.lit 1)] 75,
   .cells [.str [116, 48], .nils, .nils, .str [116, 49], .nils, .nils, .str [116, 50], .nils, .nils, .str [116, 51], .nils, .nils, .str [116, 52], .nils, .nils, .str [116, 53], .nils, .nils] 79],
  [(.lt (.atm 0) (.lit 0), false), (.lt (.atm 1) (.lit 0), false), (.lt (.atm 1) (.lit 6), true), (.lt (.atm 2) (.lit 0), false), (.lt (.atm 2) (.lit 6), true), (.lt (.atm 3) (.lit 0), false), (.lt (.atm 3) (.lit 6), true), (.lt (.atm 4) (.lit 0), false), (.lt (.atm 4) (.lit 6), true), (.lt (.atm 5) (.lit 0), false), (.lt (.atm 5) (.lit 6), true), (.lt (.atm 6) (.lit 0), false), (.lt (.atm 6) (.lit 6), true), (.lt (.atm 7) (.lit 0), false), (.lt (.atm 7) (.lit 6), true), (.lt (.atm 8) (.lit 0), false), (.lt (.atm 8) (.lit 6), true), (.lt (.atm 9) (.lit 0), false), (.lt (.atm 9) (.lit 6), true)], .lit 1⟩
def h119 : Hint := ⟨[], [], 0⟩
def c120 : CS := ⟨10, [(1, .inp 0 [.i64]), (5, .int .i64 (.lit 6)), (8, .ptr 0 0), (9, .slice 1 0 1 (.rest 6)), (10, .slice 2 0 5 (.rest 1)), (11, .map 3), (13, .int .i64 (.lit 5))],
  [.cells [.slice 4 0 1 (.rest 5), .slice 5 0 6 (.rest 3)] 25,
   .cells [.int .i64 (.lit (-1)), .int .i64 (.lit 0), .bool (.lit false), .int .i64 (.lit 0), .nils, .nils] 51,
   .cells [.int .i64 (.atm 5), .int .i64 (.atm 6), .int .i64 (.atm 7), .int .i64 (.atm 8), .int .i64 (.atm 9)] 3,
   .map [(.int .i64 (.lit 4), .int .i64 (.lit 1), 0)] 0,
   .cells [.int .u8 (.lit 5), .str [98], .int .i64 (.lit 6), .str [], .int .i64 (.lit 1)] 75,
   .cells [.str [116, 48], .nils, .nils, .str [116, 49], .nils, .nils, .str [116, 50], .nils, .nils, .str [116, 51], .nils, .nils, .str [116, 52], .nils, .nils, .str [116, 53], .nils, .nils] 79],
  [(.lt (.atm 0) (.lit 0), false), (.lt (.atm 1) (.lit 0), false), (.lt (.atm 1) (.lit 6), true), (.lt (.atm 2) (.lit 0), false), (.lt (.atm 2) (.lit 6), true), (.lt (.atm 3) (.lit 0), false), (.lt (.atm 3) (.lit 6), true), (.lt (.atm 4) (.lit 0), false), (.lt (.atm 4) (.lit 6), true), (.lt (.atm 5) (.lit 0), false), (.lt (.atm 5) (.lit 6), true), (.lt (.atm 6) (.lit 0), false), (.lt (.atm 6) (.lit 6), true), (.lt (.atm 7) (.lit 0), false), (.lt (.atm 7) (.lit 6), true), (.lt (.atm 8) (.lit 0), false), (.lt (.atm 8) (.lit 6), true), (.lt (.atm 9) (.lit 0), false), (.lt (.atm 9) (.lit 6), true)], .lit 1⟩
def h120 : Hint := ⟨[], [], 0⟩
def c121 : CS := ⟨10, [(1, .inp 0 [.i64]), (5, .int .i64 (.lit 6)), (8, .ptr 0 0), (9, .slice 1 0 1 (.rest 6)), (10, .slice 2 0 5 (.rest 1)), (11, .map 3), (13, .int .i64 (.lit 5))],
  [.cells [.slice 4 0 1 (.rest 5), .slice 5 0 6 (.rest 3)] 25,
   .cells [.int .i64 (.lit (-1)), .int .i64 (.lit 0), .bool (.lit false), .int .i64 (.lit 0), .nils, .nils] 51,
   .cells [.int .i64 (.atm 5), .int .i64 (.atm 6), .int .i64 (.atm 7), .int .i64 (.atm 8), .int .i64 (.atm 9)] 3,
   .map [(.int .i64 (.lit 3), .int .i64 (.lit 1), 0)] 0,
   .cells [.int .u8 (.lit 5), .str [98], .int .i64 (.lit 6), .str [], .int .i64 (.lit 1)] 75,
   .cells [.str [116, 48], .nils, .nils, .str [116, 49], .nils, .nils, .str [116, 50], .nils, .nils, .str [116, 51], .nils, .nils, .str [116, 52], .nils, .nils, .str [116, 53], .nils, .nils] 79],
  [(.lt (.atm 0) (.lit 0), false), (.lt (.atm 1) (.lit 0), false), (.lt (.atm 1) (.lit 6), true), (.lt (.atm 2) (.lit 0), false), (.lt (.atm 2) (.lit 6), true), (.lt (.atm 3) (.lit 0), false), (.lt (.atm 3) (.lit 6), true), (.lt (.atm 4) (.lit 0), false), (.lt (.atm 4) (.lit 6), true), (.lt (.atm 5) (.lit 0), false), (.lt (.atm 5) (.lit 6), true), (.lt (.atm 6) (.lit 0), false), (.lt (.atm 6) (.lit 6), true), (.lt (.atm 7) (.lit 0), false), (.lt (.atm 7) (.lit 6), true), (.lt (.atm 8) (.lit 0), false), (.lt (.atm 8) (.lit 6), true), (.lt (.atm 9) (.lit 0), false), (.lt (.atm 9) (.lit 6), true)], .lit 1⟩
def h121 : Hint := ⟨[], [], 0⟩
def c122 : CS := ⟨10, [(1, .inp 0 [.i64]), (5, .int .i64 (.lit 6)), (8, .ptr 0 0), (9, .slice 1 0 1 (.rest 6)), (10, .slice 2 0 5 (.rest 1)), (11, .map 3), (13, .int .i64 (.lit 5))],
  [.cells [.slice 4 0 1 (.rest 5), .slice 5 0 6 (.rest 3)] 25,
   .cells [.int .i64 (.lit (-1)), .int .i64 (.lit 0), .bool (.lit false), .int .i64 (.lit 0), .nils, .nils] 51,
   .cells [.int .i64 (.atm 5), .int .i64 (.atm 6), .int .i64 (.atm 7), .int .i64 (.atm 8), .int .i64 (.atm 9)] 3,
   .map [(.int .i64 (.lit 2), .int .i64 (.lit 1), 0)] 0,
   .cells [.int .u8 (.lit 5), .str [98], .int .i64 (.lit 6), .str [], .int .i64 (.lit 1)] 75,
   .cells [.str [116, 48], .nils, .nils, .str [116, 49], .nils, .nils, .str [116, 50], .nils, .nils, .str [116, 51], .nils, .nils, .str [116, 52], .nils, .nils, .str [116, 53], .nils, .nils] 79],
  [(.lt (.atm 0) (.lit 0), false), (.lt (.atm 1) (.lit 0), false), (.lt (.atm 1) (.lit 6), true), (.lt (.atm 2) (.lit 0), false), (.lt (.atm 2) (.lit 6), true), (.lt (.atm 3) (.lit 0), false), (.lt (.atm 3) (.lit 6), true), (.lt (.atm 4) (.lit 0), false), (.lt (.atm 4) (.lit 6), true), (.lt (.atm 5) (.lit 0), false), (.lt (.atm 5) (.lit 6), true), (.lt (.atm 6) (.lit 0), false), (.lt (.atm 6) (.lit 6), true), (.lt (.atm 7) (.lit 0), false), (.lt (.atm 7) (.lit 6), true), (.lt (.atm 8) (.lit 0), false), (.lt (.atm 8) (.lit 6), true), (.lt (.atm 9) (.lit 0), false), (.lt (.atm 9) (.lit 6), true)], .lit 1⟩
def h122 : Hint := ⟨[], [], 0⟩
def c123 : CS := ⟨10, [(1, .inp 0 [.i64]), (5, .int .i64 (.lit 6)), (8, .ptr 0 0), (9, .slice 1 0 1 (.rest 6)), (10, .slice 2 0 5 (.rest 1)), (11, .map 3), (13, .int .i64 (.lit 5))],
  [.cells [.slice 4 0 1 (.rest 5), .slice 5 0 6 (.rest 3)] 25,
   .cells [.int .i64 (.lit (-1)), .int .i64 (.lit 0), .bool (.lit false), .int .i64 (.lit 0), .nils, .nils] 51,
   .cells [.int .i64 (.atm 5), .int .i64 (.atm 6), .int .i64 (.atm 7), .int .i64 (.atm 8), .int .i64 (.atm 9)] 3,
   .map [(.int .i64 (.lit 1), .int .i64 (.lit 1), 0)] 0,
   .cells [.int .u8 (.lit 5), .str [98], .int .i64 (.lit 6), .str [], .int .i64 (.lit 1)] 75,
   .cells [.str [116, 48], .nils, .nils, .str [116, 49], .nils, .nils, .str [116, 50], .nils, .nils, .str [116, 51], .nils, .nils, .str [116, 52], .nils, .nils, .str [116, 53], .nils, .nils] 79],
  [(.lt (.atm 0) (.lit 0), false), (.lt (.atm 1) (.lit 0), false), (.lt (.atm 1) (.lit 6), true), (.lt (.atm 2) (.lit 0), false), (.lt (.atm 2) (.lit 6), true), (.lt (.atm 3) (.lit 0), false), (.lt (.atm 3) (.lit 6), true), (.lt (.atm 4) (.lit 0), false), (.lt (.atm 4) (.lit 6), true), (.lt (.atm 5) (.lit 0), false), (.lt (.atm 5) (.lit 6), true), (.lt (.atm 6) (.lit 0), false), (.lt (.atm 6) (.lit 6), true), (.lt (.atm 7) (.lit 0), false), (.lt (.atm 7) (.lit 6), true), (.lt (.atm 8) (.lit 0), false), (.lt (.atm 8) (.lit 6), true), (.lt (.atm 9) (.lit 0), false), (.lt (.atm 9) (.lit 6), true)], .lit 1⟩
def h123 : Hint := ⟨[], [], 0⟩
def c124 : CS := ⟨10, [(1, .inp 0 [.i64]), (5, .int .i64 (.lit 6)), (8, .ptr 0 0), (9, .slice 1 0 1 (.rest 6)), (10, .slice 2 0 5 (.rest 1)), (11, .map 3), (13, .int .i64 (.lit 5))],
  [.cells [.slice 4 0 1 (.rest 5), .slice 5 0 6 (.rest 3)] 25,
   .cells [.int .i64 (.lit (-1)), .int .i64 (.lit 0), .bool (.lit false), .int .i64 (.lit 0), .nils, .nils] 51,
   .cells [.int .i64 (.atm 5), .int .i64 (.atm 6), .int .i64 (.atm 7), .int .i64 (.atm 8), .int .i64 (.atm 9)] 3,
   .map [(.int .i64 (.lit 0), .int .i64 (.lit 1), 0)] 0,
   .cells [.int .u8 (.lit 5), .str [98], .int .i64 (.lit 6), .str [], .int .i64 (.lit 1)] 75,
   .cells [.str [116, 48], .nils, .nils, .str [116, 49], .nils, .nils, .str [116, 50], .nils, .nils, .str [116, 51], .nils, .nils, .str [116, 52], .nils, .nils, .str [116, 53], .nils, .nils] 79],
  [(.lt (.atm 0) (.lit 0), false), (.lt (.atm 1) (.lit 0), false), (.lt (.atm 1) (.lit 6), true), (.lt (.atm 2) (.lit 0), false), (.lt (.atm 2) (.lit 6), true), (.lt (.atm 3) (.lit 0), false), (.lt (.atm 3) (.lit 6), true), (.lt (.atm 4) (.lit 0), false), (.lt (.atm 4) (.lit 6), true), (.lt (.atm 5) (.lit 0), false), (.lt (.atm 5) (.lit 6), true), (.lt (.atm 6) (.lit 0), false), (.lt (.atm 6) (.lit 6), true), (.lt (.atm 7) (.lit 0), false), (.lt (.atm 7) (.lit 6), true), (.lt (.atm 8) (.lit 0), false), (.lt (.atm 8) (.lit 6), true), (.lt (.atm 9) (.lit 0), false), (.lt (.atm 9) (.lit 6), true)], .lit 1⟩
def h124 : Hint := ⟨[], [], 0⟩
def c125 : CS := ⟨12, [(1, .inp 0 [.i64]), (5, .int .i64 (.lit 6)), (8, .ptr 0 0), (9, .slice 1 0 1 (.rest 6)), (10, .slice 2 0 6 (.rest 1)), (11, .map 3), (13, .int .i64 (.lit 6))],
  [.cells [.slice 4 0 1 (.rest 5), .slice 5 0 6 (.rest 3)] 25,
   .cells [.int .i64 (.lit (-1)), .int .i64 (.lit 0), .bool (.lit false), .int .i64 (.lit 0), .nils, .nils] 51,
   .cells [.int .i64 (.atm 6), .int .i64 (.atm 7), .int .i64 (.atm 8), .int .i64 (.atm 9), .int .i64 (.atm 10), .int .i64 (.atm 11)] 3,
   .map [] 0,
   .cells [.int .u8 (.lit 5), .str [98], .int .i64 (.lit 6), .str [], .int .i64 (.lit 1)] 75,
   .cells [.str [116, 48], .nils, .nils, .str [116, 49], .nils, .nils, .str [116, 50], .nils, .nils, .str [116, 51], .nils, .nils, .str [116, 52], .nils, .nils, .str [116, 53], .nils, .nils] 79],
  [(.lt (.atm 0) (.lit 0), false), (.lt (.atm 1) (.lit 0), false), (.lt (.atm 1) (.lit 6), true), (.lt (.atm 2) (.lit 0), false), (.lt (.atm 2) (.lit 6), true), (.lt (.atm 3) (.lit 0), false), (.lt (.atm 3) (.lit 6), true), (.lt (.atm 4) (.lit 0), false), (.lt (.atm 4) (.lit 6), true), (.lt (.atm 5) (.lit 0), false), (.lt (.atm 5) (.lit 6), true), (.lt (.atm 6) (.lit 0), false), (.lt (.atm 6) (.lit 6), true), (.lt (.atm 7) (.lit 0), false), (.lt (.atm 7) (.lit 6), true), (.lt (.atm 8) (.lit 0), false), (.lt (.atm 8) (.lit 6), true), (.lt (.atm 9) (.lit 0), false), (.lt (.atm 9) (.lit 6), true), (.lt (.atm 10) (.lit 0), false), (.lt (.atm 10) (.lit 6), true), (.lt (.atm 11) (.lit 0), false), (.lt (.atm 11) (.lit 6), true)], .lit 0⟩
def h125 : Hint := ⟨[], [], 0⟩
def cs : List CS := [c0, c1, c2, c3, c4, c5, c6, c7, c8, c9, c10, c11, c12, c13, c14, c15, c16, c17, c18, c19, c20, c21, c22, c23, c24, c25, c26, c27, c28, c29, c30, c31, c32, c33, c34, c35, c36, c37, c38, c39, c40, c41, c42, c43, c44, c45, c46, c47, c48, c49, c50, c51, c52, c53, c54, c55, c56, c57, c58, c59, c60, c61, c62, c63, c64, c65, c66, c67, c68, c69, c70, c71, c72, c73, c74, c75, c76, c77, c78, c79, c80, c81, c82, c83, c84, c85, c86, c87, c88, c89, c90, c91, c92, c93, c94, c95, c96, c97, c98, c99, c100, c101, c102, c103, c104, c105, c106, c107, c108, c109, c110, c111, c112, c113, c114, c115, c116, c117, c118, c119, c120, c121, c122, c123, c124, c125]
def path : List Nat := [0, 1, 0, 1, 1, 1, 1, 1, 1, 1, 1, 1, 1]
noncomputable def g : Cfg := cfg prv 5 Tryz.f5.results.toList
/-- which of few a number is, told as tests -/
def pcUp : Nat → Nat → List (SB × Bool)
  | 0, _ => [(.lt (.atm 899) (.lit 0), false)]
  | n + 1, k => (.eq (.rem (.atm 899) (.lit 6)) (.lit (Int.ofNat n)), Nat.beq k n) :: pcUp n k
def pcOf (k : Nat) : List (SB × Bool) := pcUp 6 k
theorem pcOf_ok {ρ : Nat → Int} (hn : 0 ≤ ρ 899) {k : Nat} (hk : (ρ 899).tmod 6 = (k : Int)) : PcOk ρ (pcOf k) := by
  have : ∀ n, PcOk ρ (pcUp n k) := by
    intro n
    induction n with
    | zero =>
      intro c b h
      simp only [pcUp, List.mem_cons, List.not_mem_nil, or_false, Prod.mk.injEq] at h
      obtain ⟨rfl, rfl⟩ := h
      show decide (ρ 899 < 0) = false
      exact decide_eq_false (by omega)
    | succ n ih =>
      refine pc_cons ih ?_
      simp only [SB.den, SE.den]
      rw [hk, beq_dec, Bool.eq_iff_iff]
      simp
      omega
  exact this _
theorem isL : isLoop (bodyOf Tryz.f5) path = true := by kernel_rfl
theorem r0 : roundAt g (bodyOf Tryz.f5) path cs h0 c0 = true := by kernel_rfl
theorem r1 : roundAt g (bodyOf Tryz.f5) path cs h1 c1 = true := by kernel_rfl
theorem r2 : roundAt g (bodyOf Tryz.f5) path cs h2 c2 = true := by kernel_rfl
theorem r3 : roundAt g (bodyOf Tryz.f5) path cs h3 c3 = true := by kernel_rfl
theorem r4 : roundAt g (bodyOf Tryz.f5) path cs h4 c4 = true := by kernel_rfl
theorem r5 : roundAt g (bodyOf Tryz.f5) path cs h5 c5 = true := by kernel_rfl
theorem r6 : roundAt g (bodyOf Tryz.f5) path cs h6 c6 = true := by kernel_rfl
theorem r7 : roundAt g (bodyOf Tryz.f5) path cs h7 c7 = true := by kernel_rfl
theorem r8 : roundAt g (bodyOf Tryz.f5) path cs h8 c8 = true := by kernel_rfl
theorem r9 : roundAt g (bodyOf Tryz.f5) path cs h9 c9 = true := by kernel_rfl
theorem r10 : roundAt g (bodyOf Tryz.f5) path cs h10 c10 = true := by kernel_rfl
theorem r11 : roundAt g (bodyOf Tryz.f5) path cs h11 c11 = true := by kernel_rfl
theorem r12 : roundAt g (bodyOf Tryz.f5) path cs h12 c12 = true := by kernel_rfl
theorem r13 : roundAt g (bodyOf Tryz.f5) path cs h13 c13 = true := by kernel_rfl
theorem r14 : roundAt g (bodyOf Tryz.f5) path cs h14 c14 = true := by kernel_rfl
theorem r15 : roundAt g (bodyOf Tryz.f5) path cs h15 c15 = true := by kernel_rfl
theorem r16 : roundAt g (bodyOf Tryz.f5) path cs h16 c16 = true := by kernel_rfl
theorem r17 : roundAt g (bodyOf Tryz.f5) path cs h17 c17 = true := by kernel_rfl
theorem r18 : roundAt g (bodyOf Tryz.f5) path cs h18 c18 = true := by kernel_rfl
theorem r19 : roundAt g (bodyOf Tryz.f5) path cs h19 c19 = true := by kernel_rfl
theorem r20 : roundAt g (bodyOf Tryz.f5) path cs h20 c20 = true := by kernel_rfl
theorem r21 : roundAt g (bodyOf Tryz.f5) path cs h21 c21 = true := by kernel_rfl
theorem r22 : roundAt g (bodyOf Tryz.f5) path cs h22 c22 = true := by kernel_rfl
theorem r23 : roundAt g (bodyOf Tryz.f5) path cs h23 c23 = true := by kernel_rfl
theorem r24 : roundAt g (bodyOf Tryz.f5) path cs h24 c24 = true := by kernel_rfl
theorem r25 : roundAt g (bodyOf Tryz.f5) path cs h25 c25 = true := by kernel_rfl
theorem r26 : roundAt g (bodyOf Tryz.f5) path cs h26 c26 = true := by kernel_rfl
theorem r27 : roundAt g (bodyOf Tryz.f5) path cs h27 c27 = true := by kernel_rfl
theorem r28 : roundAt g (bodyOf Tryz.f5) path cs h28 c28 = true := by kernel_rfl
theorem r29 : roundAt g (bodyOf Tryz.f5) path cs h29 c29 = true := by kernel_rfl
theorem r30 : roundAt g (bodyOf Tryz.f5) path cs h30 c30 = true := by kernel_rfl
theorem r31 : roundAt g (bodyOf Tryz.f5) path cs h31 c31 = true := by kernel_rfl
theorem r32 : roundAt g (bodyOf Tryz.f5) path cs h32 c32 = true := by kernel_rfl
theorem r33 : roundAt g (bodyOf Tryz.f5) path cs h33 c33 = true := by kernel_rfl
theorem r34 : roundAt g (bodyOf Tryz.f5) path cs h34 c34 = true := by kernel_rfl
theorem r35 : roundAt g (bodyOf Tryz.f5) path cs h35 c35 = true := by kernel_rfl
theorem r36 : roundAt g (bodyOf Tryz.f5) path cs h36 c36 = true := by kernel_rfl
theorem r37 : roundAt g (bodyOf Tryz.f5) path cs h37 c37 = true := by kernel_rfl
theorem r38 : roundAt g (bodyOf Tryz.f5) path cs h38 c38 = true := by kernel_rfl
theorem r39 : roundAt g (bodyOf Tryz.f5) path cs h39 c39 = true := by kernel_rfl
theorem r40 : roundAt g (bodyOf Tryz.f5) path cs h40 c40 = true := by kernel_rfl
theorem r41 : roundAt g (bodyOf Tryz.f5) path cs h41 c41 = true := by kernel_rfl
theorem r42 : roundAt g (bodyOf Tryz.f5) path cs h42 c42 = true := by kernel_rfl
theorem r43 : roundAt g (bodyOf Tryz.f5) path cs h43 c43 = true := by kernel_rfl
theorem r44 : roundAt g (bodyOf Tryz.f5) path cs h44 c44 = true := by kernel_rfl
theorem r45 : roundAt g (bodyOf Tryz.f5) path cs h45 c45 = true := by kernel_rfl
theorem r46 : roundAt g (bodyOf Tryz.f5) path cs h46 c46 = true := by kernel_rfl
theorem r47 : roundAt g (bodyOf Tryz.f5) path cs h47 c47 = true := by kernel_rfl
theorem r48 : roundAt g (bodyOf Tryz.f5) path cs h48 c48 = true := by kernel_rfl
theorem r49 : roundAt g (bodyOf Tryz.f5) path cs h49 c49 = true := by kernel_rfl
theorem r50 : roundAt g (bodyOf Tryz.f5) path cs h50 c50 = true := by kernel_rfl
theorem r51 : roundAt g (bodyOf Tryz.f5) path cs h51 c51 = true := by kernel_rfl
theorem r52 : roundAt g (bodyOf Tryz.f5) path cs h52 c52 = true := by kernel_rfl
theorem r53 : roundAt g (bodyOf Tryz.f5) path cs h53 c53 = true := by kernel_rfl
theorem r54 : roundAt g (bodyOf Tryz.f5) path cs h54 c54 = true := by kernel_rfl
theorem r55 : roundAt g (bodyOf Tryz.f5) path cs h55 c55 = true := by kernel_rfl
theorem r56 : roundAt g (bodyOf Tryz.f5) path cs h56 c56 = true := by kernel_rfl
theorem r57 : roundAt g (bodyOf Tryz.f5) path cs h57 c57 = true := by kernel_rfl
theorem r58 : roundAt g (bodyOf Tryz.f5) path cs h58 c58 = true := by kernel_rfl
theorem r59 : roundAt g (bodyOf Tryz.f5) path cs h59 c59 = true := by kernel_rfl
theorem r60 : roundAt g (bodyOf Tryz.f5) path cs h60 c60 = true := by kernel_rfl
theorem r61 : roundAt g (bodyOf Tryz.f5) path cs h61 c61 = true := by kernel_rfl
theorem r62 : roundAt g (bodyOf Tryz.f5) path cs h62 c62 = true := by kernel_rfl
theorem r63 : roundAt g (bodyOf Tryz.f5) path cs h63 c63 = true := by kernel_rfl
theorem r64 : roundAt g (bodyOf Tryz.f5) path cs h64 c64 = true := by kernel_rfl
theorem r65 : roundAt g (bodyOf Tryz.f5) path cs h65 c65 = true := by kernel_rfl
theorem r66 : roundAt g (bodyOf Tryz.f5) path cs h66 c66 = true := by kernel_rfl
theorem r67 : roundAt g (bodyOf Tryz.f5) path cs h67 c67 = true := by kernel_rfl
theorem r68 : roundAt g (bodyOf Tryz.f5) path cs h68 c68 = true := by kernel_rfl
theorem r69 : roundAt g (bodyOf Tryz.f5) path cs h69 c69 = true := by kernel_rfl
theorem r70 : roundAt g (bodyOf Tryz.f5) path cs h70 c70 = true := by kernel_rfl
theorem r71 : roundAt g (bodyOf Tryz.f5) path cs h71 c71 = true := by kernel_rfl
theorem r72 : roundAt g (bodyOf Tryz.f5) path cs h72 c72 = true := by kernel_rfl
theorem r73 : roundAt g (bodyOf Tryz.f5) path cs h73 c73 = true := by kernel_rfl
theorem r74 : roundAt g (bodyOf Tryz.f5) path cs h74 c74 = true := by kernel_rfl
theorem r75 : roundAt g (bodyOf Tryz.f5) path cs h75 c75 = true := by kernel_rfl
theorem r76 : roundAt g (bodyOf Tryz.f5) path cs h76 c76 = true := by kernel_rfl
theorem r77 : roundAt g (bodyOf Tryz.f5) path cs h77 c77 = true := by kernel_rfl
theorem r78 : roundAt g (bodyOf Tryz.f5) path cs h78 c78 = true := by kernel_rfl
theorem r79 : roundAt g (bodyOf Tryz.f5) path cs h79 c79 = true := by kernel_rfl
theorem r80 : roundAt g (bodyOf Tryz.f5) path cs h80 c80 = true := by kernel_rfl
theorem r81 : roundAt g (bodyOf Tryz.f5) path cs h81 c81 = true := by kernel_rfl
theorem r82 : roundAt g (bodyOf Tryz.f5) path cs h82 c82 = true := by kernel_rfl
theorem r83 : roundAt g (bodyOf Tryz.f5) path cs h83 c83 = true := by kernel_rfl
theorem r84 : roundAt g (bodyOf Tryz.f5) path cs h84 c84 = true := by kernel_rfl
theorem r85 : roundAt g (bodyOf Tryz.f5) path cs h85 c85 = true := by kernel_rfl
theorem r86 : roundAt g (bodyOf Tryz.f5) path cs h86 c86 = true := by kernel_rfl
theorem r87 : roundAt g (bodyOf Tryz.f5) path cs h87 c87 = true := by kernel_rfl
theorem r88 : roundAt g (bodyOf Tryz.f5) path cs h88 c88 = true := by kernel_rfl
theorem r89 : roundAt g (bodyOf Tryz.f5) path cs h89 c89 = true := by kernel_rfl
theorem r90 : roundAt g (bodyOf Tryz.f5) path cs h90 c90 = true := by kernel_rfl
theorem r91 : roundAt g (bodyOf Tryz.f5) path cs h91 c91 = true := by kernel_rfl
theorem r92 : roundAt g (bodyOf Tryz.f5) path cs h92 c92 = true := by kernel_rfl
theorem r93 : roundAt g (bodyOf Tryz.f5) path cs h93 c93 = true := by kernel_rfl
theorem r94 : roundAt g (bodyOf Tryz.f5) path cs h94 c94 = true := by kernel_rfl
theorem r95 : roundAt g (bodyOf Tryz.f5) path cs h95 c95 = true := by kernel_rfl
theorem r96 : roundAt g (bodyOf Tryz.f5) path cs h96 c96 = true := by kernel_rfl
theorem r97 : roundAt g (bodyOf Tryz.f5) path cs h97 c97 = true := by kernel_rfl
theorem r98 : roundAt g (bodyOf Tryz.f5) path cs h98 c98 = true := by kernel_rfl
theorem r99 : roundAt g (bodyOf Tryz.f5) path cs h99 c99 = true := by kernel_rfl
theorem r100 : roundAt g (bodyOf Tryz.f5) path cs h100 c100 = true := by kernel_rfl
theorem r101 : roundAt g (bodyOf Tryz.f5) path cs h101 c101 = true := by kernel_rfl
theorem r102 : roundAt g (bodyOf Tryz.f5) path cs h102 c102 = true := by kernel_rfl
theorem r103 : roundAt g (bodyOf Tryz.f5) path cs h103 c103 = true := by kernel_rfl
theorem r104 : roundAt g (bodyOf Tryz.f5) path cs h104 c104 = true := by kernel_rfl
theorem r105 : roundAt g (bodyOf Tryz.f5) path cs h105 c105 = true := by kernel_rfl
theorem r106 : roundAt g (bodyOf Tryz.f5) path cs h106 c106 = true := by kernel_rfl
theorem r107 : roundAt g (bodyOf Tryz.f5) path cs h107 c107 = true := by kernel_rfl
theorem r108 : roundAt g (bodyOf Tryz.f5) path cs h108 c108 = true := by kernel_rfl
theorem r109 : roundAt g (bodyOf Tryz.f5) path cs h109 c109 = true := by kernel_rfl
theorem r110 : roundAt g (bodyOf Tryz.f5) path cs h110 c110 = true := by kernel_rfl
theorem r111 : roundAt g (bodyOf Tryz.f5) path cs h111 c111 = true := by kernel_rfl
theorem r112 : roundAt g (bodyOf Tryz.f5) path cs h112 c112 = true := by kernel_rfl
theorem r113 : roundAt g (bodyOf Tryz.f5) path cs h113 c113 = true := by kernel_rfl
theorem r114 : roundAt g (bodyOf Tryz.f5) path cs h114 c114 = true := by kernel_rfl
theorem r115 : roundAt g (bodyOf Tryz.f5) path cs h115 c115 = true := by kernel_rfl
theorem r116 : roundAt g (bodyOf Tryz.f5) path cs h116 c116 = true := by kernel_rfl
theorem r117 : roundAt g (bodyOf Tryz.f5) path cs h117 c117 = true := by kernel_rfl
theorem r118 : roundAt g (bodyOf Tryz.f5) path cs h118 c118 = true := by kernel_rfl
theorem r119 : roundAt g (bodyOf Tryz.f5) path cs h119 c119 = true := by kernel_rfl
theorem r120 : roundAt g (bodyOf Tryz.f5) path cs h120 c120 = true := by kernel_rfl
theorem r121 : roundAt g (bodyOf Tryz.f5) path cs h121 c121 = true := by kernel_rfl
theorem r122 : roundAt g (bodyOf Tryz.f5) path cs h122 c122 = true := by kernel_rfl
theorem r123 : roundAt g (bodyOf Tryz.f5) path cs h123 c123 = true := by kernel_rfl
theorem r124 : roundAt g (bodyOf Tryz.f5) path cs h124 c124 = true := by kernel_rfl
theorem r125 : roundAt g (bodyOf Tryz.f5) path cs h125 c125 = true := by kernel_rfl
theorem rounds : ∀ c ∈ cs, ∃ h, roundAt g (bodyOf Tryz.f5) path cs h c = true := by
  intro c hc
  simp only [cs, List.mem_cons, List.not_mem_nil, or_false] at hc
  rcases hc with rfl | rfl | rfl | rfl | rfl | rfl | rfl | rfl | rfl | rfl | rfl | rfl | rfl | rfl | rfl | rfl | rfl | rfl | rfl | rfl | rfl | rfl | rfl | rfl | rfl | rfl | rfl | rfl | rfl | rfl | rfl | rfl | rfl | rfl | rfl | rfl | rfl | rfl | rfl | rfl | rfl | rfl | rfl | rfl | rfl | rfl | rfl | rfl | rfl | rfl | rfl | rfl | rfl | rfl | rfl | rfl | rfl | rfl | rfl | rfl | rfl | rfl | rfl | rfl | rfl | rfl | rfl | rfl | rfl | rfl | rfl | rfl | rfl | rfl | rfl | rfl | rfl | rfl | rfl | rfl | rfl | rfl | rfl | rfl | rfl | rfl | rfl | rfl | rfl | rfl | rfl | rfl | rfl | rfl | rfl | rfl | rfl | rfl | rfl | rfl | rfl | rfl | rfl | rfl | rfl | rfl | rfl | rfl | rfl | rfl | rfl | rfl | rfl | rfl | rfl | rfl | rfl | rfl | rfl | rfl | rfl | rfl | rfl | rfl | rfl | rfl
  · exact ⟨h0, r0⟩
  · exact ⟨h1, r1⟩
  · exact ⟨h2, r2⟩
  · exact ⟨h3, r3⟩
  · exact ⟨h4, r4⟩
  · exact ⟨h5, r5⟩
  · exact ⟨h6, r6⟩
  · exact ⟨h7, r7⟩
  · exact ⟨h8, r8⟩
  · exact ⟨h9, r9⟩
  · exact ⟨h10, r10⟩
  · exact ⟨h11, r11⟩
  · exact ⟨h12, r12⟩
  · exact ⟨h13, r13⟩
  · exact ⟨h14, r14⟩
  · exact ⟨h15, r15⟩
  · exact ⟨h16, r16⟩
  · exact ⟨h17, r17⟩
  · exact ⟨h18, r18⟩
  · exact ⟨h19, r19⟩
  · exact ⟨h20, r20⟩
  · exact ⟨h21, r21⟩
  · exact ⟨h22, r22⟩
  · exact ⟨h23, r23⟩
  · exact ⟨h24, r24⟩
  · exact ⟨h25, r25⟩
  · exact ⟨h26, r26⟩
  · exact ⟨h27, r27⟩
  · exact ⟨h28, r28⟩
  · exact ⟨h29, r29⟩
  · exact ⟨h30, r30⟩
  · exact ⟨h31, r31⟩
  · exact ⟨h32, r32⟩
  · exact ⟨h33, r33⟩
  · exact ⟨h34, r34⟩
  · exact ⟨h35, r35⟩
  · exact ⟨h36, r36⟩
  · exact ⟨h37, r37⟩
  · exact ⟨h38, r38⟩
  · exact ⟨h39, r39⟩
  · exact ⟨h40, r40⟩
  · exact ⟨h41, r41⟩
  · exact ⟨h42, r42⟩
  · exact ⟨h43, r43⟩
  · exact ⟨h44, r44⟩
  · exact ⟨h45, r45⟩
  · exact ⟨h46, r46⟩
  · exact ⟨h47, r47⟩
  · exact ⟨h48, r48⟩
  · exact ⟨h49, r49⟩
  · exact ⟨h50, r50⟩
  · exact ⟨h51, r51⟩
  · exact ⟨h52, r52⟩
  · exact ⟨h53, r53⟩
  · exact ⟨h54, r54⟩
  · exact ⟨h55, r55⟩
  · exact ⟨h56, r56⟩
  · exact ⟨h57, r57⟩
  · exact ⟨h58, r58⟩
  · exact ⟨h59, r59⟩
  · exact ⟨h60, r60⟩
  · exact ⟨h61, r61⟩
  · exact ⟨h62, r62⟩
  · exact ⟨h63, r63⟩
  · exact ⟨h64, r64⟩
  · exact ⟨h65, r65⟩
  · exact ⟨h66, r66⟩
  · exact ⟨h67, r67⟩
  · exact ⟨h68, r68⟩
  · exact ⟨h69, r69⟩
  · exact ⟨h70, r70⟩
  · exact ⟨h71, r71⟩
  · exact ⟨h72, r72⟩
  · exact ⟨h73, r73⟩
  · exact ⟨h74, r74⟩
  · exact ⟨h75, r75⟩
  · exact ⟨h76, r76⟩
  · exact ⟨h77, r77⟩
  · exact ⟨h78, r78⟩
  · exact ⟨h79, r79⟩
  · exact ⟨h80, r80⟩
  · exact ⟨h81, r81⟩
  · exact ⟨h82, r82⟩
  · exact ⟨h83, r83⟩
  · exact ⟨h84, r84⟩
  · exact ⟨h85, r85⟩
  · exact ⟨h86, r86⟩
  · exact ⟨h87, r87⟩
  · exact ⟨h88, r88⟩
  · exact ⟨h89, r89⟩
  · exact ⟨h90, r90⟩
  · exact ⟨h91, r91⟩
  · exact ⟨h92, r92⟩
  · exact ⟨h93, r93⟩
  · exact ⟨h94, r94⟩
  · exact ⟨h95, r95⟩
  · exact ⟨h96, r96⟩
  · exact ⟨h97, r97⟩
  · exact ⟨h98, r98⟩
  · exact ⟨h99, r99⟩
  · exact ⟨h100, r100⟩
  · exact ⟨h101, r101⟩
  · exact ⟨h102, r102⟩
  · exact ⟨h103, r103⟩
  · exact ⟨h104, r104⟩
  · exact ⟨h105, r105⟩
  · exact ⟨h106, r106⟩
  · exact ⟨h107, r107⟩
  · exact ⟨h108, r108⟩
  · exact ⟨h109, r109⟩
  · exact ⟨h110, r110⟩
  · exact ⟨h111, r111⟩
  · exact ⟨h112, r112⟩
  · exact ⟨h113, r113⟩
  · exact ⟨h114, r114⟩
  · exact ⟨h115, r115⟩
  · exact ⟨h116, r116⟩
  · exact ⟨h117, r117⟩
  · exact ⟨h118, r118⟩
  · exact ⟨h119, r119⟩
  · exact ⟨h120, r120⟩
  · exact ⟨h121, r121⟩
  · exact ⟨h122, r122⟩
  · exact ⟨h123, r123⟩
  · exact ⟨h124, r124⟩
  · exact ⟨h125, r125⟩
theorem begins0 : go g (tab1 path cs) 1000 [] (bodyOf Tryz.f5) [] ⟨initSlots [.int .u8 (.atm 899), .inp 0 [.i64]] 0 .nil, Hp.zero, pcOf 0⟩ = true := by kernel_rfl
theorem begins1 : go g (tab1 path cs) 1000 [] (bodyOf Tryz.f5) [] ⟨initSlots [.int .u8 (.atm 899), .inp 0 [.i64]] 0 .nil, Hp.zero, pcOf 1⟩ = true := by kernel_rfl
theorem begins2 : go g (tab1 path cs) 1000 [] (bodyOf Tryz.f5) [] ⟨initSlots [.int .u8 (.atm 899), .inp 0 [.i64]] 0 .nil, Hp.zero, pcOf 2⟩ = true := by kernel_rfl
theorem begins3 : go g (tab1 path cs) 1000 [] (bodyOf Tryz.f5) [] ⟨initSlots [.int .u8 (.atm 899), .inp 0 [.i64]] 0 .nil, Hp.zero, pcOf 3⟩ = true := by kernel_rfl
theorem begins4 : go g (tab1 path cs) 1000 [] (bodyOf Tryz.f5) [] ⟨initSlots [.int .u8 (.atm 899), .inp 0 [.i64]] 0 .nil, Hp.zero, pcOf 4⟩ = true := by kernel_rfl
theorem begins5 : go g (tab1 path cs) 1000 [] (bodyOf Tryz.f5) [] ⟨initSlots [.int .u8 (.atm 899), .inp 0 [.i64]] 0 .nil, Hp.zero, pcOf 5⟩ = true := by kernel_rfl
theorem calls {ρ : Nat → Int} {ro : Nat → Prop} {w : World} (hro : ∀ b, ro b → b < w.heap.size) (hgl : Glob.ok ro w.heap) {vals : List Value} (hv : VRs (En.zero ρ ro) w.heap [.int .u8 (.atm 899), .inp 0 [.i64]] vals) (hn : 0 ≤ ρ 899) :
    Calls Tryz.prog 5 vals.toArray w fun e w' => e = .returned (.bool true) ∧ Below w.heap.size w w' := by
  have key : ∀ k, PcOk ρ (pcOf k) → go g (tab1 path cs) 1000 [] (bodyOf Tryz.f5) [] ⟨initSlots [.int .u8 (.atm 899), .inp 0 [.i64]] 0 .nil, Hp.zero, pcOf k⟩ = true → Calls Tryz.prog 5 vals.toArray w fun e w' => e = .returned (.bool true) ∧ Below w.heap.size w w' := fun k hp hb =>
    law_one (cfg_ok prv_ok 5 _) (fn := Tryz.f5) (fn_at (by kernel_rfl) (by decide)) (by kernel_rfl) rfl (dst_at (by kernel_rfl)) isL rounds hro hgl hv hp hb
  have h1 := Int.tmod_nonneg 6 hn
  have h2 := Int.tmod_lt_of_pos (ρ 899) (b := 6) (by omega)
  obtain ⟨k, hk, hlt⟩ : ∃ k : Nat, (ρ 899).tmod 6 = (k : Int) ∧ k < 6 := ⟨((ρ 899).tmod 6).toNat, by omega, by omega⟩
  have hp := pcOf_ok hn hk
  match k, hlt with
  | 0, _ => exact key 0 hp begins0
  | 1, _ => exact key 1 hp begins1
  | 2, _ => exact key 2 hp begins2
  | 3, _ => exact key 3 hp begins3
  | 4, _ => exact key 4 hp begins4
  | 5, _ => exact key 5 hp begins5
end Go.As.Try.Barrier
#print axioms Go.As.Try.Barrier.calls
