import Derived.Test.YtppmloolcbpkgaaGreatDoorAsKMachineBranches
/-
  AS: the law MachineBranches: the states at its cut; the runs up to it.
-/
namespace Go.As.Try.MachineBranches
open Go hiding Stat
open Go.As Go.Proofs Go.RowKit Go.As.Try
set_option maxRecDepth 100000
def path : List Nat := [1, 1, 1]
theorem isP : isPlace (bodyOf Tryz.f4) path = true := by kernel_rfl
def c0 : CS := ⟨1, [(0, .int .i64 (.atm 951)), (3, .ptr 0 0), (4, .ptr 1 0), (5, .int .i64 (.lit 0))],
  [.cells [.slice 2 0 2 (.rest 5), .slice 3 0 1 (.rest 3)] 26,
   .cells [.slice 4 0 2 (.rest 6), .slice 5 0 1 (.rest 6)] 42,
   .cells [.int .u8 (.lit 9), .str [118], .int .i64 (.lit 0), .str [], .int .i64 (.lit 1), .int .u8 (.lit 9), .str [117], .int .i64 (.lit 0), .str [], .int .i64 (.lit 1)] 139,
   .cells [.str [116], .slice 6 0 1 (.rest 1), .slice 7 0 5 (.rest 7)] 109,
   .cells [.int .i64 (.lit (-1)), .int .i64 (.lit 0), .bool (.lit false), .int .i64 (.lit 0), .nils, .nils, .int .i64 (.lit (-1)), .int .i64 (.lit 0), .bool (.lit false), .int .i64 (.lit 0), .nils, .nils] 48,
   .cells [.int .i64 (.lit 0), .slice 8 0 1 (.exact 1), .int .u8 (.lit 0), .int .i64 (.lit 0), .int .i64 (.lit 0), .int .i64 (.lit 0)] 54,
   .cells [.str [120]] 9,
   .cells [.int .u8 (.lit 1), .int .u8 (.lit 22), .int .i64 (.lit 0), .int .i64 (.lit 0), .int .i64 (.lit 0), .int .i64 (.lit 0), .nils, .int .u8 (.lit 4), .int .u8 (.lit 0), .int .i64 (.lit 0), .int .i64 (.lit (-1)), .int .i64 (.lit 4), .int .i64 (.lit 0), .slice 9 0 1 (.rest 4), .int .u8 (.lit 1), .int .u8 (.lit 23), .int .i64 (.lit 1), .int .i64 (.lit (-1)), .int .i64 (.lit 0), .int .i64 (.lit 0), .slice 10 0 1 (.rest 4), .int .u8 (.lit 5), .int .u8 (.lit 0), .int .i64 (.lit 0), .int .i64 (.lit (-1)), .int .i64 (.lit 5), .int .i64 (.lit 0), .nils, .int .u8 (.lit 1), .int .u8 (.lit 23), .int .i64 (.lit 1), .int .i64 (.lit (-1)), .int .i64 (.lit 0), .int .i64 (.lit 0), .slice 11 0 1 (.rest 4)] 200,
   .cells [.int .i64 (.lit 0)] 2,
   .cells [.int .u8 (.lit 2), .str [120], .int .i64 (.lit 0), .nils] 204,
   .cells [.int .u8 (.lit 3), .str [43], .int .i64 (.lit 0), .slice 12 0 2 (.rest 4)] 204,
   .cells [.int .u8 (.lit 1), .str [], .int .i64 (.lit 7), .nils] 204,
   .cells [.int .u8 (.lit 2), .str [120], .int .i64 (.lit 0), .nils, .int .u8 (.lit 1), .str [], .int .i64 (.lit 1), .nils] 204],
  [], .lit 0⟩
def pc0 : List (SB × Bool) := []
def cs0 : List CS := [c0]
theorem up0 : go g (tab1 path cs0) 1000 [] (bodyOf Tryz.f4) [] ⟨initSlots args 0 .nil, Hp.zero, pc0⟩ = true := by kernel_rfl
end Go.As.Try.MachineBranches
