import Derived.Test.YtppmloolcbpkgaaGreatDoorAsKMachineTries
/-
  AS: the law MachineTries: the state at its loop's head, a round from it.
-/
namespace Go.As.Try.MachineTries
open Go hiding Stat
open Go.As Go.Proofs Go.RowKit Go.As.Try
set_option maxRecDepth 100000
def c0 : CS := ⟨2, [(1, .int .u8 (.atm 952)), (5, .int .i64 (.atm 1)), (6, .ptr 0 0), (7, .ptr 1 0), (9, .int .i64 (.atm 0))],
  [.cells [.slice 2 0 1 (.rest 5), .slice 3 0 2 (.rest 3)] 26,
   .cells [.slice 4 0 1 (.rest 6), .slice 5 0 2 (.rest 6)] 42,
   .cells [.int .u8 (.lit 1), .str [109], .int .i64 (.lit 0), .str [], .int .i64 (.lit 1)] 139,
   .cells [.str [97], .nils, .slice 6 0 2 (.rest 7), .str [98], .slice 7 0 1 (.rest 1), .slice 8 0 1 (.rest 7)] 109,
   .cells [.int .i64 (.lit 0), .int .i64 (.lit 0), .bool (.lit false), .int .i64 (.lit 0), .nils, .nils] 48,
   .cells [.int .i64 (.lit 1), .slice 9 0 0 (.exact 0), .int .u8 (.lit 0), .int .i64 (.lit 0), .int .i64 (.lit 0), .int .i64 (.lit 0), .int .i64 (.lit 0), .slice 10 0 1 (.rest 1), .int .u8 (.lit 0), .int .i64 (.lit 0), .int .i64 (.lit 0), .int .i64 (.atm 0)] 54,
   .cells [.int .u8 (.lit 1), .int .u8 (.lit 1), .int .i64 (.lit 0), .int .i64 (.lit (-1)), .int .i64 (.lit 0), .int .i64 (.lit 0), .nils, .int .u8 (.lit 1), .int .u8 (.lit 2), .int .i64 (.lit 0), .int .i64 (.lit (-1)), .int .i64 (.lit 0), .int .i64 (.lit 0), .nils] 200,
   .cells [.str [120]] 9,
   .cells [.int .u8 (.lit 1), .int .u8 (.lit 4), .int .i64 (.lit 0), .int .i64 (.lit 0), .int .i64 (.lit 0), .int .i64 (.lit 0), .slice 11 0 1 (.rest 4)] 200,
   .cells [] 2,
   .cells [.int .i64 (.lit 0)] 2,
   .cells [.int .u8 (.lit 1), .str [], .int .i64 (.atm 1), .nils] 204],
  [(.lt (.atm 0) (.lit 0), false), (.lt (.atm 0) (.lit 31), true), (.lt (.atm 1) (.atm 0), false), (.lt (.atm 1) (.lit 0), false), (.lt (.atm 1) (.lit 31), true), (.lt (.wrap .i64 (.atm 952)) (.atm 0), false), (.lt (.wrap .i64 (.atm 952)) (.lit 0), false), (.lt (.atm 952) (.lit 0), false)], .sub (.lit 31) (.atm 0)⟩
def h0 : Hint := ⟨[(.lt (.atm 0) (.atm 1), false), (.eq (.atm 0) (.wrap .i64 (.atm 952)), false)], [], 0⟩
def cs : List CS := [c0]
def path : List Nat := [0, 1, 0, 1, 1, 1, 1, 1, 1]
theorem isL : isLoop (bodyOf Tryz.f5) path = true := by kernel_rfl
def q0 : List (SB × Bool) := (.eq (.atm 0) (.wrap .i64 (.atm 952)), true) :: (.lt (.atm 0) (.atm 1), true) :: c0.pc
def q1 : List (SB × Bool) := (.eq (.atm 0) (.wrap .i64 (.atm 952)), false) :: (.lt (.atm 0) (.atm 1), true) :: c0.pc
def q2 : List (SB × Bool) := (.eq (.atm 0) (.wrap .i64 (.atm 952)), true) :: (.lt (.atm 0) (.atm 1), false) :: c0.pc
def q3 : List (SB × Bool) := (.eq (.atm 0) (.wrap .i64 (.atm 952)), false) :: (.lt (.atm 0) (.atm 1), false) :: c0.pc
theorem p0 : pieceAt g (bodyOf Tryz.f5) path cs h0 c0 q0 = true := by kernel_rfl
theorem p1 : pieceAt g (bodyOf Tryz.f5) path cs h0 c0 q1 = true := by kernel_rfl
theorem p2 : pieceAt g (bodyOf Tryz.f5) path cs h0 c0 q2 = true := by kernel_rfl
theorem p3 : pieceAt g (bodyOf Tryz.f5) path cs h0 c0 q3 = true := by kernel_rfl
theorem qs : piecesB h0.ts c0.st.pc = [q0, q1, q2, q3] := by kernel_rfl
theorem r0 : roundAt g (bodyOf Tryz.f5) path cs h0 c0 = true := by
  refine roundAt_pieces fun pc hp => ?_
  rw [qs] at hp
  simp only [List.mem_cons, List.not_mem_nil, or_false] at hp
  rcases hp with rfl | rfl | rfl | rfl
  · exact p0
  · exact p1
  · exact p2
  · exact p3
theorem rounds : ∀ c ∈ cs, ∃ h, roundAt g (bodyOf Tryz.f5) path cs h c = true := by
  intro c hc
  simp only [cs, List.mem_cons, List.not_mem_nil, or_false] at hc
  subst hc
  exact ⟨h0, r0⟩
def pcOf (k : Int) : List (SB × Bool) := [(.eq (.rem (.atm 951) (.lit 31)) (.lit k), true), (.lt (.wrap .i64 (.atm 952)) (.lit 0), false), (.lt (.atm 951) (.lit 0), false), (.lt (.atm 952) (.lit 0), false)]
end Go.As.Try.MachineTries
