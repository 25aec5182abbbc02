import Derived.Test.YtppmloolcbpkgaaGreatDoorAsBSystemRefuses
/-
  AS: the law SystemRefuses: from its cut to its end, part 0.
-/
namespace Go.As.Try.SystemRefuses
open Go hiding Stat
open Go.As Go.Proofs Go.RowKit Go.As.Try
set_option maxRecDepth 100000
theorem rest0 : restAt g (bodyOf Tryz.f7) path c0 = true := by kernel_rfl
theorem rest1 : restAt g (bodyOf Tryz.f7) path c1 = true := by kernel_rfl
theorem rest2 : restAt g (bodyOf Tryz.f7) path c2 = true := by kernel_rfl
theorem rest3 : restAt g (bodyOf Tryz.f7) path c3 = true := by kernel_rfl
theorem rest4 : restAt g (bodyOf Tryz.f7) path c4 = true := by kernel_rfl
theorem rest5 : restAt g (bodyOf Tryz.f7) path c5 = true := by kernel_rfl
theorem rest6 : restAt g (bodyOf Tryz.f7) path c6 = true := by kernel_rfl
theorem rest7 : restAt g (bodyOf Tryz.f7) path c7 = true := by kernel_rfl
theorem rest8 : restAt g (bodyOf Tryz.f7) path c8 = true := by kernel_rfl
end Go.As.Try.SystemRefuses
