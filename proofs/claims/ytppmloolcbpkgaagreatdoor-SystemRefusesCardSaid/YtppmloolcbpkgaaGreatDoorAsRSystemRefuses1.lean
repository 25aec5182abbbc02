import Derived.Test.YtppmloolcbpkgaaGreatDoorAsBSystemRefuses
/-
  AS: the law SystemRefuses: from its cut to its end, part 1.
-/
namespace Go.As.Try.SystemRefuses
open Go hiding Stat
open Go.As Go.Proofs Go.RowKit Go.As.Try
set_option maxRecDepth 100000
theorem rest9 : restAt g (bodyOf Tryz.f7) path c9 = true := by kernel_rfl
theorem rest10 : restAt g (bodyOf Tryz.f7) path c10 = true := by kernel_rfl
theorem rest11 : restAt g (bodyOf Tryz.f7) path c11 = true := by kernel_rfl
theorem rest12 : restAt g (bodyOf Tryz.f7) path c12 = true := by kernel_rfl
theorem rest13 : restAt g (bodyOf Tryz.f7) path c13 = true := by kernel_rfl
theorem rest14 : restAt g (bodyOf Tryz.f7) path c14 = true := by kernel_rfl
theorem rest15 : restAt g (bodyOf Tryz.f7) path c15 = true := by kernel_rfl
theorem rest16 : restAt g (bodyOf Tryz.f7) path c16 = true := by kernel_rfl
theorem rest17 : restAt g (bodyOf Tryz.f7) path c17 = true := by kernel_rfl
end Go.As.Try.SystemRefuses
