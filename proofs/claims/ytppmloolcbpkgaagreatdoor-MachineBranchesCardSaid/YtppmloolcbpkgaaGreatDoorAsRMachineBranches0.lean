import Derived.Test.YtppmloolcbpkgaaGreatDoorAsBMachineBranches
/-
  AS: the law MachineBranches: from its cut to its end, part 0.
-/
namespace Go.As.Try.MachineBranches
open Go hiding Stat
open Go.As Go.Proofs Go.RowKit Go.As.Try
set_option maxRecDepth 100000
theorem rest0 : restAt g (bodyOf Tryz.f4) path c0 = true := by kernel_rfl
end Go.As.Try.MachineBranches
