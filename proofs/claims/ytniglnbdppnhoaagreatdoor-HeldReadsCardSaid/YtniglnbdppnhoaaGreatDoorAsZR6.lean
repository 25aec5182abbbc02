import Derived.Test.YtniglnbdppnhoaaGreatDoorAsZR5
set_option linter.unusedSectionVars false
set_option linter.unusedVariables false
set_option linter.unusedSimpArgs false
section
namespace Go.As.Try
set_option maxRecDepth 100000
theorem GA:runs false true true true:=by unfold runs; kernel_rfl
theorem GB:runs false true true false:=by unfold runs; kernel_rfl
theorem GC:runs false true false true:=by unfold runs; kernel_rfl
theorem GD:runs false true false false:=by unfold runs; kernel_rfl
end Go.As.Try
end
