import Derived.Test.YtniglnbdppnhoaaGreatDoorAsZR6
set_option linter.unusedSectionVars false
set_option linter.unusedVariables false
set_option linter.unusedSimpArgs false
section
namespace Go.As.Try
set_option maxRecDepth 100000
theorem GF:runs false false true true:=by unfold runs; kernel_rfl
theorem GG:runs false false true false:=by unfold runs; kernel_rfl
theorem GH:runs false false false true:=by unfold runs; kernel_rfl
theorem GI:runs false false false false:=by unfold runs; kernel_rfl
end Go.As.Try
end
