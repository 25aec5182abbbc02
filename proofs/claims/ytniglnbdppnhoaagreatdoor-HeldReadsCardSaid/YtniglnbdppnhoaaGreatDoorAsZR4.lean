import Derived.Test.YtniglnbdppnhoaaGreatDoorAsZR3
set_option linter.unusedSectionVars false
set_option linter.unusedVariables false
set_option linter.unusedSimpArgs false
section
namespace Go.As.Try
set_option maxRecDepth 100000
theorem Gr:runs true true true true:=by unfold runs; kernel_rfl
theorem Gt:runs true true true false:=by unfold runs; kernel_rfl
theorem Gu:runs true true false true:=by unfold runs; kernel_rfl
theorem Gv:runs true true false false:=by unfold runs; kernel_rfl
end Go.As.Try
end
