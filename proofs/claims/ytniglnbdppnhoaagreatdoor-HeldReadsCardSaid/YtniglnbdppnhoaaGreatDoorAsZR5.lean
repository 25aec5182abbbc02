import Derived.Test.YtniglnbdppnhoaaGreatDoorAsZR4
set_option linter.unusedSectionVars false
set_option linter.unusedVariables false
set_option linter.unusedSimpArgs false
section
namespace Go.As.Try
set_option maxRecDepth 100000
theorem Gw:runs true false true true:=by unfold runs; kernel_rfl
theorem Gx:runs true false true false:=by unfold runs; kernel_rfl
theorem Gy:runs true false false true:=by unfold runs; kernel_rfl
theorem Gz:runs true false false false:=by unfold runs; kernel_rfl
end Go.As.Try
end
