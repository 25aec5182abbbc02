import Derived.Test.YtbmkacliajebmaaGreatDoorAsZS8
set_option linter.unusedSectionVars false
set_option linter.unusedVariables false
set_option linter.unusedSimpArgs false
section
namespace Go.As.Try
open Go Go.As Go.Proofs Go.RowKit
set_option maxRecDepth 100000
theorem akC:DV IA (.ro [.int .i64 (.lit 1),.int .i64 (.lit 1),.int .i64 (.lit 1)] 3 false) (M' 7)=true:=aa
end Go.As.Try
end
