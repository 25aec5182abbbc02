import Derived.Test.YtbmkacliajebmaaGreatDoorAsZS6
set_option linter.unusedSectionVars false
set_option linter.unusedVariables false
set_option linter.unusedSimpArgs false
section
namespace Go.As.Try
open Go Go.As Go.Proofs Go.RowKit
set_option maxRecDepth 100000
def Iz:List W:=[.agg [.ro [.int .u8 (.lit 9),.str [118],.int .i64 (.lit 0),.str [],.int .i64 (.lit 1)] 1 false,.ro [.str [97],.eg,.ro [.int .u8 (.lit 1),.int .u8 (.lit 23),.int .i64 (.lit 0),.int .i64 (.lit (-1)),.int .i64 (.lit 0),.int .i64 (.lit 0),.ro [.int .u8 (.lit 1),.str [],.int .i64 (.lit 1),.eg] 1 false] 1 false,.str [98],.ro [.str [120]] 1 false,.ro [.int .u8 (.lit 1),.int .u8 (.lit 22),.int .i64 (.lit 0),.int .i64 (.lit 0),.int .i64 (.lit 0),.int .i64 (.lit 0),.eg,.int .u8 (.lit 3),.int .u8 (.lit 0),.int .i64 (.lit 0),.int .i64 (.lit 0),.int .i64 (.lit 0),.int .i64 (.lit 0),.ro [.int .u8 (.lit 1),.str [],.int .i64 (.lit 2),.eg] 1 false] 2 false] 2 false],.ro [.int .i64 (.lit 1),.int .i64 (.lit 1),.int .i64 (.lit 0)] 3 false,.int .u8 (.lit 3)]
theorem aky:qQ Iz (.bool (.lit true)) (WW 9)=true:=aa
end Go.As.Try
end
