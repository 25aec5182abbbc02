import Derived.Test.YtbmkacliajebmaaGreatDoorAsZS4
set_option linter.unusedSectionVars false
set_option linter.unusedVariables false
set_option linter.unusedSimpArgs false
section
namespace Go.As.Try
open Go Go.As Go.Proofs Go.RowKit
set_option maxRecDepth 100000
def XI:List W:=[.agg [.ro [.int .u8 (.lit 1),.str [109],.int .i64 (.lit 0),.str [],.int .i64 (.lit 1)] 1 false,.ro [.str [97],.eg,.ro [.int .u8 (.lit 1),.int .u8 (.lit 1),.int .i64 (.lit 0),.int .i64 (.lit (-1)),.int .i64 (.lit 0),.int .i64 (.lit 0),.eg] 1 false,.str [98],.eg,.ro [.int .u8 (.lit 1),.int .u8 (.lit 1),.int .i64 (.lit 0),.int .i64 (.lit (-1)),.int .i64 (.lit 0),.int .i64 (.lit 0),.eg,.int .u8 (.lit 1),.int .u8 (.lit 2),.int .i64 (.lit 0),.int .i64 (.lit (-1)),.int .i64 (.lit 0),.int .i64 (.lit 0),.eg,.int .u8 (.lit 1),.int .u8 (.lit 2),.int .i64 (.lit 0),.int .i64 (.lit (-1)),.int .i64 (.lit 0),.int .i64 (.lit 0),.eg] 3 false] 2 false],.ro [.int .i64 (.lit 0),.int .i64 (.lit 1),.int .i64 (.lit 1),.int .i64 (.lit 0),.int .i64 (.lit 1),.int .i64 (.lit 1)] 6 false,.int .u8 (.lit 2)]
theorem akA:qQ XI (.bool (.lit false)) (WW 9)=true:=aa
end Go.As.Try
end
