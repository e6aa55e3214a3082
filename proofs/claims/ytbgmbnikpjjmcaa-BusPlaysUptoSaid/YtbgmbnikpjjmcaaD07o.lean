/- What the functions of chapter 7 come to: a configuration of four nodes. -/
import Derived.Test.YtbgmbnikpjjmcaaD07n
set_option linter.unusedVariables false
set_option linter.unusedSimpArgs false
set_option linter.unusedSectionVars false
namespace Go.Proofs.Ytbgmbnikpjjmcaa.AM.D07
open Go Go.Proofs.Ytbgmbnikpjjmcaa.AM Go.Proofs.Ytbgmbnikpjjmcaa.AM.C02 Go.Proofs.Ytbgmbnikpjjmcaa.AM.C07
set_option maxHeartbeats 2000000
set_option maxRecDepth 100000
attribute [local go_sem] tn_add1 tn_sub1 put_all' nums_len sub12
def w4 : List Int := [-1, -1, -1, -1]
theorem rep6a : List.replicate 6 (Cell.int .i64 0) = [.int .i64 0, .int .i64 0, .int .i64 0, .int .i64 0, .int .i64 0, .int .i64 0] := rfl
theorem rep4a : List.replicate 4 (Cell.int .i64 0) = [.int .i64 0, .int .i64 0, .int .i64 0, .int .i64 0] := rfl
theorem rep4b : List.replicate 4 (Cell.sl none 0 0 false) = [.sl none 0 0 false, .sl none 0 0 false, .sl none 0 0 false, .sl none 0 0 false] := rfl
attribute [local go_sem high] rep6a rep4a rep4b
end Go.Proofs.Ytbgmbnikpjjmcaa.AM.D07
