/- The closed law BusNames, worked out. -/
import Derived.Test.YtbgmbnikpjjmcaaA3
import Derived.Test.YtbgmbnikpjjmcaaIRF07
import Derived.KernelRfl
set_option linter.unusedVariables false
set_option linter.unusedSimpArgs false
set_option linter.unusedSectionVars false
namespace Go.Proofs.Ytbgmbnikpjjmcaa.AM.F07
open Go Go.Proofs.Ytbgmbnikpjjmcaa.AM

set_option maxRecDepth 1000000 in
theorem names_run : okRun (callR F (run F 300) fn_rotalaw07_BusNames [] []) = true := by kernel_rfl
end Go.Proofs.Ytbgmbnikpjjmcaa.AM.F07
