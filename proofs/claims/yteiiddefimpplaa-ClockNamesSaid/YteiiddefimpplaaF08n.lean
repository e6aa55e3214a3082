/- The closed law ClockNames, worked out. -/
import Derived.Test.YteiiddefimpplaaA3
import Derived.Test.YteiiddefimpplaaIRF08
import Derived.KernelRfl
set_option linter.unusedVariables false
set_option linter.unusedSimpArgs false
set_option linter.unusedSectionVars false
namespace Go.Proofs.Yteiiddefimpplaa.AM.F08
open Go Go.Proofs.Yteiiddefimpplaa.AM

set_option maxRecDepth 1000000 in
theorem names_run : okRun (callR F (run F 300) fn_rotalaw08_ClockNames [] []) = true := by kernel_rfl
end Go.Proofs.Yteiiddefimpplaa.AM.F08
