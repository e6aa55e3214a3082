/- The closed laws of package vote, worked out. -/
import Derived.Test.YtcjonjncekcfhaaA3
import Derived.Test.YtcjonjncekcfhaaIRF22
import Derived.KernelRfl
set_option linter.unusedVariables false
set_option linter.unusedSimpArgs false
set_option linter.unusedSectionVars false
namespace Go.Proofs.Ytcjonjncekcfhaa.AM.F22
open Go Go.Proofs.Ytcjonjncekcfhaa.AM
set_option maxRecDepth 1000000 in
theorem names_run : okRun (callR F (run F 200) fn_rotalaw22_VoteNames [] []) = true := by kernel_rfl
end Go.Proofs.Ytcjonjncekcfhaa.AM.F22
