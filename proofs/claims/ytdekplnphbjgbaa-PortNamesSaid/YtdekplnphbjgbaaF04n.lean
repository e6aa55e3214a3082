/- The closed laws of package port, worked out. -/
import Derived.Test.YtdekplnphbjgbaaA3
import Derived.Test.YtdekplnphbjgbaaIRF04
import Derived.KernelRfl
set_option linter.unusedVariables false
set_option linter.unusedSimpArgs false
set_option linter.unusedSectionVars false
namespace Go.Proofs.Ytdekplnphbjgbaa.AM.F04
open Go Go.Proofs.Ytdekplnphbjgbaa.AM
set_option maxRecDepth 1000000 in
theorem names_run : okRun (callR F (run F 200) fn_rotalaw04_PortNames [] []) = true := by kernel_rfl
end Go.Proofs.Ytdekplnphbjgbaa.AM.F04
