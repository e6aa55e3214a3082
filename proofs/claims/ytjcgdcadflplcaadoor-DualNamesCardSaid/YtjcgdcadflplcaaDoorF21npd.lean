/- A closed law, worked out piece by piece; the states between were printed by a program of this claim's. -/
import Derived.Test.YtjcgdcadflplcaaDoorF21nsa
import Derived.KernelRfl
set_option linter.unusedVariables false
set_option linter.unusedSimpArgs false
set_option linter.unusedSectionVars false
namespace Go.Proofs.YtjcgdcadflplcaaDoor.AM.F21
open Go Go.Proofs.YtjcgdcadflplcaaDoor.AM
set_option maxRecDepth 1000000 in
theorem p3 : stepOk F 1 300 ((spine c_rotalaw21_DualNames).getD 3 .bad) s3 s4 = true := by kernel_rfl
end Go.Proofs.YtjcgdcadflplcaaDoor.AM.F21
