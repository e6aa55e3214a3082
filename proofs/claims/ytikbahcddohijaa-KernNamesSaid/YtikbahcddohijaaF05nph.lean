/- A closed law, worked out piece by piece; the states between were printed by a program of this claim's. -/
import Derived.Test.YtikbahcddohijaaF05nsa
import Derived.KernelRfl
set_option linter.unusedVariables false
set_option linter.unusedSimpArgs false
set_option linter.unusedSectionVars false
namespace Go.Proofs.Ytikbahcddohijaa.AM.F05
open Go Go.Proofs.Ytikbahcddohijaa.AM
set_option maxRecDepth 1000000 in
theorem p21 : endOk F 300 ((spine c_rotalaw05_KernNames).getD 21 .bad) i_rotalaw05_KernNames.res s21 = true := by kernel_rfl
end Go.Proofs.Ytikbahcddohijaa.AM.F05
