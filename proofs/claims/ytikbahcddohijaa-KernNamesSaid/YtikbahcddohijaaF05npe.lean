/- A closed law, worked out piece by piece; the states between were printed by a program of this claim's. -/
import Derived.Test.YtikbahcddohijaaF05nsa
import Derived.KernelRfl
set_option linter.unusedVariables false
set_option linter.unusedSimpArgs false
set_option linter.unusedSectionVars false
namespace Go.Proofs.Ytikbahcddohijaa.AM.F05
open Go Go.Proofs.Ytikbahcddohijaa.AM
set_option maxRecDepth 1000000 in
theorem p12 : stepOk F 0 300 ((spine c_rotalaw05_KernNames).getD 12 .bad) s12 s13 = true := by kernel_rfl
set_option maxRecDepth 1000000 in
theorem p13 : stepOk F 0 300 ((spine c_rotalaw05_KernNames).getD 13 .bad) s13 s14 = true := by kernel_rfl
set_option maxRecDepth 1000000 in
theorem p14 : stepOk F 0 300 ((spine c_rotalaw05_KernNames).getD 14 .bad) s14 s15 = true := by kernel_rfl
end Go.Proofs.Ytikbahcddohijaa.AM.F05
