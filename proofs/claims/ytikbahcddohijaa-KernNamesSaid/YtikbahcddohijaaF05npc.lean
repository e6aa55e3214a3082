/- A closed law, worked out piece by piece; the states between were printed by a program of this claim's. -/
import Derived.Test.YtikbahcddohijaaF05nsa
import Derived.KernelRfl
set_option linter.unusedVariables false
set_option linter.unusedSimpArgs false
set_option linter.unusedSectionVars false
namespace Go.Proofs.Ytikbahcddohijaa.AM.F05
open Go Go.Proofs.Ytikbahcddohijaa.AM
set_option maxRecDepth 1000000 in
theorem p6 : stepOk F 0 300 ((spine c_rotalaw05_KernNames).getD 6 .bad) s6 s7 = true := by kernel_rfl
set_option maxRecDepth 1000000 in
theorem p7 : stepOk F 0 300 ((spine c_rotalaw05_KernNames).getD 7 .bad) s7 s8 = true := by kernel_rfl
set_option maxRecDepth 1000000 in
theorem p8 : stepOk F 0 300 ((spine c_rotalaw05_KernNames).getD 8 .bad) s8 s9 = true := by kernel_rfl
end Go.Proofs.Ytikbahcddohijaa.AM.F05
