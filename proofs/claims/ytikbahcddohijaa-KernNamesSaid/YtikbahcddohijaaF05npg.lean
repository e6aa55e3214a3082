/- A closed law, worked out piece by piece; the states between were printed by a program of this claim's. -/
import Derived.Test.YtikbahcddohijaaF05nsa
import Derived.KernelRfl
set_option linter.unusedVariables false
set_option linter.unusedSimpArgs false
set_option linter.unusedSectionVars false
namespace Go.Proofs.Ytikbahcddohijaa.AM.F05
open Go Go.Proofs.Ytikbahcddohijaa.AM
set_option maxRecDepth 1000000 in
theorem p18 : stepOk F 0 300 ((spine c_rotalaw05_KernNames).getD 18 .bad) s18 s19 = true := by kernel_rfl
set_option maxRecDepth 1000000 in
theorem p19 : stepOk F 0 300 ((spine c_rotalaw05_KernNames).getD 19 .bad) s19 s20 = true := by kernel_rfl
set_option maxRecDepth 1000000 in
theorem p20 : stepOk F 0 300 ((spine c_rotalaw05_KernNames).getD 20 .bad) s20 s21 = true := by kernel_rfl
end Go.Proofs.Ytikbahcddohijaa.AM.F05
