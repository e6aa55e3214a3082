/- A closed law, worked out piece by piece; the states between were printed by a program of this claim's. -/
import Derived.Test.YtikbahcddohijaaF05nsa
import Derived.KernelRfl
set_option linter.unusedVariables false
set_option linter.unusedSimpArgs false
set_option linter.unusedSectionVars false
namespace Go.Proofs.Ytikbahcddohijaa.AM.F05
open Go Go.Proofs.Ytikbahcddohijaa.AM
set_option maxRecDepth 1000000 in
theorem p15 : stepOk F 0 300 ((spine c_rotalaw05_KernNames).getD 15 .bad) s15 s16 = true := by kernel_rfl
set_option maxRecDepth 1000000 in
theorem p16 : stepOk F 0 300 ((spine c_rotalaw05_KernNames).getD 16 .bad) s16 s17 = true := by kernel_rfl
set_option maxRecDepth 1000000 in
theorem p17 : stepOk F 0 300 ((spine c_rotalaw05_KernNames).getD 17 .bad) s17 s18 = true := by kernel_rfl
end Go.Proofs.Ytikbahcddohijaa.AM.F05
