/- A closed law, worked out piece by piece; the states between were printed by a program of this claim's. -/
import Derived.Test.YtikbahcddohijaaF05nsa
import Derived.KernelRfl
set_option linter.unusedVariables false
set_option linter.unusedSimpArgs false
set_option linter.unusedSectionVars false
namespace Go.Proofs.Ytikbahcddohijaa.AM.F05
open Go Go.Proofs.Ytikbahcddohijaa.AM
set_option maxRecDepth 1000000 in
theorem p9 : stepOk F 0 300 ((spine c_rotalaw05_KernNames).getD 9 .bad) s9 s10 = true := by kernel_rfl
set_option maxRecDepth 1000000 in
theorem p10 : stepOk F 0 300 ((spine c_rotalaw05_KernNames).getD 10 .bad) s10 s11 = true := by kernel_rfl
set_option maxRecDepth 1000000 in
theorem p11 : stepOk F 0 300 ((spine c_rotalaw05_KernNames).getD 11 .bad) s11 s12 = true := by kernel_rfl
end Go.Proofs.Ytikbahcddohijaa.AM.F05
