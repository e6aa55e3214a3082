/- A closed law, worked out piece by piece; the states between were printed by a program of this claim's. -/
import Derived.Test.YtikbahcddohijaaF05nsa
import Derived.KernelRfl
set_option linter.unusedVariables false
set_option linter.unusedSimpArgs false
set_option linter.unusedSectionVars false
namespace Go.Proofs.Ytikbahcddohijaa.AM.F05
open Go Go.Proofs.Ytikbahcddohijaa.AM
set_option maxRecDepth 1000000 in
theorem p3 : stepOk F 0 300 ((spine c_rotalaw05_KernNames).getD 3 .bad) s3 s4 = true := by kernel_rfl
set_option maxRecDepth 1000000 in
theorem p4 : stepOk F 0 300 ((spine c_rotalaw05_KernNames).getD 4 .bad) s4 s5 = true := by kernel_rfl
set_option maxRecDepth 1000000 in
theorem p5 : stepOk F 0 300 ((spine c_rotalaw05_KernNames).getD 5 .bad) s5 s6 = true := by kernel_rfl
end Go.Proofs.Ytikbahcddohijaa.AM.F05
