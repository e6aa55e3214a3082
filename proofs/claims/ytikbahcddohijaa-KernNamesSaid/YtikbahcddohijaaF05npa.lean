/- A closed law, worked out piece by piece; the states between were printed by a program of this claim's. -/
import Derived.Test.YtikbahcddohijaaF05nsa
import Derived.KernelRfl
set_option linter.unusedVariables false
set_option linter.unusedSimpArgs false
set_option linter.unusedSectionVars false
namespace Go.Proofs.Ytikbahcddohijaa.AM.F05
open Go Go.Proofs.Ytikbahcddohijaa.AM
set_option maxRecDepth 1000000 in
theorem p0 : stepOk F 0 300 ((spine c_rotalaw05_KernNames).getD 0 .bad) s0 s1 = true := by kernel_rfl
set_option maxRecDepth 1000000 in
theorem p1 : stepOk F 0 300 ((spine c_rotalaw05_KernNames).getD 1 .bad) s1 s2 = true := by kernel_rfl
set_option maxRecDepth 1000000 in
theorem p2 : stepOk F 0 300 ((spine c_rotalaw05_KernNames).getD 2 .bad) s2 s3 = true := by kernel_rfl
end Go.Proofs.Ytikbahcddohijaa.AM.F05
