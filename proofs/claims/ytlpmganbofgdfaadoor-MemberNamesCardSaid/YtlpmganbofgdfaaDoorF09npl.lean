/- A closed law, worked out piece by piece; the states between were printed by a program of this claim's. -/
import Derived.Test.YtlpmganbofgdfaaDoorF09nsc
import Derived.KernelRfl
set_option linter.unusedVariables false
set_option linter.unusedSimpArgs false
set_option linter.unusedSectionVars false
namespace Go.Proofs.YtlpmganbofgdfaaDoor.AM.F09
open Go Go.Proofs.YtlpmganbofgdfaaDoor.AM
set_option maxRecDepth 1000000 in
theorem p22 : stepOk F 1 400 ((spine c_rotalaw09_MemberNames).getD 22 .bad) s22 s23 = true := by kernel_rfl
set_option maxRecDepth 1000000 in
theorem p23 : stepOk F 1 400 ((spine c_rotalaw09_MemberNames).getD 23 .bad) s23 s24 = true := by kernel_rfl
end Go.Proofs.YtlpmganbofgdfaaDoor.AM.F09
