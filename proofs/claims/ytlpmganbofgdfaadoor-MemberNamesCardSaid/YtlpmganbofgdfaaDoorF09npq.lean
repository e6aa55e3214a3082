/- A closed law, worked out piece by piece; the states between were printed by a program of this claim's. -/
import Derived.Test.YtlpmganbofgdfaaDoorF09nsc
import Derived.KernelRfl
set_option linter.unusedVariables false
set_option linter.unusedSimpArgs false
set_option linter.unusedSectionVars false
namespace Go.Proofs.YtlpmganbofgdfaaDoor.AM.F09
open Go Go.Proofs.YtlpmganbofgdfaaDoor.AM
set_option maxRecDepth 1000000 in
theorem p32 : stepOk F 1 400 ((spine c_rotalaw09_MemberNames).getD 32 .bad) s32 s33 = true := by kernel_rfl
set_option maxRecDepth 1000000 in
theorem p33 : stepOk F 1 400 ((spine c_rotalaw09_MemberNames).getD 33 .bad) s33 s34 = true := by kernel_rfl
end Go.Proofs.YtlpmganbofgdfaaDoor.AM.F09
