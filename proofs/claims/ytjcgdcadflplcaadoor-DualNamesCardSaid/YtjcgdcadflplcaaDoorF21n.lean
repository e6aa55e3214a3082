/- A closed law, worked out piece by piece; the states between were printed by a program of this claim's. -/
import Derived.Test.YtjcgdcadflplcaaDoorF21npa
import Derived.Test.YtjcgdcadflplcaaDoorF21npb
import Derived.Test.YtjcgdcadflplcaaDoorF21npc
import Derived.Test.YtjcgdcadflplcaaDoorF21npd
import Derived.Test.YtjcgdcadflplcaaDoorF21npe
import Derived.Test.YtjcgdcadflplcaaDoorF21npf
import Derived.Test.YtjcgdcadflplcaaDoorF21npg
import Derived.Test.YtjcgdcadflplcaaDoorF21nph
import Derived.Test.YtjcgdcadflplcaaDoorF21npi
import Derived.Test.YtjcgdcadflplcaaDoorF21npj
import Derived.Test.YtjcgdcadflplcaaDoorF21npk
import Derived.KernelRfl
set_option linter.unusedVariables false
set_option linter.unusedSimpArgs false
set_option linter.unusedSectionVars false
namespace Go.Proofs.YtjcgdcadflplcaaDoor.AM.F21
open Go Go.Proofs.YtjcgdcadflplcaaDoor.AM
set_option maxRecDepth 1000000 in
theorem all_b : (spine c_rotalaw21_DualNames).all (codeB 1) = true := by kernel_rfl
set_option maxRecDepth 1000000 in
theorem fs_b : fs.all (fun f => codeB 1 f.2.body) = true := by kernel_rfl
theorem F_b : FnB 1 F := FnB_funsX fs_b fun f g h q a a' H H' ha hh => by
    unfold X at h
    split at h
    · cases h; exact loadX_J ha hh
    split at h
    · cases h; exact addX_J ha hh
    cases h
theorem len_b : (spine c_rotalaw21_DualNames).length = 11 := by kernel_rfl
theorem names_wc : WC F fn_rotalaw21_DualNames [] (tabs [(0, .u32, nib)]) fun v _ => v = .c (.bool true) := by
  refine WC_code e_rotalaw21_DualNames ?_
  have h10 := piece_end (F := F) (l := spine c_rotalaw21_DualNames) (i := 10) (by rw [len_b]) p10
  have h9 := piece F_b all_b (i := 9) (by rw [len_b]; omega) p9 h10
  have h8 := piece F_b all_b (i := 8) (by rw [len_b]; omega) p8 h9
  have h7 := piece F_b all_b (i := 7) (by rw [len_b]; omega) p7 h8
  have h6 := piece F_b all_b (i := 6) (by rw [len_b]; omega) p6 h7
  have h5 := piece F_b all_b (i := 5) (by rw [len_b]; omega) p5 h6
  have h4 := piece F_b all_b (i := 4) (by rw [len_b]; omega) p4 h5
  have h3 := piece F_b all_b (i := 3) (by rw [len_b]; omega) p3 h4
  have h2 := piece F_b all_b (i := 2) (by rw [len_b]; omega) p2 h3
  have h1 := piece F_b all_b (i := 1) (by rw [len_b]; omega) p1 h2
  have h0 := piece F_b all_b (i := 0) (by rw [len_b]; omega) p0 h1
  rw [List.drop_zero, seqOf_spine] at h0
  exact h0
end Go.Proofs.YtjcgdcadflplcaaDoor.AM.F21
