/- A closed law, worked out piece by piece; the states between were printed by a program of this claim's. -/
import Derived.Test.YtikbahcddohijaaF05npa
import Derived.Test.YtikbahcddohijaaF05npb
import Derived.Test.YtikbahcddohijaaF05npc
import Derived.Test.YtikbahcddohijaaF05npd
import Derived.Test.YtikbahcddohijaaF05npe
import Derived.Test.YtikbahcddohijaaF05npf
import Derived.Test.YtikbahcddohijaaF05npg
import Derived.Test.YtikbahcddohijaaF05nph
import Derived.KernelRfl
set_option linter.unusedVariables false
set_option linter.unusedSimpArgs false
set_option linter.unusedSectionVars false
namespace Go.Proofs.Ytikbahcddohijaa.AM.F05
open Go Go.Proofs.Ytikbahcddohijaa.AM
set_option maxRecDepth 1000000 in
theorem all_b : (spine c_rotalaw05_KernNames).all (codeB 0) = true := by kernel_rfl
set_option maxRecDepth 1000000 in
theorem fs_b : fs.all (fun f => codeB 0 f.2.body) = true := by kernel_rfl
theorem F_b : FnB 0 F := FnB_funs fs_b
theorem len_b : (spine c_rotalaw05_KernNames).length = 22 := by kernel_rfl
set_option maxRecDepth 1000000 in
theorem s0_eq : (⟨[] ++ List.replicate (259 - ([] : List V).length) .undef, [], []⟩ : St) = s0 := by kernel_rfl
theorem names_wc : WC F fn_rotalaw05_KernNames [] ([]) fun v _ => v = .c (.bool true) := by
  refine WC_code e_rotalaw05_KernNames ?_
  have h21 := piece_end (F := F) (l := spine c_rotalaw05_KernNames) (i := 21) (by rw [len_b]) p21
  have h20 := piece F_b all_b (i := 20) (by rw [len_b]; omega) p20 h21
  have h19 := piece F_b all_b (i := 19) (by rw [len_b]; omega) p19 h20
  have h18 := piece F_b all_b (i := 18) (by rw [len_b]; omega) p18 h19
  have h17 := piece F_b all_b (i := 17) (by rw [len_b]; omega) p17 h18
  have h16 := piece F_b all_b (i := 16) (by rw [len_b]; omega) p16 h17
  have h15 := piece F_b all_b (i := 15) (by rw [len_b]; omega) p15 h16
  have h14 := piece F_b all_b (i := 14) (by rw [len_b]; omega) p14 h15
  have h13 := piece F_b all_b (i := 13) (by rw [len_b]; omega) p13 h14
  have h12 := piece F_b all_b (i := 12) (by rw [len_b]; omega) p12 h13
  have h11 := piece F_b all_b (i := 11) (by rw [len_b]; omega) p11 h12
  have h10 := piece F_b all_b (i := 10) (by rw [len_b]; omega) p10 h11
  have h9 := piece F_b all_b (i := 9) (by rw [len_b]; omega) p9 h10
  have h8 := piece F_b all_b (i := 8) (by rw [len_b]; omega) p8 h9
  have h7 := piece F_b all_b (i := 7) (by rw [len_b]; omega) p7 h8
  have h6 := piece F_b all_b (i := 6) (by rw [len_b]; omega) p6 h7
  have h5 := piece F_b all_b (i := 5) (by rw [len_b]; omega) p5 h6
  have h4 := piece F_b all_b (i := 4) (by rw [len_b]; omega) p4 h5
  have h3 := piece F_b all_b (i := 3) (by rw [len_b]; omega) p3 h4
  have h2 := piece F_b all_b (i := 2) (by rw [len_b]; omega) p2 h3
  have h1 := piece F_b all_b (i := 1) (by rw [len_b]; omega) p1 h2
  have h0 := piece F_b all_b (i := 0) (by rw [len_b]; omega) p0 h1
  rw [List.drop_zero, seqOf_spine, ← s0_eq] at h0
  exact h0
end Go.Proofs.Ytikbahcddohijaa.AM.F05
