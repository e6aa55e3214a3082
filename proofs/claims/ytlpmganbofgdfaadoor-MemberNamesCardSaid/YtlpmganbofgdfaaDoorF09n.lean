/- A closed law, worked out piece by piece; the states between were printed by a program of this claim's. -/
import Derived.Test.YtlpmganbofgdfaaDoorF09npa
import Derived.Test.YtlpmganbofgdfaaDoorF09npb
import Derived.Test.YtlpmganbofgdfaaDoorF09npc
import Derived.Test.YtlpmganbofgdfaaDoorF09npd
import Derived.Test.YtlpmganbofgdfaaDoorF09npe
import Derived.Test.YtlpmganbofgdfaaDoorF09npf
import Derived.Test.YtlpmganbofgdfaaDoorF09npg
import Derived.Test.YtlpmganbofgdfaaDoorF09nph
import Derived.Test.YtlpmganbofgdfaaDoorF09npi
import Derived.Test.YtlpmganbofgdfaaDoorF09npj
import Derived.Test.YtlpmganbofgdfaaDoorF09npk
import Derived.Test.YtlpmganbofgdfaaDoorF09npl
import Derived.Test.YtlpmganbofgdfaaDoorF09npm
import Derived.Test.YtlpmganbofgdfaaDoorF09npn
import Derived.Test.YtlpmganbofgdfaaDoorF09npo
import Derived.Test.YtlpmganbofgdfaaDoorF09npp
import Derived.Test.YtlpmganbofgdfaaDoorF09npq
import Derived.Test.YtlpmganbofgdfaaDoorF09npr
import Derived.Test.YtlpmganbofgdfaaDoorF09nps
import Derived.Test.YtlpmganbofgdfaaDoorF09npt
import Derived.Test.YtlpmganbofgdfaaDoorF09npu
import Derived.KernelRfl
set_option linter.unusedVariables false
set_option linter.unusedSimpArgs false
set_option linter.unusedSectionVars false
namespace Go.Proofs.YtlpmganbofgdfaaDoor.AM.F09
open Go Go.Proofs.YtlpmganbofgdfaaDoor.AM
set_option maxRecDepth 1000000 in
theorem all_b : (spine c_rotalaw09_MemberNames).all (codeB 1) = true := by kernel_rfl
set_option maxRecDepth 1000000 in
theorem fs_b : fs.all (fun f => codeB 1 f.2.body) = true := by kernel_rfl
theorem F_b : FnB 1 F := FnB_funs fs_b
theorem len_b : (spine c_rotalaw09_MemberNames).length = 41 := by kernel_rfl
set_option maxRecDepth 1000000 in
theorem s0_eq : (⟨[] ++ List.replicate (320 - ([] : List V).length) .undef, [], tabs [(0, .u32, nib)]⟩ : St) = s0 := by kernel_rfl
theorem names_wc : WC F fn_rotalaw09_MemberNames [] (tabs [(0, .u32, nib)]) fun v _ => v = .c (.bool true) := by
  refine WC_code e_rotalaw09_MemberNames ?_
  have h40 := piece_end (F := F) (l := spine c_rotalaw09_MemberNames) (i := 40) (by rw [len_b]) p40
  have h39 := piece F_b all_b (i := 39) (by rw [len_b]; omega) p39 h40
  have h38 := piece F_b all_b (i := 38) (by rw [len_b]; omega) p38 h39
  have h37 := piece F_b all_b (i := 37) (by rw [len_b]; omega) p37 h38
  have h36 := piece F_b all_b (i := 36) (by rw [len_b]; omega) p36 h37
  have h35 := piece F_b all_b (i := 35) (by rw [len_b]; omega) p35 h36
  have h34 := piece F_b all_b (i := 34) (by rw [len_b]; omega) p34 h35
  have h33 := piece F_b all_b (i := 33) (by rw [len_b]; omega) p33 h34
  have h32 := piece F_b all_b (i := 32) (by rw [len_b]; omega) p32 h33
  have h31 := piece F_b all_b (i := 31) (by rw [len_b]; omega) p31 h32
  have h30 := piece F_b all_b (i := 30) (by rw [len_b]; omega) p30 h31
  have h29 := piece F_b all_b (i := 29) (by rw [len_b]; omega) p29 h30
  have h28 := piece F_b all_b (i := 28) (by rw [len_b]; omega) p28 h29
  have h27 := piece F_b all_b (i := 27) (by rw [len_b]; omega) p27 h28
  have h26 := piece F_b all_b (i := 26) (by rw [len_b]; omega) p26 h27
  have h25 := piece F_b all_b (i := 25) (by rw [len_b]; omega) p25 h26
  have h24 := piece F_b all_b (i := 24) (by rw [len_b]; omega) p24 h25
  have h23 := piece F_b all_b (i := 23) (by rw [len_b]; omega) p23 h24
  have h22 := piece F_b all_b (i := 22) (by rw [len_b]; omega) p22 h23
  have h21 := piece F_b all_b (i := 21) (by rw [len_b]; omega) p21 h22
  have h20 := piece F_b all_b (i := 20) (by rw [len_b]; omega) p20 h21
  have h19 := piece F_b all_b (i := 19) (by rw [len_b]; omega) p19 h20
  have h18 := piece F_b all_b (i := 18) (by rw [len_b]; omega) p18 h19
  have h17 := piece F_b all_b (i := 17) (by rw [len_b]; omega) p17 h18
  have h16 := piece F_b all_b (i := 16) (by rw [len_b]; omega) p16 h17
  have h15 := piece F_b all_b (i := 15) (by rw [len_b]; omega) p15 h16
  have h14 := piece F_b all_b (i := 14) (by rw [len_b]; omega) p14 h15
  have h13 := piece F_b all_b (i := 13) (by rw [len_b]; omega) p13 h14
  have h12 := piece F_b all_b (i := 12) (by rw [len_b]; omega) p12 h13
  have h11 := piece F_b all_b (i := 11) (by rw [len_b]; omega) p11 h12
  have h10 := piece F_b all_b (i := 10) (by rw [len_b]; omega) p10 h11
  have h9 := piece F_b all_b (i := 9) (by rw [len_b]; omega) p9 h10
  have h8 := piece F_b all_b (i := 8) (by rw [len_b]; omega) p8 h9
  have h7 := piece F_b all_b (i := 7) (by rw [len_b]; omega) p7 h8
  have h6 := piece F_b all_b (i := 6) (by rw [len_b]; omega) p6 h7
  have h5 := piece F_b all_b (i := 5) (by rw [len_b]; omega) p5 h6
  have h4 := piece F_b all_b (i := 4) (by rw [len_b]; omega) p4 h5
  have h3 := piece F_b all_b (i := 3) (by rw [len_b]; omega) p3 h4
  have h2 := piece F_b all_b (i := 2) (by rw [len_b]; omega) p2 h3
  have h1 := piece F_b all_b (i := 1) (by rw [len_b]; omega) p1 h2
  have h0 := piece F_b all_b (i := 0) (by rw [len_b]; omega) p0 h1
  rw [List.drop_zero, seqOf_spine, ← s0_eq] at h0
  exact h0
end Go.Proofs.YtlpmganbofgdfaaDoor.AM.F09
