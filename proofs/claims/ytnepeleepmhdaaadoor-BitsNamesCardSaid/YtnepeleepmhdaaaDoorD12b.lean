/- What the functions of chapter 12 come to, second part: the members, one after another. -/
import Derived.Test.YtnepeleepmhdaaaDoorP12c
import Derived.Test.YtnepeleepmhdaaaDoorD12a
set_option linter.unusedVariables false
set_option linter.unusedSimpArgs false
set_option linter.unusedSectionVars false
namespace Go.Proofs.YtnepeleepmhdaaaDoor.AM.D12
open Go Go.Proofs.YtnepeleepmhdaaaDoor.AM Go.Proofs.YtnepeleepmhdaaaDoor.AM.P12
set_option maxHeartbeats 2000000
set_option maxRecDepth 100000
attribute [local go_sem] ev_L k_ev Env.up_app Env.of_app aop_mv aop_pick aop_bin aop_eq aop_eqagg aop_un aop_cv aop_nilck aop_ld aop_st aop_iaS aop_iaA aop_fa aop_fld aop_ix aop_ext aop_len aop_lenK aop_box aop_new aop_build aop_bsl aop_mkfn aop_call callO_fn callO_yld aop_app aop_appT aop_cpy aop_clr aop_ins aop_look aop_mksl aop_mkmap aop_s2b s2bO_str mkslO_int aop_slS aop_same aop_b2s fillB_nil outO outS Option.map_none List.length_cons List.length_nil List.length_append List.length_set List.length_replicate List.set_cons_zero List.set_cons_succ pickO_true pickO_false binO_c eqO_c eqaO_agg unO_c cvO_int nilckO_ptr nilckO_fn ldO_one ldO_row stO_one stO_if okA_some oa_some iaSO_sl iaSO_some iaAO_ptr faO_ptr fldO_agg ixO_agg extO_tup lenO_sl lenO_str V.cells_c V.cells_agg Option.map_some Option.bind_some Option.getD_some List.getElem?_cons_zero List.getElem?_cons_succ List.map_cons List.map_nil V.pc Pc.v asI adsOf adOf Int.toNat_natCast Nat.mul_one Nat.zero_mul Int.ofNat_lt lss_int leq_int gtr_int geq_int eql_int neq_int and_int or_int xor_int andNot_int shr_u8_i shr_u16_i shr_u32_i shr_u64_i shr_i64_i and_u8_i and_u16_i and_u32_i and_u64_i or_u8_i or_u16_i or_u32_i or_u64_i xor_u8_i xor_u16_i xor_u32_i xor_u64_i wrap_u8_i wrap_u16_i wrap_u32_i wrap_u64_i wr_i64 and15 and1 and7 addA_mk Nat.zero_add Nat.add_zero beq_self_eq_true dec_t dec_f decide_true decide_false not_true_eq_false Int.natCast_inj Bool.not_true Bool.not_false Bool.false_eq_true if_true if_false Int.cast_ofNat_Int ne_eq not_false_eq_true Ex.exit.injEq resOf resV L_get? List.mapM_cons List.mapM_nil shutAll_nil shutAll_one ld_blk ldn_blk st_blk ldB_some ldnB_some stB_some put_nil put_cons rdK_ld rdK_b2s List.append_nil List.nil_append List.cons_append List.zip_cons_cons List.zip_nil_left List.zip_nil_right List.foldl_cons List.foldl_nil L_set L_set' rd_one rd_row Option.pure_def Option.bind_eq_bind and_self and_true true_and bne_t bne_f Option.isNone_some Option.isNone_none eqC_bb eqC_pn eqC_ps eqC_sn eqC_ss eqC_fn1 eqC_fn2 eqC_fn3 eqC_mn eqC_ms nats_len nats_get aop_slA slAO_all fillB_cons sameO eq_self add_u8_i add_u16_i add_u32_i add_u64_i mul_u8_i mul_u16_i mul_u32_i mul_u64_i sub_u8_i sub_u16_i sub_u32_i sub_u64_i quo_u8_i quo_u16_i quo_u32_i quo_u64_i rem_u8_i rem_u16_i rem_u32_i rem_u64_i shl_u8_i shl_u16_i shl_u32_i shl_u64_i quo_i64_i rem_i64_i shl_i64_i or_i64_i and_i64_i and_i64_15 and_i64_31 or256 str_eql str_add str_neq bstr_append bstr_size b2sO_ld b2sO_nil strOf_nats sub_nats un_xor_u8 un_xor_u16 un_xor_u32 un_xor_u64 un_neg un_not not_dec beq_int bne_int pickO_dec ld_addA ldn_addA st_addA slSO_lohi slSO_hi Nat.mod_eq_of_lt if_pos if_neg
attribute [local go_sem 500] wrap_u8_z wrap_u16_z wrap_u32_z wrap_u64_z add_int sub_int mul_int
attribute [-go_sem] un_neg mul_u64_i shr_u64_i mul_int
abbrev deb : List Int := db
def dbB : Blk := .cells (nats .u8 dbN) true none
theorem tab {H : Heap} (h : Begins (tabs [(0, .u8, db)]) H) : H[0]? = some dbB := h 0 _ rfl
theorem unneg64 {x : Nat} (h : 0 < x ∧ x < 18446744073709551616) : unC .neg (.int .u64 (x : Nat)) = some (.int .u64 ((18446744073709551616 - x : Nat) : Int)) := by
  rw [un_neg, wrap_u64_z]; congr 3; omega
theorem s_Trail {H : Heap} {x : Nat} (hT : H[0]? = some dbB) (h0 : x ≠ 0) (hx : x < 18446744073709551616) :
    WC F fn_bits_TrailingZeros64 [.c (.int .u64 (x : Nat))] H fun v H' => v = .c (.int .i64 (tz 64 x : Nat)) ∧ H' = H := by
  have p64 : (2 : Nat) ^ 64 = 18446744073709551616 := by decide
  have ht : tz 64 x < 64 := tz_lt h0 (by rw [p64]; exact hx)
  have hn := and_neg (n := 64) h0 (by rw [p64]; exact hx)
  rw [p64] at hn
  have hneg := unneg64 (x := x) (by omega)
  obtain ⟨nx, hnx⟩ : ∃ nx, 18446744073709551616 - x = nx := ⟨_, rfl⟩
  rw [hnx] at hneg hn
  clear hnx
  have hd := db_at _ ht
  have hw : 2 ^ tz 64 x < 18446744073709551616 := by rw [← p64]; exact Nat.pow_lt_pow_right (by decide) ht
  clear p64
  generalize tz 64 x = t at *
  generalize 2 ^ t = w at *
  obtain ⟨y, hy⟩ : ∃ y, w * 285870213051353865 % 18446744073709551616 / 288230376151711744 = y := ⟨_, rfl⟩
  rw [hy] at hd
  obtain ⟨d1, d2⟩ := hd
  have hl : ldB (some dbB) y = some (.int .u8 (t : Nat)) := by
    rw [← d2]
    have : ∀ y, y < 64 → ldB (some dbB) y = some (.int .u8 (gx dbN y : Nat)) := by decide +kernel
    exact this y d1
  have hmul : binC .mul (.int .u64 (w : Nat)) (.int .u64 285870213051353865) = some (.int .u64 ((w * 285870213051353865 % 18446744073709551616 : Nat) : Int)) := mul_u64_i (by omega)
  have hshr : binC .shr (.int .u64 ((w * 285870213051353865 % 18446744073709551616 : Nat) : Int)) (.int .u64 58) = some (.int .u64 (y : Nat)) := by
    rw [shr_u64_i _ (by omega), ← hy, Int.toNat_natCast, show (58 : Int).toNat = 58 from rfl, show (2 : Nat) ^ 58 = 288230376151711744 by decide]
  clear hy d2
  generalize w * 285870213051353865 % 18446744073709551616 = m at *
  refine WC_start e_bits_TrailingZeros64 (by simp) ?_
  unfold c_bits_TrailingZeros64
  repeat (with_reducible first|(first|refine pO ?_|refine pP ?_|refine pQ ?_|refine pR (by omega) ?_);intros|refine pS ?_|first|refine qA ?_|refine qB ?_|refine qC ?_|refine qD ?_|refine qE ?_|refine qF ?_|refine qG ?_|refine qH ?_|refine qI ?_|refine qJ ?_|refine qK ?_|refine qL ?_|refine qM rfl ?_|refine qN ?_|refine qO ?_|refine qP ?_|refine qQ ?_|refine qR ?_|refine qS ?_|refine qT ?_|refine qU ?_|refine qV ?_|refine qW ?_|refine qX ?_|refine qY ?_|refine qZ ?_|refine pA ?_|refine pB ?_|refine pC ?_|(first|refine pD ?_|refine pE ?_|refine pF ?_|refine pG ?_|refine pH ?_|refine pI ?_|refine pJ ?_|refine pK ?_|refine pL ?_|refine pM ?_|refine pN ?_);simp (disch := first | with_reducible assumption | omega) only [go_sem, *, reduceCtorEq, ↓reduceIte, Nat.reduceLT, Nat.reduceBEq, Nat.reduceAdd, Nat.reduceSub, Nat.reduceMul, Nat.reduceDiv, Nat.reduceMod, Nat.reducePow, Nat.reduceEqDiff, Nat.reduceLeDiff, Int.reduceLT, Int.reduceLE, Int.reduceNeg, Int.reduceToNat, Int.reduceAdd, Int.reduceSub, Int.reduceMul, Int.reduceEq, Int.reduceNe, Int.reduceBEq, Int.reduceBNe, Int.reducePow])
  exact ⟨rfl, rfl⟩
end Go.Proofs.YtnepeleepmhdaaaDoor.AM.D12
