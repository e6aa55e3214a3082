/- What the functions of chapter 12 come to: the stage's own look at itself; the law BitsHalves. -/
import Derived.Test.YtnepeleepmhdaaaDoorD12b
import Derived.KernelRfl
set_option linter.unusedVariables false
set_option linter.unusedSimpArgs false
set_option linter.unusedSectionVars false
namespace Go.Proofs.YtnepeleepmhdaaaDoor.AM.D12
open Go Go.Proofs.YtnepeleepmhdaaaDoor.AM Go.Proofs.YtnepeleepmhdaaaDoor.AM.P12
set_option maxHeartbeats 2000000
set_option maxRecDepth 100000
attribute [local go_sem] ev_L k_ev Env.up_app Env.of_app aop_mv aop_pick aop_bin aop_eq aop_eqagg aop_un aop_cv aop_nilck aop_ld aop_st aop_iaS aop_iaA aop_fa aop_fld aop_ix aop_ext aop_len aop_lenK aop_box aop_new aop_build aop_bsl aop_mkfn aop_call callO_fn callO_yld aop_app aop_appT aop_cpy aop_clr aop_ins aop_look aop_mksl aop_mkmap aop_s2b s2bO_str mkslO_int aop_slS aop_same aop_b2s fillB_nil outO outS Option.map_none List.length_cons List.length_nil List.length_append List.length_set List.length_replicate List.set_cons_zero List.set_cons_succ pickO_true pickO_false binO_c eqO_c eqaO_agg unO_c cvO_int nilckO_ptr nilckO_fn ldO_one ldO_row stO_one stO_if okA_some oa_some iaSO_sl iaSO_some iaAO_ptr faO_ptr fldO_agg ixO_agg extO_tup lenO_sl lenO_str V.cells_c V.cells_agg Option.map_some Option.bind_some Option.getD_some List.getElem?_cons_zero List.getElem?_cons_succ List.map_cons List.map_nil V.pc Pc.v asI adsOf adOf Int.toNat_natCast Nat.mul_one Nat.zero_mul Int.ofNat_lt lss_int leq_int gtr_int geq_int eql_int neq_int and_int or_int xor_int andNot_int shr_u8_i shr_u16_i shr_u32_i shr_u64_i shr_i64_i and_u8_i and_u16_i and_u32_i and_u64_i or_u8_i or_u16_i or_u32_i or_u64_i xor_u8_i xor_u16_i xor_u32_i xor_u64_i wrap_u8_i wrap_u16_i wrap_u32_i wrap_u64_i wr_i64 and15 and1 and7 addA_mk Nat.zero_add Nat.add_zero beq_self_eq_true dec_t dec_f decide_true decide_false not_true_eq_false Int.natCast_inj Bool.not_true Bool.not_false Bool.false_eq_true if_true if_false Int.cast_ofNat_Int ne_eq not_false_eq_true Ex.exit.injEq resOf resV L_get? List.mapM_cons List.mapM_nil shutAll_nil shutAll_one ld_blk ldn_blk st_blk ldB_some ldnB_some stB_some put_nil put_cons rdK_ld rdK_b2s List.append_nil List.nil_append List.cons_append List.zip_cons_cons List.zip_nil_left List.zip_nil_right List.foldl_cons List.foldl_nil L_set L_set' rd_one rd_row Option.pure_def Option.bind_eq_bind and_self and_true true_and bne_t bne_f Option.isNone_some Option.isNone_none eqC_bb eqC_pn eqC_ps eqC_sn eqC_ss eqC_fn1 eqC_fn2 eqC_fn3 eqC_mn eqC_ms nats_len nats_get aop_slA slAO_all fillB_cons sameO eq_self add_u8_i add_u16_i add_u32_i add_u64_i mul_u8_i mul_u16_i mul_u32_i mul_u64_i sub_u8_i sub_u16_i sub_u32_i sub_u64_i quo_u8_i quo_u16_i quo_u32_i quo_u64_i rem_u8_i rem_u16_i rem_u32_i rem_u64_i shl_u8_i shl_u16_i shl_u32_i shl_u64_i quo_i64_i rem_i64_i shl_i64_i or_i64_i and_i64_i and_i64_15 and_i64_31 or256 str_eql str_add str_neq bstr_append bstr_size b2sO_ld b2sO_nil strOf_nats sub_nats un_xor_u8 un_xor_u16 un_xor_u32 un_xor_u64 un_neg un_not not_dec beq_int bne_int pickO_dec ld_addA ldn_addA st_addA slSO_lohi slSO_hi Nat.mod_eq_of_lt if_pos if_neg
attribute [local go_sem 500] wrap_u8_z wrap_u16_z wrap_u32_z wrap_u64_z add_int sub_int mul_int
def T0 : Heap := tabs [(0, .u8, db)]
set_option maxRecDepth 1000000 in
theorem fs_b : fs.all (fun f => codeB 1 f.2.body) = true := by kernel_rfl
theorem F_b : FnB T0.length F := FnB_funs fs_b
set_option maxRecDepth 1000000 in
theorem alive_run : okRun (callR F (run F 300) fn_rotalaw12_alive [] T0) = true := by kernel_rfl
theorem keepF : ExtKeep F := ExtKeep.funs fs
theorem s_alive {H : Heap} (hT : Begins T0 H) : WC F fn_rotalaw12_alive [] H fun v H' => v = .c (.bool true) ∧ Keep H H' :=
  (WC_closed F_b (by decide) alive_run hT).keep keepF
theorem cnt_and_or : ∀ n a b w, cnt n (a &&& w) + cnt n (b &&& w) ≤ cnt n w + cnt n (a &&& b &&& w)
  | 0, _, _, _ => Nat.le_refl _
  | n + 1, a, b, w => by
    have ih := cnt_and_or n (a / 2) (b / 2) (w / 2)
    simp only [cnt]
    rw [Nat.and_div_two, Nat.and_div_two, Nat.and_div_two, Nat.and_div_two]
    have h1 := and_bit a w; have h2 := and_bit b w; have h3 := and_bit (a &&& b) w; have h4 := and_bit a b
    have e : ∀ x y : Nat, (x &&& y) % 2 = if x % 2 = 1 ∧ y % 2 = 1 then 1 else 0 := fun x y => by
      have := and_bit x y; split at this <;> split <;> simp_all <;> omega
    rw [e a w, e b w, e (a &&& b) w, e a b]
    rcases Nat.mod_two_eq_zero_or_one a with ha | ha <;> rcases Nat.mod_two_eq_zero_or_one b with hb | hb <;> rcases Nat.mod_two_eq_zero_or_one w with hw | hw <;> simp [ha, hb, hw] <;> omega
theorem cnt_not : ∀ n a w, a < 2 ^ n → cnt n (a &&& w) + cnt n ((2 ^ n - 1 - a) &&& w) = cnt n w
  | 0, _, _, _ => rfl
  | n + 1, a, w, h => by
    rw [Nat.pow_succ] at h
    have ih := cnt_not n (a / 2) (w / 2) (by omega)
    simp only [cnt]
    rw [Nat.and_div_two, Nat.and_div_two, show (2 ^ (n + 1) - 1 - a) / 2 = 2 ^ n - 1 - a / 2 by rw [Nat.pow_succ]; omega]
    have e : ∀ x y : Nat, (x &&& y) % 2 = if x % 2 = 1 ∧ y % 2 = 1 then 1 else 0 := fun x y => by
      have := and_bit x y; split at this <;> split <;> simp_all <;> omega
    rw [e a w, e _ w]
    have : (2 ^ (n + 1) - 1 - a) % 2 = 1 - a % 2 := by rw [Nat.pow_succ]; omega
    rw [this]
    rcases Nat.mod_two_eq_zero_or_one a with ha | ha <;> rcases Nat.mod_two_eq_zero_or_one w with hw | hw <;> simp [ha, hw] <;> omega
theorem cnt_zero : ∀ n, cnt n 0 = 0
  | 0 => rfl
  | n + 1 => by show 0 % 2 + cnt n (0 / 2) = 0; rw [cnt_zero n]
theorem cnt_pos : ∀ n x, x < 2 ^ n → x ≠ 0 → 0 < cnt n x
  | 0, x, h, h0 => by simp at h; omega
  | n + 1, x, h, h0 => by
    rw [Nat.pow_succ] at h
    show 0 < x % 2 + cnt n (x / 2)
    by_cases hx : x / 2 = 0
    · omega
    · have := cnt_pos n (x / 2) (by omega) hx; omega
theorem xor_inv {a : Nat} (h : a < 18446744073709551616) : 18446744073709551615 ^^^ a = 18446744073709551615 - a := by
  apply Nat.eq_of_testBit_eq
  intro i
  have := Nat.testBit_two_pow_sub_succ (n := 64) (x := a) h i
  rw [show 2 ^ 64 - (a + 1) = 18446744073709551615 - a by omega] at this
  rw [this, Nat.testBit_xor, show (18446744073709551615 : Nat) = 2 ^ 64 - 1 from rfl, Nat.testBit_two_pow_sub_one]
  by_cases hi : i < 64
  · simp [hi]
  · have : a.testBit i = false := Nat.testBit_lt_two_pow (Nat.lt_of_lt_of_le h (Nat.pow_le_pow_right (n := 2) (by decide) (show 64 ≤ i by omega)))
    simp [hi, this]
theorem halves {H : Heap} {a b w : Nat} (hT : Begins T0 H) (ha : a < 18446744073709551616) (hb : b < 18446744073709551616) (hw : w < 18446744073709551616) :
    WC F fn_rotalaw12_BitsHalves [.c (.int .u64 (a : Nat)), .c (.int .u64 (b : Nat)), .c (.int .u64 (w : Nat))] H fun v _ => v = .c (.bool true) := by
  refine WC_start e_rotalaw12_BitsHalves (by simp) ?_
  unfold c_rotalaw12_BitsHalves
  have k1 := cnt_and_or 64 a b w
  have k2 := cnt_not 64 a w ha
  rw [show (2 : Nat) ^ 64 - 1 - a = 18446744073709551615 - a by omega] at k2
  have k3 : cnt 64 (w &&& w) = cnt 64 w := by rw [Nat.and_self]
  have k4 : a &&& b &&& w = 0 → cnt 64 (a &&& b &&& w) = 0 := fun h => by rw [h]; exact cnt_zero _
  have k5 := cnt_pos 64 w hw
  have k6 : w = 0 → cnt 64 w = 0 := fun h => by rw [h]; exact cnt_zero _
  have hx := xor_inv ha
  have hn : (18446744073709551615 - a) < 18446744073709551616 := by omega
  have l1 : (a &&& b) < 18446744073709551616 := Nat.lt_of_le_of_lt Nat.and_le_right hb
  have l2 : (a &&& b &&& w) < 18446744073709551616 := Nat.lt_of_le_of_lt Nat.and_le_right hw
  generalize 18446744073709551615 - a = na at *
  repeat (with_reducible first|(first|refine pO ?_|refine pP ?_|refine pQ ?_|refine pR (by omega) ?_);intros|refine pS ?_|first|refine qA ?_|refine qB ?_|refine qC ?_|refine qD ?_|refine qE ?_|refine qF ?_|refine qG ?_|refine qH ?_|refine qI ?_|refine qJ ?_|refine qK ?_|refine qL ?_|refine qM rfl ?_|refine qN ?_|refine qO ?_|refine qP ?_|refine qQ ?_|refine qR ?_|refine qS ?_|refine qT ?_|refine qU ?_|refine qV ?_|refine qW ?_|refine qX ?_|refine qY ?_|refine qZ ?_|refine pA ?_|refine pB ?_|refine pC ?_|(first|refine pD ?_|refine pE ?_|refine pF ?_|refine pG ?_|refine pH ?_|refine pI ?_|refine pJ ?_|refine pK ?_|refine pL ?_|refine pM ?_|refine pN ?_);simp (disch := first | with_reducible assumption | omega) only [go_sem, *, reduceCtorEq, ↓reduceIte, Nat.reduceLT, Nat.reduceBEq, Nat.reduceAdd, Nat.reduceSub, Nat.reduceMul, Nat.reduceDiv, Nat.reduceMod, Nat.reducePow, Nat.reduceEqDiff, Nat.reduceLeDiff, Int.reduceLT, Int.reduceLE, Int.reduceNeg, Int.reduceToNat, Int.reduceAdd, Int.reduceSub, Int.reduceMul, Int.reduceEq, Int.reduceNe, Int.reduceBEq, Int.reduceBNe, Int.reducePow])
  refine outM_call (s_alive hT) ?_
  rintro _ H1 ⟨rfl, -⟩
  repeat (with_reducible first|(first|refine pO ?_|refine pP ?_|refine pQ ?_|refine pR (by omega) ?_);intros|refine pS ?_|first|refine qA ?_|refine qB ?_|refine qC ?_|refine qD ?_|refine qE ?_|refine qF ?_|refine qG ?_|refine qH ?_|refine qI ?_|refine qJ ?_|refine qK ?_|refine qL ?_|refine qM rfl ?_|refine qN ?_|refine qO ?_|refine qP ?_|refine qQ ?_|refine qR ?_|refine qS ?_|refine qT ?_|refine qU ?_|refine qV ?_|refine qW ?_|refine qX ?_|refine qY ?_|refine qZ ?_|refine pA ?_|refine pB ?_|refine pC ?_|(first|refine pD ?_|refine pE ?_|refine pF ?_|refine pG ?_|refine pH ?_|refine pI ?_|refine pJ ?_|refine pK ?_|refine pL ?_|refine pM ?_|refine pN ?_);simp (disch := first | with_reducible assumption | omega) only [go_sem, *, reduceCtorEq, ↓reduceIte, Nat.reduceLT, Nat.reduceBEq, Nat.reduceAdd, Nat.reduceSub, Nat.reduceMul, Nat.reduceDiv, Nat.reduceMod, Nat.reducePow, Nat.reduceEqDiff, Nat.reduceLeDiff, Int.reduceLT, Int.reduceLE, Int.reduceNeg, Int.reduceToNat, Int.reduceAdd, Int.reduceSub, Int.reduceMul, Int.reduceEq, Int.reduceNe, Int.reduceBEq, Int.reduceBNe, Int.reducePow])
  refine outM_call (s_Majority ha hw) ?_
  rintro _ _ ⟨rfl, rfl⟩
  repeat (with_reducible first|(first|refine pO ?_|refine pP ?_|refine pQ ?_|refine pR (by omega) ?_);intros|refine pS ?_|first|refine qA ?_|refine qB ?_|refine qC ?_|refine qD ?_|refine qE ?_|refine qF ?_|refine qG ?_|refine qH ?_|refine qI ?_|refine qJ ?_|refine qK ?_|refine qL ?_|refine qM rfl ?_|refine qN ?_|refine qO ?_|refine qP ?_|refine qQ ?_|refine qR ?_|refine qS ?_|refine qT ?_|refine qU ?_|refine qV ?_|refine qW ?_|refine qX ?_|refine qY ?_|refine qZ ?_|refine pA ?_|refine pB ?_|refine pC ?_|(first|refine pD ?_|refine pE ?_|refine pF ?_|refine pG ?_|refine pH ?_|refine pI ?_|refine pJ ?_|refine pK ?_|refine pL ?_|refine pM ?_|refine pN ?_);simp (disch := first | with_reducible assumption | omega) only [go_sem, *, reduceCtorEq, ↓reduceIte, Nat.reduceLT, Nat.reduceBEq, Nat.reduceAdd, Nat.reduceSub, Nat.reduceMul, Nat.reduceDiv, Nat.reduceMod, Nat.reducePow, Nat.reduceEqDiff, Nat.reduceLeDiff, Int.reduceLT, Int.reduceLE, Int.reduceNeg, Int.reduceToNat, Int.reduceAdd, Int.reduceSub, Int.reduceMul, Int.reduceEq, Int.reduceNe, Int.reduceBEq, Int.reduceBNe, Int.reducePow])
  refine outM_call (s_Majority hb hw) ?_
  rintro _ _ ⟨rfl, rfl⟩
  repeat (with_reducible first|(first|refine pO ?_|refine pP ?_|refine pQ ?_|refine pR (by omega) ?_);intros|refine pS ?_|first|refine qA ?_|refine qB ?_|refine qC ?_|refine qD ?_|refine qE ?_|refine qF ?_|refine qG ?_|refine qH ?_|refine qI ?_|refine qJ ?_|refine qK ?_|refine qL ?_|refine qM rfl ?_|refine qN ?_|refine qO ?_|refine qP ?_|refine qQ ?_|refine qR ?_|refine qS ?_|refine qT ?_|refine qU ?_|refine qV ?_|refine qW ?_|refine qX ?_|refine qY ?_|refine qZ ?_|refine pA ?_|refine pB ?_|refine pC ?_|(first|refine pD ?_|refine pE ?_|refine pF ?_|refine pG ?_|refine pH ?_|refine pI ?_|refine pJ ?_|refine pK ?_|refine pL ?_|refine pM ?_|refine pN ?_);simp (disch := first | with_reducible assumption | omega) only [go_sem, *, reduceCtorEq, ↓reduceIte, Nat.reduceLT, Nat.reduceBEq, Nat.reduceAdd, Nat.reduceSub, Nat.reduceMul, Nat.reduceDiv, Nat.reduceMod, Nat.reducePow, Nat.reduceEqDiff, Nat.reduceLeDiff, Int.reduceLT, Int.reduceLE, Int.reduceNeg, Int.reduceToNat, Int.reduceAdd, Int.reduceSub, Int.reduceMul, Int.reduceEq, Int.reduceNe, Int.reduceBEq, Int.reduceBNe, Int.reducePow])
  refine outM_call (s_Majority hn hw) ?_
  rintro _ _ ⟨rfl, rfl⟩
  have h13 : ¬ (cnt 64 w < 2 * cnt 64 (a &&& w) ∧ cnt 64 w < 2 * cnt 64 (na &&& w)) := by omega
  have h12 : cnt 64 w < 2 * cnt 64 (a &&& w) ∧ cnt 64 w < 2 * cnt 64 (b &&& w) → a &&& b &&& w ≠ 0 := fun h e => by have := k4 e; omega
  have hww : (cnt 64 w < 2 * cnt 64 (w &&& w)) ↔ w ≠ 0 := by rw [k3]; constructor
                                                             · intro h e; have := k6 e; omega
                                                             · intro h; have := k5 h; omega
  have hd : decide (cnt 64 w < 2 * cnt 64 (w &&& w)) = decide (¬ (w : Int) = 0) := dec_iff (hww.trans (by omega))
  clear k1 k2 k3 k4 k5 k6 hx hww
  have h12' : ∀ (c1 : cnt 64 w < 2 * cnt 64 (a &&& w)) (c2 : cnt 64 w < 2 * cnt 64 (b &&& w)), ((a &&& b &&& w : Nat) : Int) ≠ 0 := fun c1 c2 => by have := h12 ⟨c1, c2⟩; omega
  by_cases c1 : cnt 64 w < 2 * cnt 64 (a &&& w) <;> by_cases c2 : cnt 64 w < 2 * cnt 64 (b &&& w) <;> by_cases c3 : cnt 64 w < 2 * cnt 64 (na &&& w) <;> first | (exfalso; omega) | (first | (replace h12 := h12' c1 c2) | clear h12) <;> clear h12' h13
  all_goals repeat (with_reducible first|(first|refine pO ?_|refine pP ?_|refine pQ ?_|refine pR (by omega) ?_);intros|refine pS ?_|first|refine qA ?_|refine qB ?_|refine qC ?_|refine qD ?_|refine qE ?_|refine qF ?_|refine qG ?_|refine qH ?_|refine qI ?_|refine qJ ?_|refine qK ?_|refine qL ?_|refine qM rfl ?_|refine qN ?_|refine qO ?_|refine qP ?_|refine qQ ?_|refine qR ?_|refine qS ?_|refine qT ?_|refine qU ?_|refine qV ?_|refine qW ?_|refine qX ?_|refine qY ?_|refine qZ ?_|refine pA ?_|refine pB ?_|refine pC ?_|(first|refine pD ?_|refine pE ?_|refine pF ?_|refine pG ?_|refine pH ?_|refine pI ?_|refine pJ ?_|refine pK ?_|refine pL ?_|refine pM ?_|refine pN ?_);simp (disch := first | with_reducible assumption | omega) only [go_sem, *, reduceCtorEq, ↓reduceIte, Nat.reduceLT, Nat.reduceBEq, Nat.reduceAdd, Nat.reduceSub, Nat.reduceMul, Nat.reduceDiv, Nat.reduceMod, Nat.reducePow, Nat.reduceEqDiff, Nat.reduceLeDiff, Int.reduceLT, Int.reduceLE, Int.reduceNeg, Int.reduceToNat, Int.reduceAdd, Int.reduceSub, Int.reduceMul, Int.reduceEq, Int.reduceNe, Int.reduceBEq, Int.reduceBNe, Int.reducePow])
  all_goals refine outM_call (s_Majority hw hw) ?_
  all_goals rintro _ _ ⟨rfl, rfl⟩
  all_goals repeat (with_reducible first|(first|refine pO ?_|refine pP ?_|refine pQ ?_|refine pR (by omega) ?_);intros|refine pS ?_|first|refine qA ?_|refine qB ?_|refine qC ?_|refine qD ?_|refine qE ?_|refine qF ?_|refine qG ?_|refine qH ?_|refine qI ?_|refine qJ ?_|refine qK ?_|refine qL ?_|refine qM rfl ?_|refine qN ?_|refine qO ?_|refine qP ?_|refine qQ ?_|refine qR ?_|refine qS ?_|refine qT ?_|refine qU ?_|refine qV ?_|refine qW ?_|refine qX ?_|refine qY ?_|refine qZ ?_|refine pA ?_|refine pB ?_|refine pC ?_|(first|refine pD ?_|refine pE ?_|refine pF ?_|refine pG ?_|refine pH ?_|refine pI ?_|refine pJ ?_|refine pK ?_|refine pL ?_|refine pM ?_|refine pN ?_);simp (disch := first | with_reducible assumption | omega) only [go_sem, *, reduceCtorEq, ↓reduceIte, Nat.reduceLT, Nat.reduceBEq, Nat.reduceAdd, Nat.reduceSub, Nat.reduceMul, Nat.reduceDiv, Nat.reduceMod, Nat.reducePow, Nat.reduceEqDiff, Nat.reduceLeDiff, Int.reduceLT, Int.reduceLE, Int.reduceNeg, Int.reduceToNat, Int.reduceAdd, Int.reduceSub, Int.reduceMul, Int.reduceEq, Int.reduceNe, Int.reduceBEq, Int.reduceBNe, Int.reducePow])
  all_goals simp
theorem halves_wc (H : Heap) (hT : Begins (tabs [(0, .u8, db)]) H) {x1 x2 x3 : Int} {a1 a2 a3 : V} (h1 : VwV (.int .u64) H x1 a1) (h2 : VwV (.int .u64) H x2 a2) (h3 : VwV (.int .u64) H x3 a3) : WC F fn_rotalaw12_BitsHalves [a1, a2, a3] H fun v _ => v = .c (.bool true) := by
  obtain ⟨n1, rfl, rfl, b1⟩ := h1.unsigned rfl
  obtain ⟨n2, rfl, rfl, b2⟩ := h2.unsigned rfl
  obtain ⟨n3, rfl, rfl, b3⟩ := h3.unsigned rfl
  exact halves hT (by simpa [IntKind.bits] using b1) (by simpa [IntKind.bits] using b2) (by simpa [IntKind.bits] using b3)
end Go.Proofs.YtnepeleepmhdaaaDoor.AM.D12
