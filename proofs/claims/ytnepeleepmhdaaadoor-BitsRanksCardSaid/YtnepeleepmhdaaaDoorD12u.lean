/- The law BitsRanks. -/
import Derived.Test.YtnepeleepmhdaaaDoorD12t
set_option linter.unusedVariables false
set_option linter.unusedSimpArgs false
set_option linter.unusedSectionVars false
namespace Go.Proofs.YtnepeleepmhdaaaDoor.AM.D12
open Go Go.Proofs.YtnepeleepmhdaaaDoor.AM Go.Proofs.YtnepeleepmhdaaaDoor.AM.P12
set_option maxHeartbeats 2000000
set_option maxRecDepth 100000
attribute [local go_sem] ev_L k_ev Env.up_app Env.of_app aop_mv aop_pick aop_bin aop_eq aop_eqagg aop_un aop_cv aop_nilck aop_ld aop_st aop_iaS aop_iaA aop_fa aop_fld aop_ix aop_ext aop_len aop_lenK aop_box aop_new aop_build aop_bsl aop_mkfn aop_call callO_fn callO_yld aop_app aop_appT aop_cpy aop_clr aop_ins aop_look aop_mksl aop_mkmap aop_s2b s2bO_str mkslO_int aop_slS aop_same aop_b2s fillB_nil outO outS Option.map_none List.length_cons List.length_nil List.length_append List.length_set List.length_replicate List.set_cons_zero List.set_cons_succ pickO_true pickO_false binO_c eqO_c eqaO_agg unO_c cvO_int nilckO_ptr nilckO_fn ldO_one ldO_row stO_one stO_if okA_some oa_some iaSO_sl iaSO_some iaAO_ptr faO_ptr fldO_agg ixO_agg extO_tup lenO_sl lenO_str V.cells_c V.cells_agg Option.map_some Option.bind_some Option.getD_some List.getElem?_cons_zero List.getElem?_cons_succ List.map_cons List.map_nil V.pc Pc.v asI adsOf adOf Int.toNat_natCast Nat.mul_one Nat.zero_mul Int.ofNat_lt lss_int leq_int gtr_int geq_int eql_int neq_int and_int or_int xor_int andNot_int shr_u8_i shr_u16_i shr_u32_i shr_u64_i shr_i64_i and_u8_i and_u16_i and_u32_i and_u64_i or_u8_i or_u16_i or_u32_i or_u64_i xor_u8_i xor_u16_i xor_u32_i xor_u64_i wrap_u8_i wrap_u16_i wrap_u32_i wrap_u64_i wr_i64 and15 and1 and7 addA_mk Nat.zero_add Nat.add_zero beq_self_eq_true dec_t dec_f decide_true decide_false not_true_eq_false Int.natCast_inj Bool.not_true Bool.not_false Bool.false_eq_true if_true if_false Int.cast_ofNat_Int ne_eq not_false_eq_true Ex.exit.injEq resOf resV L_get? List.mapM_cons List.mapM_nil shutAll_nil shutAll_one ld_blk ldn_blk st_blk ldB_some ldnB_some stB_some put_nil put_cons rdK_ld rdK_b2s List.append_nil List.nil_append List.cons_append List.zip_cons_cons List.zip_nil_left List.zip_nil_right List.foldl_cons List.foldl_nil L_set L_set' rd_one rd_row Option.pure_def Option.bind_eq_bind and_self and_true true_and bne_t bne_f Option.isNone_some Option.isNone_none eqC_bb eqC_pn eqC_ps eqC_sn eqC_ss eqC_fn1 eqC_fn2 eqC_fn3 eqC_mn eqC_ms nats_len nats_get aop_slA slAO_all fillB_cons sameO eq_self add_u8_i add_u16_i add_u32_i add_u64_i mul_u8_i mul_u16_i mul_u32_i mul_u64_i sub_u8_i sub_u16_i sub_u32_i sub_u64_i quo_u8_i quo_u16_i quo_u32_i quo_u64_i rem_u8_i rem_u16_i rem_u32_i rem_u64_i shl_u8_i shl_u16_i shl_u32_i shl_u64_i quo_i64_i rem_i64_i shl_i64_i or_i64_i and_i64_i and_i64_15 and_i64_31 or256 str_eql str_add str_neq bstr_append bstr_size b2sO_ld b2sO_nil strOf_nats sub_nats un_xor_u8 un_xor_u16 un_xor_u32 un_xor_u64 un_neg un_not not_dec beq_int bne_int pickO_dec ld_addA ldn_addA st_addA slSO_lohi slSO_hi Nat.mod_eq_of_lt if_pos if_neg
attribute [local go_sem 500] wrap_u8_z wrap_u16_z wrap_u32_z wrap_u64_z add_int sub_int mul_int
theorem next_two {s : Nat} (hs : s < 18446744073709551616) (n : Int) : ∃ q : Nat × Bool, (∀ H, WC F fn_bits_Next [.c (.int .u64 (s : Nat)), .c (.int .i64 n)] H fun v H' => v = .tup [.c (.int .u64 (q.1 : Nat)), .c (.bool q.2)] ∧ H' = H) ∧ (∀ H, WC F fn_rotaref12_Next [.c (.int .u64 (s : Nat)), .c (.int .i64 n)] H fun v H' => v = .tup [.c (.int .u64 (q.1 : Nat)), .c (.bool q.2)] ∧ Xt H H') := by
  by_cases h0 : s = 0
  · subst h0
    exact ⟨(0, false), fun H => s_Next0, fun H => s_rNext0⟩
  · obtain ⟨f, r, h, h1, h2, h3⟩ := low_run 64 s h0 (by simpa using hs)
    have h2' : s = lo f r h := h2
    subst h2'
    exact ⟨nxr f r h n, fun H => s_Next ⟨h1, hs, h3⟩, fun H => s_rNext ⟨h1, hs, h3⟩⟩
theorem ranks_law {H : Heap} {s rank : Nat} {n k : Int} (hT : H[0]? = some dbB) (hs : s < 18446744073709551616) (hr : rank < 18446744073709551616) (hk : -9223372036854775808 ≤ k ∧ k < 9223372036854775808) :
    WC F fn_rotalaw12_BitsRanks [.c (.int .u64 (s : Nat)), .c (.int .u64 (rank : Nat)), .agg [.int .i64 n, .int .i64 k]] H fun v _ => v = .c (.bool true) := by
  have h0 := lt_of_get hT
  have hbb : ∀ b : Bool, (b == b) = true := fun b => by cases b <;> rfl
  refine WC_start e_rotalaw12_BitsRanks (by simp) ?_
  unfold c_rotalaw12_BitsRanks
  obtain ⟨⟨q1, q2⟩, n1, n2⟩ := next_two hs n
  have w1 := fun H => s_Subsets (H := H) (n := n) (k := k)
  have w2 := fun H => s_rSubsets (H := H) (n := n) (k := k)
  have w3 := fun H hT => s_Rank (H := H) hT hs
  have w4 := fun H => s_rRank (H := H) hs
  have w5 := fun H => s_Unrank (H := H) (k := k) hr
  have w6 := fun H => s_rUnrank (H := H) hr hk
  generalize sbs n k = p1 at *
  generalize rnk s = p2 at *
  generalize unr k rank = p3 at *
  obtain ⟨a1, a2⟩ := p1
  obtain ⟨b1, b2⟩ := p2
  obtain ⟨c1, c2⟩ := p3
  dsimp only at n1 n2 w1 w2 w3 w4 w5 w6
  have hdd := hbb q2
  have ws := And.intro w1 (And.intro w2 (And.intro w3 (And.intro w4 (And.intro w5 (And.intro w6 (And.intro n1 n2))))))
  clear w1 w2 w3 w4 w5 w6 n1 n2 hbb
  revert ws
  intro ws
  have fin := fun (A : Prop) (h : _ → A) => h ws
  clear ws
  repeat (with_reducible first|(first|refine pO ?_|refine pP ?_|refine pQ ?_|refine pR (by omega) ?_);intros|refine pS ?_|first|refine qA ?_|refine qB ?_|refine qC ?_|refine qD ?_|refine qE ?_|refine qF ?_|refine qG ?_|refine qH ?_|refine qI ?_|refine qJ ?_|refine qK ?_|refine qL ?_|refine qM rfl ?_|refine qN ?_|refine qO ?_|refine qP ?_|refine qQ ?_|refine qR ?_|refine qS ?_|refine qT ?_|refine qU ?_|refine qV ?_|refine qW ?_|refine qX ?_|refine qY ?_|refine qZ ?_|refine pA ?_|refine pB ?_|refine pC ?_|(first|refine pD ?_|refine pE ?_|refine pF ?_|refine pG ?_|refine pH ?_|refine pI ?_|refine pJ ?_|refine pK ?_|refine pL ?_|refine pM ?_|refine pN ?_);simp (disch := first | with_reducible assumption | omega) only [go_sem, *, reduceCtorEq, ↓reduceIte, Nat.reduceLT, Nat.reduceBEq, Nat.reduceAdd, Nat.reduceSub, Nat.reduceMul, Nat.reduceDiv, Nat.reduceMod, Nat.reducePow, Nat.reduceEqDiff, Nat.reduceLeDiff, Int.reduceLT, Int.reduceLE, Int.reduceNeg, Int.reduceToNat, Int.reduceAdd, Int.reduceSub, Int.reduceMul, Int.reduceEq, Int.reduceNe, Int.reduceBEq, Int.reduceBNe, Int.reducePow])
  refine fin _ fun ws => outM_call (ws.1 _) ?_
  rintro _ H2 ⟨rfl, l2, x2⟩
  repeat (with_reducible first|(first|refine pO ?_|refine pP ?_|refine pQ ?_|refine pR (by omega) ?_);intros|refine pS ?_|first|refine qA ?_|refine qB ?_|refine qC ?_|refine qD ?_|refine qE ?_|refine qF ?_|refine qG ?_|refine qH ?_|refine qI ?_|refine qJ ?_|refine qK ?_|refine qL ?_|refine qM rfl ?_|refine qN ?_|refine qO ?_|refine qP ?_|refine qQ ?_|refine qR ?_|refine qS ?_|refine qT ?_|refine qU ?_|refine qV ?_|refine qW ?_|refine qX ?_|refine qY ?_|refine qZ ?_|refine pA ?_|refine pB ?_|refine pC ?_|(first|refine pD ?_|refine pE ?_|refine pF ?_|refine pG ?_|refine pH ?_|refine pI ?_|refine pJ ?_|refine pK ?_|refine pL ?_|refine pM ?_|refine pN ?_);simp (disch := first | with_reducible assumption | omega) only [go_sem, *, reduceCtorEq, ↓reduceIte, Nat.reduceLT, Nat.reduceBEq, Nat.reduceAdd, Nat.reduceSub, Nat.reduceMul, Nat.reduceDiv, Nat.reduceMod, Nat.reducePow, Nat.reduceEqDiff, Nat.reduceLeDiff, Int.reduceLT, Int.reduceLE, Int.reduceNeg, Int.reduceToNat, Int.reduceAdd, Int.reduceSub, Int.reduceMul, Int.reduceEq, Int.reduceNe, Int.reduceBEq, Int.reduceBNe, Int.reducePow])
  refine fin _ fun ws => outM_call (ws.2.1 _) ?_
  rintro _ H2 ⟨rfl, rfl⟩
  repeat (with_reducible first|(first|refine pO ?_|refine pP ?_|refine pQ ?_|refine pR (by omega) ?_);intros|refine pS ?_|first|refine qA ?_|refine qB ?_|refine qC ?_|refine qD ?_|refine qE ?_|refine qF ?_|refine qG ?_|refine qH ?_|refine qI ?_|refine qJ ?_|refine qK ?_|refine qL ?_|refine qM rfl ?_|refine qN ?_|refine qO ?_|refine qP ?_|refine qQ ?_|refine qR ?_|refine qS ?_|refine qT ?_|refine qU ?_|refine qV ?_|refine qW ?_|refine qX ?_|refine qY ?_|refine qZ ?_|refine pA ?_|refine pB ?_|refine pC ?_|(first|refine pD ?_|refine pE ?_|refine pF ?_|refine pG ?_|refine pH ?_|refine pI ?_|refine pJ ?_|refine pK ?_|refine pL ?_|refine pM ?_|refine pN ?_);simp (disch := first | with_reducible assumption | omega) only [go_sem, *, reduceCtorEq, ↓reduceIte, Nat.reduceLT, Nat.reduceBEq, Nat.reduceAdd, Nat.reduceSub, Nat.reduceMul, Nat.reduceDiv, Nat.reduceMod, Nat.reducePow, Nat.reduceEqDiff, Nat.reduceLeDiff, Int.reduceLT, Int.reduceLE, Int.reduceNeg, Int.reduceToNat, Int.reduceAdd, Int.reduceSub, Int.reduceMul, Int.reduceEq, Int.reduceNe, Int.reduceBEq, Int.reduceBNe, Int.reducePow])
  refine fin _ fun ws => outM_call (ws.2.2.1 _ (by simp (disch := first | with_reducible assumption | omega) only [go_sem, *, reduceCtorEq, ↓reduceIte, Nat.reduceLT, Nat.reduceBEq, Nat.reduceAdd, Nat.reduceSub, Nat.reduceMul, Nat.reduceDiv, Nat.reduceMod, Nat.reducePow, Nat.reduceEqDiff, Nat.reduceLeDiff, Int.reduceLT, Int.reduceLE, Int.reduceNeg, Int.reduceToNat, Int.reduceAdd, Int.reduceSub, Int.reduceMul, Int.reduceEq, Int.reduceNe, Int.reduceBEq, Int.reduceBNe, Int.reducePow])) ?_
  rintro _ H3 ⟨rfl, l3, x3⟩
  repeat (with_reducible first|(first|refine pO ?_|refine pP ?_|refine pQ ?_|refine pR (by omega) ?_);intros|refine pS ?_|first|refine qA ?_|refine qB ?_|refine qC ?_|refine qD ?_|refine qE ?_|refine qF ?_|refine qG ?_|refine qH ?_|refine qI ?_|refine qJ ?_|refine qK ?_|refine qL ?_|refine qM rfl ?_|refine qN ?_|refine qO ?_|refine qP ?_|refine qQ ?_|refine qR ?_|refine qS ?_|refine qT ?_|refine qU ?_|refine qV ?_|refine qW ?_|refine qX ?_|refine qY ?_|refine qZ ?_|refine pA ?_|refine pB ?_|refine pC ?_|(first|refine pD ?_|refine pE ?_|refine pF ?_|refine pG ?_|refine pH ?_|refine pI ?_|refine pJ ?_|refine pK ?_|refine pL ?_|refine pM ?_|refine pN ?_);simp (disch := first | with_reducible assumption | omega) only [go_sem, *, reduceCtorEq, ↓reduceIte, Nat.reduceLT, Nat.reduceBEq, Nat.reduceAdd, Nat.reduceSub, Nat.reduceMul, Nat.reduceDiv, Nat.reduceMod, Nat.reducePow, Nat.reduceEqDiff, Nat.reduceLeDiff, Int.reduceLT, Int.reduceLE, Int.reduceNeg, Int.reduceToNat, Int.reduceAdd, Int.reduceSub, Int.reduceMul, Int.reduceEq, Int.reduceNe, Int.reduceBEq, Int.reduceBNe, Int.reducePow])
  refine fin _ fun ws => outM_call (ws.2.2.2.1 _) ?_
  rintro _ H4 ⟨rfl, l4, x4⟩
  repeat (with_reducible first|(first|refine pO ?_|refine pP ?_|refine pQ ?_|refine pR (by omega) ?_);intros|refine pS ?_|first|refine qA ?_|refine qB ?_|refine qC ?_|refine qD ?_|refine qE ?_|refine qF ?_|refine qG ?_|refine qH ?_|refine qI ?_|refine qJ ?_|refine qK ?_|refine qL ?_|refine qM rfl ?_|refine qN ?_|refine qO ?_|refine qP ?_|refine qQ ?_|refine qR ?_|refine qS ?_|refine qT ?_|refine qU ?_|refine qV ?_|refine qW ?_|refine qX ?_|refine qY ?_|refine qZ ?_|refine pA ?_|refine pB ?_|refine pC ?_|(first|refine pD ?_|refine pE ?_|refine pF ?_|refine pG ?_|refine pH ?_|refine pI ?_|refine pJ ?_|refine pK ?_|refine pL ?_|refine pM ?_|refine pN ?_);simp (disch := first | with_reducible assumption | omega) only [go_sem, *, reduceCtorEq, ↓reduceIte, Nat.reduceLT, Nat.reduceBEq, Nat.reduceAdd, Nat.reduceSub, Nat.reduceMul, Nat.reduceDiv, Nat.reduceMod, Nat.reducePow, Nat.reduceEqDiff, Nat.reduceLeDiff, Int.reduceLT, Int.reduceLE, Int.reduceNeg, Int.reduceToNat, Int.reduceAdd, Int.reduceSub, Int.reduceMul, Int.reduceEq, Int.reduceNe, Int.reduceBEq, Int.reduceBNe, Int.reducePow])
  refine fin _ fun ws => outM_call (ws.2.2.2.2.1 _) ?_
  rintro _ H5 ⟨rfl, l5, x5⟩
  repeat (with_reducible first|(first|refine pO ?_|refine pP ?_|refine pQ ?_|refine pR (by omega) ?_);intros|refine pS ?_|first|refine qA ?_|refine qB ?_|refine qC ?_|refine qD ?_|refine qE ?_|refine qF ?_|refine qG ?_|refine qH ?_|refine qI ?_|refine qJ ?_|refine qK ?_|refine qL ?_|refine qM rfl ?_|refine qN ?_|refine qO ?_|refine qP ?_|refine qQ ?_|refine qR ?_|refine qS ?_|refine qT ?_|refine qU ?_|refine qV ?_|refine qW ?_|refine qX ?_|refine qY ?_|refine qZ ?_|refine pA ?_|refine pB ?_|refine pC ?_|(first|refine pD ?_|refine pE ?_|refine pF ?_|refine pG ?_|refine pH ?_|refine pI ?_|refine pJ ?_|refine pK ?_|refine pL ?_|refine pM ?_|refine pN ?_);simp (disch := first | with_reducible assumption | omega) only [go_sem, *, reduceCtorEq, ↓reduceIte, Nat.reduceLT, Nat.reduceBEq, Nat.reduceAdd, Nat.reduceSub, Nat.reduceMul, Nat.reduceDiv, Nat.reduceMod, Nat.reducePow, Nat.reduceEqDiff, Nat.reduceLeDiff, Int.reduceLT, Int.reduceLE, Int.reduceNeg, Int.reduceToNat, Int.reduceAdd, Int.reduceSub, Int.reduceMul, Int.reduceEq, Int.reduceNe, Int.reduceBEq, Int.reduceBNe, Int.reducePow])
  refine fin _ fun ws => outM_call (ws.2.2.2.2.2.1 _) ?_
  rintro _ H6 ⟨rfl, l6, x6⟩
  repeat (with_reducible first|(first|refine pO ?_|refine pP ?_|refine pQ ?_|refine pR (by omega) ?_);intros|refine pS ?_|first|refine qA ?_|refine qB ?_|refine qC ?_|refine qD ?_|refine qE ?_|refine qF ?_|refine qG ?_|refine qH ?_|refine qI ?_|refine qJ ?_|refine qK ?_|refine qL ?_|refine qM rfl ?_|refine qN ?_|refine qO ?_|refine qP ?_|refine qQ ?_|refine qR ?_|refine qS ?_|refine qT ?_|refine qU ?_|refine qV ?_|refine qW ?_|refine qX ?_|refine qY ?_|refine qZ ?_|refine pA ?_|refine pB ?_|refine pC ?_|(first|refine pD ?_|refine pE ?_|refine pF ?_|refine pG ?_|refine pH ?_|refine pI ?_|refine pJ ?_|refine pK ?_|refine pL ?_|refine pM ?_|refine pN ?_);simp (disch := first | with_reducible assumption | omega) only [go_sem, *, reduceCtorEq, ↓reduceIte, Nat.reduceLT, Nat.reduceBEq, Nat.reduceAdd, Nat.reduceSub, Nat.reduceMul, Nat.reduceDiv, Nat.reduceMod, Nat.reducePow, Nat.reduceEqDiff, Nat.reduceLeDiff, Int.reduceLT, Int.reduceLE, Int.reduceNeg, Int.reduceToNat, Int.reduceAdd, Int.reduceSub, Int.reduceMul, Int.reduceEq, Int.reduceNe, Int.reduceBEq, Int.reduceBNe, Int.reducePow])
  refine fin _ fun ws => outM_call (ws.2.2.2.2.2.2.1 _) ?_
  rintro _ H6 ⟨rfl, rfl⟩
  repeat (with_reducible first|(first|refine pO ?_|refine pP ?_|refine pQ ?_|refine pR (by omega) ?_);intros|refine pS ?_|first|refine qA ?_|refine qB ?_|refine qC ?_|refine qD ?_|refine qE ?_|refine qF ?_|refine qG ?_|refine qH ?_|refine qI ?_|refine qJ ?_|refine qK ?_|refine qL ?_|refine qM rfl ?_|refine qN ?_|refine qO ?_|refine qP ?_|refine qQ ?_|refine qR ?_|refine qS ?_|refine qT ?_|refine qU ?_|refine qV ?_|refine qW ?_|refine qX ?_|refine qY ?_|refine qZ ?_|refine pA ?_|refine pB ?_|refine pC ?_|(first|refine pD ?_|refine pE ?_|refine pF ?_|refine pG ?_|refine pH ?_|refine pI ?_|refine pJ ?_|refine pK ?_|refine pL ?_|refine pM ?_|refine pN ?_);simp (disch := first | with_reducible assumption | omega) only [go_sem, *, reduceCtorEq, ↓reduceIte, Nat.reduceLT, Nat.reduceBEq, Nat.reduceAdd, Nat.reduceSub, Nat.reduceMul, Nat.reduceDiv, Nat.reduceMod, Nat.reducePow, Nat.reduceEqDiff, Nat.reduceLeDiff, Int.reduceLT, Int.reduceLE, Int.reduceNeg, Int.reduceToNat, Int.reduceAdd, Int.reduceSub, Int.reduceMul, Int.reduceEq, Int.reduceNe, Int.reduceBEq, Int.reduceBNe, Int.reducePow])
  refine fin _ fun ws => outM_call (ws.2.2.2.2.2.2.2 _) ?_
  rintro _ H7 ⟨rfl, l7, x7⟩
  repeat (with_reducible first|(first|refine pO ?_|refine pP ?_|refine pQ ?_|refine pR (by omega) ?_);intros|refine pS ?_|first|refine qA ?_|refine qB ?_|refine qC ?_|refine qD ?_|refine qE ?_|refine qF ?_|refine qG ?_|refine qH ?_|refine qI ?_|refine qJ ?_|refine qK ?_|refine qL ?_|refine qM rfl ?_|refine qN ?_|refine qO ?_|refine qP ?_|refine qQ ?_|refine qR ?_|refine qS ?_|refine qT ?_|refine qU ?_|refine qV ?_|refine qW ?_|refine qX ?_|refine qY ?_|refine qZ ?_|refine pA ?_|refine pB ?_|refine pC ?_|(first|refine pD ?_|refine pE ?_|refine pF ?_|refine pG ?_|refine pH ?_|refine pI ?_|refine pJ ?_|refine pK ?_|refine pL ?_|refine pM ?_|refine pN ?_);simp (disch := first | with_reducible assumption | omega) only [go_sem, *, reduceCtorEq, ↓reduceIte, Nat.reduceLT, Nat.reduceBEq, Nat.reduceAdd, Nat.reduceSub, Nat.reduceMul, Nat.reduceDiv, Nat.reduceMod, Nat.reducePow, Nat.reduceEqDiff, Nat.reduceLeDiff, Int.reduceLT, Int.reduceLE, Int.reduceNeg, Int.reduceToNat, Int.reduceAdd, Int.reduceSub, Int.reduceMul, Int.reduceEq, Int.reduceNe, Int.reduceBEq, Int.reduceBNe, Int.reducePow])
  with_reducible rfl
theorem ranks_wc (H : Heap) (hT : Begins (tabs [(0, .u8, db)]) H) {x1 x2 : Int} {x3 : List Int} {a1 a2 a3 : V} (h1 : VwV (.int .u64) H x1 a1) (h2 : VwV (.int .u64) H x2 a2) (h3 : VwV (.arr 2 (.int .i64)) H x3 a3) : WC F fn_rotalaw12_BitsRanks [a1, a2, a3] H fun v _ => v = .c (.bool true) := by
  obtain ⟨n1, rfl, rfl, b1⟩ := h1.unsigned rfl
  obtain ⟨n2, rfl, rfl, b2⟩ := h2.unsigned rfl
  obtain ⟨cs, ⟨hn, rows, rfl, hr, hv⟩, ⟨_, rfl⟩ | ⟨h, _⟩⟩ := h3
  · cases hv with
    | cons r1 hv4 =>
      cases hv4 with
      | cons r2 hv5 =>
        cases hv5 with
        | cons _ _ =>
          have h9 : (List.length _ + 1 + 1 + 1 : Nat) = 2 := hn
          omega
        | nil =>
          obtain ⟨rfl, w1⟩ := r1
          obtain ⟨rfl, w2⟩ := r2
          exact ranks_law (tab hT) (by simpa [IntKind.bits] using b1) (by simpa [IntKind.bits] using b2) (wf_i64 w2)
      | nil => cases hn
    | nil => cases hn
  · cases h
end Go.Proofs.YtnepeleepmhdaaaDoor.AM.D12
