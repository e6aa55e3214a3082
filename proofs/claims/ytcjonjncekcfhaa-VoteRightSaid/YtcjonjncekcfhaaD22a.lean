/- What the functions of chapter 22 come to: a list's numbers, collected and put in order. -/
import Derived.Test.YtcjonjncekcfhaaA4
import Derived.Test.YtcjonjncekcfhaaIRD22
import Derived.KernelRfl
set_option linter.unusedVariables false
set_option linter.unusedSimpArgs false
set_option linter.unusedSectionVars false
namespace Go.Proofs.Ytcjonjncekcfhaa.AM.D22
open Go Go.Proofs.Ytcjonjncekcfhaa.AM
set_option maxHeartbeats 2000000
set_option maxRecDepth 100000
attribute [local go_sem] ev_L k_ev Env.up_app Env.of_app aop_mv aop_pick aop_bin aop_eq aop_eqagg aop_un aop_cv aop_nilck aop_ld aop_st aop_iaS aop_iaA aop_fa aop_fld aop_ix aop_ext aop_len aop_lenK aop_box aop_new aop_build aop_bsl aop_mkfn aop_call callO_fn callO_yld aop_app aop_appT aop_cpy aop_clr aop_ins aop_look aop_mksl aop_mkmap aop_s2b s2bO_str mkslO_int aop_slS aop_same aop_b2s fillB_nil outO outS Option.map_none List.length_cons List.length_nil List.length_append List.length_set List.length_replicate List.set_cons_zero List.set_cons_succ pickO_true pickO_false binO_c eqO_c eqaO_agg unO_c cvO_int nilckO_ptr nilckO_fn ldO_one ldO_row stO_one stO_if okA_some oa_some iaSO_sl iaSO_some iaAO_ptr faO_ptr fldO_agg ixO_agg extO_tup lenO_sl lenO_str V.cells_c V.cells_agg Option.map_some Option.bind_some Option.getD_some List.getElem?_cons_zero List.getElem?_cons_succ List.map_cons List.map_nil V.pc Pc.v asI adsOf adOf Int.toNat_natCast Nat.mul_one Nat.zero_mul Int.ofNat_lt lss_int leq_int gtr_int geq_int eql_int neq_int and_int or_int xor_int andNot_int shr_u8_i shr_u16_i shr_u32_i shr_u64_i shr_i64_i and_u8_i and_u16_i and_u32_i and_u64_i or_u8_i or_u16_i or_u32_i or_u64_i xor_u8_i xor_u16_i xor_u32_i xor_u64_i wrap_u8_i wrap_u16_i wrap_u32_i wrap_u64_i wr_i64 and15 and1 and7 addA_mk Nat.zero_add Nat.add_zero beq_self_eq_true dec_t dec_f decide_true decide_false not_true_eq_false Int.natCast_inj Bool.not_true Bool.not_false Bool.false_eq_true if_true if_false Int.cast_ofNat_Int ne_eq not_false_eq_true Ex.exit.injEq resOf resV L_get? List.mapM_cons List.mapM_nil shutAll_nil shutAll_one ld_blk ldn_blk st_blk ldB_some ldnB_some stB_some put_nil put_cons rdK_ld rdK_b2s List.append_nil List.nil_append List.cons_append List.zip_cons_cons List.zip_nil_left List.zip_nil_right List.foldl_cons List.foldl_nil L_set L_set' rd_one rd_row Option.pure_def Option.bind_eq_bind and_self and_true true_and bne_t bne_f Option.isNone_some Option.isNone_none eqC_bb eqC_pn eqC_ps eqC_sn eqC_ss eqC_fn1 eqC_fn2 eqC_fn3 eqC_mn eqC_ms nats_len nats_get aop_slA slAO_all fillB_cons sameO eq_self add_u8_i add_u16_i add_u32_i add_u64_i mul_u8_i mul_u16_i mul_u32_i mul_u64_i sub_u8_i sub_u16_i sub_u32_i sub_u64_i quo_u8_i quo_u16_i quo_u32_i quo_u64_i rem_u8_i rem_u16_i rem_u32_i rem_u64_i shl_u8_i shl_u16_i shl_u32_i shl_u64_i quo_i64_i rem_i64_i shl_i64_i or_i64_i and_i64_i and_i64_15 and_i64_31 or256 str_eql str_add str_neq bstr_append bstr_size b2sO_ld b2sO_nil strOf_nats sub_nats un_xor_u8 un_xor_u16 un_xor_u32 un_xor_u64 un_neg un_not not_dec beq_int bne_int pickO_dec ld_addA ldn_addA st_addA slSO_lohi slSO_hi Nat.mod_eq_of_lt if_pos if_neg
attribute [local go_sem 500] wrap_u8_z wrap_u16_z wrap_u32_z wrap_u64_z add_int sub_int mul_int
attribute [local go_sem] tn_add1 tn_sub1 put_all'
theorem kF : ExtKeep F := ExtKeep.funsX fun f g h => by
  unfold X at h
  split at h
  · cases h
    exact fun args H v H' e => sortX_keep e
  cases h
def enci (n : Int) : List V := [.c (.int .i64 n)]
theorem ints_len (l : List Int) : (ints l).length = l.length := by simp [ints]
theorem ints_get {l : List Int} {i : Nat} (h : i < l.length) : (ints l)[i]? = some (.int .i64 l[i]) := by simp [ints, h]
theorem ints_app (a b : List Int) : ints (a ++ b) = ints a ++ ints b := by simp [ints]
attribute [local go_sem] ints_len
theorem it_vals {b n c : Nat} {a : Option Ad} {o : Bool} {ws : List Int} (hn : n ≤ 100000) (hl : ws.length = n) : IterT F fn_slices_Values_int_int_1 [] [(b, 0)] (fun x => ∃ lb y, a = some (lb, y) ∧ x = lb) nob (fun H => H[b]? = some (.cells [.sl a n c o] false none) ∧ Sl H 1 a n (ints ws)) (ws.map enci) := by
  intro l H J E hP hlt hSl hJ hE hr h0 hfin
  obtain ⟨hb, hs⟩ := hP
  refine WC_start e_slices_Values_int_int_1 (by simp) ?_
  unfold c_slices_Values_int_int_1
  have hr' := hr
  clear hJ hE hr
  repeat (with_reducible first|(first|refine pO ?_|refine pP ?_|refine pQ ?_|refine pR (by omega) ?_);intros|refine pS ?_|first|refine qA ?_|refine qB ?_|refine qC ?_|refine qD ?_|refine qE ?_|refine qF ?_|refine qG ?_|refine qH ?_|refine qI ?_|refine qJ ?_|refine qK ?_|refine qL ?_|refine qM rfl ?_|refine qN ?_|refine qO ?_|refine qP ?_|refine qQ ?_|refine qR ?_|refine qS ?_|refine qT ?_|refine qU ?_|refine qV ?_|refine qW ?_|refine qX ?_|refine qY ?_|refine qZ ?_|refine pA ?_|refine pB ?_|refine pC ?_|(first|refine pD ?_|refine pE ?_|refine pF ?_|refine pT ?_|refine pG ?_|refine pH ?_|refine pI ?_|refine pJ ?_|refine pK ?_|refine pL ?_|refine pM ?_|refine pN ?_);simp (disch := first | with_reducible assumption | omega) only [go_sem, *, reduceCtorEq, ↓reduceIte, Nat.reduceLT, Nat.reduceBEq, Nat.reduceAdd, Nat.reduceSub, Nat.reduceMul, Nat.reduceDiv, Nat.reduceMod, Nat.reducePow, Nat.reduceEqDiff, Nat.reduceLeDiff, Int.reduceLT, Int.reduceLE, Int.reduceNeg, Int.reduceToNat, Int.reduceAdd, Int.reduceSub, Int.reduceMul, Int.reduceEq, Int.reduceNe, Int.reduceBEq, Int.reduceBNe, Int.reducePow])
  refine W_loop (fun m st => ∃ ρ i Hk, st = ⟨L 16 ρ, [], Hk⟩ ∧ m = n - i ∧ i ≤ n ∧ ρ 0 = .c (.yld l) ∧ ρ 5 = .c (.sl a n c o) ∧ ρ 6 = .c (.int .i64 (n : Nat)) ∧ ρ 7 = .c (.int .i64 (i : Nat)) ∧ (∀ lb y, a = some (lb, y) → Hk[lb]? = H[lb]?) ∧ H.length ≤ Hk.length ∧ J ((ws.drop i).map enci) Hk) n ⟨_, 0, H, rfl, rfl, by omega, (by simp (disch := first | with_reducible assumption | omega) only [go_sem, *, reduceCtorEq, ↓reduceIte, Nat.reduceLT, Nat.reduceBEq, Nat.reduceAdd, Nat.reduceSub, Nat.reduceMul, Nat.reduceDiv, Nat.reduceMod, Nat.reducePow, Nat.reduceEqDiff, Nat.reduceLeDiff, Int.reduceLT, Int.reduceLE, Int.reduceNeg, Int.reduceToNat, Int.reduceAdd, Int.reduceSub, Int.reduceMul, Int.reduceEq, Int.reduceNe, Int.reduceBEq, Int.reduceBNe, Int.reducePow]; first | done | rfl), (by simp (disch := first | with_reducible assumption | omega) only [go_sem, *, reduceCtorEq, ↓reduceIte, Nat.reduceLT, Nat.reduceBEq, Nat.reduceAdd, Nat.reduceSub, Nat.reduceMul, Nat.reduceDiv, Nat.reduceMod, Nat.reducePow, Nat.reduceEqDiff, Nat.reduceLeDiff, Int.reduceLT, Int.reduceLE, Int.reduceNeg, Int.reduceToNat, Int.reduceAdd, Int.reduceSub, Int.reduceMul, Int.reduceEq, Int.reduceNe, Int.reduceBEq, Int.reduceBNe, Int.reducePow]; first | done | rfl), (by simp (disch := first | with_reducible assumption | omega) only [go_sem, *, reduceCtorEq, ↓reduceIte, Nat.reduceLT, Nat.reduceBEq, Nat.reduceAdd, Nat.reduceSub, Nat.reduceMul, Nat.reduceDiv, Nat.reduceMod, Nat.reducePow, Nat.reduceEqDiff, Nat.reduceLeDiff, Int.reduceLT, Int.reduceLE, Int.reduceNeg, Int.reduceToNat, Int.reduceAdd, Int.reduceSub, Int.reduceMul, Int.reduceEq, Int.reduceNe, Int.reduceBEq, Int.reduceBNe, Int.reducePow]; first | done | rfl), (by simp (disch := first | with_reducible assumption | omega) only [go_sem, *, reduceCtorEq, ↓reduceIte, Nat.reduceLT, Nat.reduceBEq, Nat.reduceAdd, Nat.reduceSub, Nat.reduceMul, Nat.reduceDiv, Nat.reduceMod, Nat.reducePow, Nat.reduceEqDiff, Nat.reduceLeDiff, Int.reduceLT, Int.reduceLE, Int.reduceNeg, Int.reduceToNat, Int.reduceAdd, Int.reduceSub, Int.reduceMul, Int.reduceEq, Int.reduceNe, Int.reduceBEq, Int.reduceBNe, Int.reducePow]; first | done | rfl), fun _ _ _ => rfl, Nat.le_refl _, h0⟩ ?_
  rintro m st ⟨ρ, i, Hk, rfl, rfl, hi, e0, e5, e6, e7, hk, lk, hJk⟩
  unfold b_slices_Values_int_int_1_5
  by_cases hin : i < n
  · obtain ⟨⟨lb, y⟩, rfl⟩ := hs.is_some (by omega)
    have hg := hs.ld1 (o := i) (by omega)
    rw [ints_get (by omega)] at hg
    rw [← hk lb y rfl] at hg
    dsimp only at hg
    have hd : ws.drop i = ws[i] :: ws.drop (i + 1) := List.drop_eq_getElem_cons (by omega)
    rw [hd, List.map_cons] at hJk
    clear hd hs
    generalize ws[i] = w at *
    have hry := hr' _ _ Hk hJk
    clear hr' hJk h0 hfin
    repeat (with_reducible first|(first|refine pO ?_|refine pP ?_|refine pQ ?_|refine pR (by omega) ?_);intros|refine pS ?_|first|refine qA ?_|refine qB ?_|refine qC ?_|refine qD ?_|refine qE ?_|refine qF ?_|refine qG ?_|refine qH ?_|refine qI ?_|refine qJ ?_|refine qK ?_|refine qL ?_|refine qM rfl ?_|refine qN ?_|refine qO ?_|refine qP ?_|refine qQ ?_|refine qR ?_|refine qS ?_|refine qT ?_|refine qU ?_|refine qV ?_|refine qW ?_|refine qX ?_|refine qY ?_|refine qZ ?_|refine pA ?_|refine pB ?_|refine pC ?_|(first|refine pD ?_|refine pE ?_|refine pF ?_|refine pT ?_|refine pG ?_|refine pH ?_|refine pI ?_|refine pJ ?_|refine pK ?_|refine pL ?_|refine pM ?_|refine pN ?_);simp (disch := first | with_reducible assumption | omega) only [go_sem, *, reduceCtorEq, ↓reduceIte, Nat.reduceLT, Nat.reduceBEq, Nat.reduceAdd, Nat.reduceSub, Nat.reduceMul, Nat.reduceDiv, Nat.reduceMod, Nat.reducePow, Nat.reduceEqDiff, Nat.reduceLeDiff, Int.reduceLT, Int.reduceLE, Int.reduceNeg, Int.reduceToNat, Int.reduceAdd, Int.reduceSub, Int.reduceMul, Int.reduceEq, Int.reduceNe, Int.reduceBEq, Int.reduceBNe, Int.reducePow])
    refine outM_yld hry ?_
    rintro v H' ⟨k1, k2, ⟨rfl, k3⟩ | ⟨rfl, k3⟩⟩
    · clear hry
      have k1' := k1 lb ⟨lb, y, rfl, rfl⟩
      clear k1 hg
      repeat (with_reducible first|(first|refine pO ?_|refine pP ?_|refine pQ ?_|refine pR (by omega) ?_);intros|refine pS ?_|first|refine qA ?_|refine qB ?_|refine qC ?_|refine qD ?_|refine qE ?_|refine qF ?_|refine qG ?_|refine qH ?_|refine qI ?_|refine qJ ?_|refine qK ?_|refine qL ?_|refine qM rfl ?_|refine qN ?_|refine qO ?_|refine qP ?_|refine qQ ?_|refine qR ?_|refine qS ?_|refine qT ?_|refine qU ?_|refine qV ?_|refine qW ?_|refine qX ?_|refine qY ?_|refine qZ ?_|refine pA ?_|refine pB ?_|refine pC ?_|(first|refine pD ?_|refine pE ?_|refine pF ?_|refine pT ?_|refine pG ?_|refine pH ?_|refine pI ?_|refine pJ ?_|refine pK ?_|refine pL ?_|refine pM ?_|refine pN ?_);simp (disch := first | with_reducible assumption | omega) only [go_sem, *, reduceCtorEq, ↓reduceIte, Nat.reduceLT, Nat.reduceBEq, Nat.reduceAdd, Nat.reduceSub, Nat.reduceMul, Nat.reduceDiv, Nat.reduceMod, Nat.reducePow, Nat.reduceEqDiff, Nat.reduceLeDiff, Int.reduceLT, Int.reduceLE, Int.reduceNeg, Int.reduceToNat, Int.reduceAdd, Int.reduceSub, Int.reduceMul, Int.reduceEq, Int.reduceNe, Int.reduceBEq, Int.reduceBNe, Int.reducePow])
      exact loopQ_n (n - (i + 1)) (by omega) ⟨_, i + 1, H', rfl, rfl, by omega, (by simp (disch := first | with_reducible assumption | omega) only [go_sem, *, reduceCtorEq, ↓reduceIte, Nat.reduceLT, Nat.reduceBEq, Nat.reduceAdd, Nat.reduceSub, Nat.reduceMul, Nat.reduceDiv, Nat.reduceMod, Nat.reducePow, Nat.reduceEqDiff, Nat.reduceLeDiff, Int.reduceLT, Int.reduceLE, Int.reduceNeg, Int.reduceToNat, Int.reduceAdd, Int.reduceSub, Int.reduceMul, Int.reduceEq, Int.reduceNe, Int.reduceBEq, Int.reduceBNe, Int.reducePow]; first | done | rfl), (by simp (disch := first | with_reducible assumption | omega) only [go_sem, *, reduceCtorEq, ↓reduceIte, Nat.reduceLT, Nat.reduceBEq, Nat.reduceAdd, Nat.reduceSub, Nat.reduceMul, Nat.reduceDiv, Nat.reduceMod, Nat.reducePow, Nat.reduceEqDiff, Nat.reduceLeDiff, Int.reduceLT, Int.reduceLE, Int.reduceNeg, Int.reduceToNat, Int.reduceAdd, Int.reduceSub, Int.reduceMul, Int.reduceEq, Int.reduceNe, Int.reduceBEq, Int.reduceBNe, Int.reducePow]; first | done | rfl), (by simp (disch := first | with_reducible assumption | omega) only [go_sem, *, reduceCtorEq, ↓reduceIte, Nat.reduceLT, Nat.reduceBEq, Nat.reduceAdd, Nat.reduceSub, Nat.reduceMul, Nat.reduceDiv, Nat.reduceMod, Nat.reducePow, Nat.reduceEqDiff, Nat.reduceLeDiff, Int.reduceLT, Int.reduceLE, Int.reduceNeg, Int.reduceToNat, Int.reduceAdd, Int.reduceSub, Int.reduceMul, Int.reduceEq, Int.reduceNe, Int.reduceBEq, Int.reduceBNe, Int.reducePow]; first | done | rfl), (by simp (disch := first | with_reducible assumption | omega) only [go_sem, *, reduceCtorEq, ↓reduceIte, Nat.reduceLT, Nat.reduceBEq, Nat.reduceAdd, Nat.reduceSub, Nat.reduceMul, Nat.reduceDiv, Nat.reduceMod, Nat.reducePow, Nat.reduceEqDiff, Nat.reduceLeDiff, Int.reduceLT, Int.reduceLE, Int.reduceNeg, Int.reduceToNat, Int.reduceAdd, Int.reduceSub, Int.reduceMul, Int.reduceEq, Int.reduceNe, Int.reduceBEq, Int.reduceBNe, Int.reducePow]; first | done | rfl), fun lb' y e => by cases e; rw [k1']; exact hk _ _ rfl, by omega, k3⟩
    · clear hry k1 hg
      repeat (with_reducible first|(first|refine pO ?_|refine pP ?_|refine pQ ?_|refine pR (by omega) ?_);intros|refine pS ?_|first|refine qA ?_|refine qB ?_|refine qC ?_|refine qD ?_|refine qE ?_|refine qF ?_|refine qG ?_|refine qH ?_|refine qI ?_|refine qJ ?_|refine qK ?_|refine qL ?_|refine qM rfl ?_|refine qN ?_|refine qO ?_|refine qP ?_|refine qQ ?_|refine qR ?_|refine qS ?_|refine qT ?_|refine qU ?_|refine qV ?_|refine qW ?_|refine qX ?_|refine qY ?_|refine qZ ?_|refine pA ?_|refine pB ?_|refine pC ?_|(first|refine pD ?_|refine pE ?_|refine pF ?_|refine pT ?_|refine pG ?_|refine pH ?_|refine pI ?_|refine pJ ?_|refine pK ?_|refine pL ?_|refine pM ?_|refine pN ?_);simp (disch := first | with_reducible assumption | omega) only [go_sem, *, reduceCtorEq, ↓reduceIte, Nat.reduceLT, Nat.reduceBEq, Nat.reduceAdd, Nat.reduceSub, Nat.reduceMul, Nat.reduceDiv, Nat.reduceMod, Nat.reducePow, Nat.reduceEqDiff, Nat.reduceLeDiff, Int.reduceLT, Int.reduceLE, Int.reduceNeg, Int.reduceToNat, Int.reduceAdd, Int.reduceSub, Int.reduceMul, Int.reduceEq, Int.reduceNe, Int.reduceBEq, Int.reduceBNe, Int.reducePow])
      exact k3
  · have : ws.drop i = [] := List.drop_eq_nil_of_le (by omega)
    rw [this] at hJk
    have hE := hfin _ hJk
    clear hr' hfin hJk h0 hs
    repeat (with_reducible first|(first|refine pO ?_|refine pP ?_|refine pQ ?_|refine pR (by omega) ?_);intros|refine pS ?_|first|refine qA ?_|refine qB ?_|refine qC ?_|refine qD ?_|refine qE ?_|refine qF ?_|refine qG ?_|refine qH ?_|refine qI ?_|refine qJ ?_|refine qK ?_|refine qL ?_|refine qM rfl ?_|refine qN ?_|refine qO ?_|refine qP ?_|refine qQ ?_|refine qR ?_|refine qS ?_|refine qT ?_|refine qU ?_|refine qV ?_|refine qW ?_|refine qX ?_|refine qY ?_|refine qZ ?_|refine pA ?_|refine pB ?_|refine pC ?_|(first|refine pD ?_|refine pE ?_|refine pF ?_|refine pT ?_|refine pG ?_|refine pH ?_|refine pI ?_|refine pJ ?_|refine pK ?_|refine pL ?_|refine pM ?_|refine pN ?_);simp (disch := first | with_reducible assumption | omega) only [go_sem, *, reduceCtorEq, ↓reduceIte, Nat.reduceLT, Nat.reduceBEq, Nat.reduceAdd, Nat.reduceSub, Nat.reduceMul, Nat.reduceDiv, Nat.reduceMod, Nat.reducePow, Nat.reduceEqDiff, Nat.reduceLeDiff, Int.reduceLT, Int.reduceLE, Int.reduceNeg, Int.reduceToNat, Int.reduceAdd, Int.reduceSub, Int.reduceMul, Int.reduceEq, Int.reduceNe, Int.reduceBEq, Int.reduceBNe, Int.reducePow])
    exact hE
theorem s_Values {H : Heap} {x : Cell} : WC F fn_slices_Values_int_int [.c x] H fun v H' => ∃ b, v = .c (.fn fn_slices_Values_int_int_1 [] [(b, 0)]) ∧ H.length ≤ b ∧ b < H'.length ∧ H'[b]? = some (.cells [x] false none) ∧ Xt H H' := by
  refine WC_start e_slices_Values_int_int (by simp) ?_
  unfold c_slices_Values_int_int
  repeat (with_reducible first|(first|refine pO ?_|refine pP ?_|refine pQ ?_|refine pR (by omega) ?_);intros|refine pS ?_|first|refine qA ?_|refine qB ?_|refine qC ?_|refine qD ?_|refine qE ?_|refine qF ?_|refine qG ?_|refine qH ?_|refine qI ?_|refine qJ ?_|refine qK ?_|refine qL ?_|refine qM rfl ?_|refine qN ?_|refine qO ?_|refine qP ?_|refine qQ ?_|refine qR ?_|refine qS ?_|refine qT ?_|refine qU ?_|refine qV ?_|refine qW ?_|refine qX ?_|refine qY ?_|refine qZ ?_|refine pA ?_|refine pB ?_|refine pC ?_|(first|refine pD ?_|refine pE ?_|refine pF ?_|refine pT ?_|refine pG ?_|refine pH ?_|refine pI ?_|refine pJ ?_|refine pK ?_|refine pL ?_|refine pM ?_|refine pN ?_);simp (disch := first | with_reducible assumption | omega) only [go_sem, *, reduceCtorEq, ↓reduceIte, Nat.reduceLT, Nat.reduceBEq, Nat.reduceAdd, Nat.reduceSub, Nat.reduceMul, Nat.reduceDiv, Nat.reduceMod, Nat.reducePow, Nat.reduceEqDiff, Nat.reduceLeDiff, Int.reduceLT, Int.reduceLE, Int.reduceNeg, Int.reduceToNat, Int.reduceAdd, Int.reduceSub, Int.reduceMul, Int.reduceEq, Int.reduceNe, Int.reduceBEq, Int.reduceBNe, Int.reducePow])
  rename_i b1 H1 p1 g1 x1
  repeat (with_reducible first|(first|refine pO ?_|refine pP ?_|refine pQ ?_|refine pR (by omega) ?_);intros|refine pS ?_|first|refine qA ?_|refine qB ?_|refine qC ?_|refine qD ?_|refine qE ?_|refine qF ?_|refine qG ?_|refine qH ?_|refine qI ?_|refine qJ ?_|refine qK ?_|refine qL ?_|refine qM rfl ?_|refine qN ?_|refine qO ?_|refine qP ?_|refine qQ ?_|refine qR ?_|refine qS ?_|refine qT ?_|refine qU ?_|refine qV ?_|refine qW ?_|refine qX ?_|refine qY ?_|refine qZ ?_|refine pA ?_|refine pB ?_|refine pC ?_|(first|refine pD ?_|refine pE ?_|refine pF ?_|refine pT ?_|refine pG ?_|refine pH ?_|refine pI ?_|refine pJ ?_|refine pK ?_|refine pL ?_|refine pM ?_|refine pN ?_);simp (disch := first | with_reducible assumption | omega) only [go_sem, *, reduceCtorEq, ↓reduceIte, Nat.reduceLT, Nat.reduceBEq, Nat.reduceAdd, Nat.reduceSub, Nat.reduceMul, Nat.reduceDiv, Nat.reduceMod, Nat.reducePow, Nat.reduceEqDiff, Nat.reduceLeDiff, Int.reduceLT, Int.reduceLE, Int.reduceNeg, Int.reduceToNat, Int.reduceAdd, Int.reduceSub, Int.reduceMul, Int.reduceEq, Int.reduceNe, Int.reduceBEq, Int.reduceBNe, Int.reducePow])
  exact ⟨b1, rfl, by omega, by omega, g1, by omega, fun b hb => by simp (disch := first | with_reducible assumption | omega) only [go_sem, *, reduceCtorEq, ↓reduceIte, Nat.reduceLT, Nat.reduceBEq, Nat.reduceAdd, Nat.reduceSub, Nat.reduceMul, Nat.reduceDiv, Nat.reduceMod, Nat.reducePow, Nat.reduceEqDiff, Nat.reduceLeDiff, Int.reduceLT, Int.reduceLE, Int.reduceNeg, Int.reduceToNat, Int.reduceAdd, Int.reduceSub, Int.reduceMul, Int.reduceEq, Int.reduceNe, Int.reduceBEq, Int.reduceBNe, Int.reducePow]⟩
theorem s_AppendSeq {H : Heap} {b n c : Nat} {a : Option Ad} {o : Bool} {ws : List Int} (hn : n ≤ 100000) (hl : ws.length = n) (hb : H[b]? = some (.cells [.sl a n c o] false none)) (hs : Sl H 1 a n (ints ws)) :
    WC F fn_slices_AppendSeq_int_int [.c (.sl none 0 0 false), .c (.fn fn_slices_Values_int_int_1 [] [(b, 0)])] H fun v H' => ∃ a' o', v = .c (.sl a' n n o') ∧ (n = 0 → a' = none ∧ o' = false) ∧ Gr H.length H' 1 a' n o' (ints ws) ∧ Xt H H' := by
  refine WC_start e_slices_AppendSeq_int_int (by simp) ?_
  unfold c_slices_AppendSeq_int_int
  have lb := lt_of_get hb
  have hla : ∀ lb y, a = some (lb, y) → lb < H.length := fun lb y e => by subst e; exact hs.lts
  repeat (with_reducible first|(first|refine pO ?_|refine pP ?_|refine pQ ?_|refine pR (by omega) ?_);intros|refine pS ?_|first|refine qA ?_|refine qB ?_|refine qC ?_|refine qD ?_|refine qE ?_|refine qF ?_|refine qG ?_|refine qH ?_|refine qI ?_|refine qJ ?_|refine qK ?_|refine qL ?_|refine qM rfl ?_|refine qN ?_|refine qO ?_|refine qP ?_|refine qQ ?_|refine qR ?_|refine qS ?_|refine qT ?_|refine qU ?_|refine qV ?_|refine qW ?_|refine qX ?_|refine qY ?_|refine qZ ?_|refine pA ?_|refine pB ?_|refine pC ?_|(first|refine pD ?_|refine pE ?_|refine pF ?_|refine pT ?_|refine pG ?_|refine pH ?_|refine pI ?_|refine pJ ?_|refine pK ?_|refine pL ?_|refine pM ?_|refine pN ?_);simp (disch := first | with_reducible assumption | omega) only [go_sem, *, reduceCtorEq, ↓reduceIte, Nat.reduceLT, Nat.reduceBEq, Nat.reduceAdd, Nat.reduceSub, Nat.reduceMul, Nat.reduceDiv, Nat.reduceMod, Nat.reducePow, Nat.reduceEqDiff, Nat.reduceLeDiff, Int.reduceLT, Int.reduceLE, Int.reduceNeg, Int.reduceToNat, Int.reduceAdd, Int.reduceSub, Int.reduceMul, Int.reduceEq, Int.reduceNe, Int.reduceBEq, Int.reduceBNe, Int.reducePow])
  rename_i e H1 p1 g1 x1
  repeat (with_reducible first|(first|refine pO ?_|refine pP ?_|refine pQ ?_|refine pR (by omega) ?_);intros|refine pS ?_|first|refine qA ?_|refine qB ?_|refine qC ?_|refine qD ?_|refine qE ?_|refine qF ?_|refine qG ?_|refine qH ?_|refine qI ?_|refine qJ ?_|refine qK ?_|refine qL ?_|refine qM rfl ?_|refine qN ?_|refine qO ?_|refine qP ?_|refine qQ ?_|refine qR ?_|refine qS ?_|refine qT ?_|refine qU ?_|refine qV ?_|refine qW ?_|refine qX ?_|refine qY ?_|refine qZ ?_|refine pA ?_|refine pB ?_|refine pC ?_|(first|refine pD ?_|refine pE ?_|refine pF ?_|refine pT ?_|refine pG ?_|refine pH ?_|refine pI ?_|refine pJ ?_|refine pK ?_|refine pL ?_|refine pM ?_|refine pN ?_);simp (disch := first | with_reducible assumption | omega) only [go_sem, *, reduceCtorEq, ↓reduceIte, Nat.reduceLT, Nat.reduceBEq, Nat.reduceAdd, Nat.reduceSub, Nat.reduceMul, Nat.reduceDiv, Nat.reduceMod, Nat.reducePow, Nat.reduceEqDiff, Nat.reduceLeDiff, Int.reduceLT, Int.reduceLE, Int.reduceNeg, Int.reduceToNat, Int.reduceAdd, Int.reduceSub, Int.reduceMul, Int.reduceEq, Int.reduceNe, Int.reduceBEq, Int.reduceBNe, Int.reducePow])
  unfold a_slices_AppendSeq_int_int_4
  have hs1 : Sl H1 1 a n (ints ws) := hs.to fun c hc => x1 c (by omega)
  have hb1 : H1[b]? = some (.cells [.sl a n c o] false none) := (x1 b (by omega)).trans hb
  refine W_rangeT (F := F) (enc := enci) (T := nob) (xs := ws) kF (by simp (disch := first | with_reducible assumption | omega) only [go_sem, *, reduceCtorEq, ↓reduceIte, Nat.reduceLT, Nat.reduceBEq, Nat.reduceAdd, Nat.reduceSub, Nat.reduceMul, Nat.reduceDiv, Nat.reduceMod, Nat.reducePow, Nat.reduceEqDiff, Nat.reduceLeDiff, Int.reduceLT, Int.reduceLE, Int.reduceNeg, Int.reduceToNat, Int.reduceAdd, Int.reduceSub, Int.reduceMul, Int.reduceEq, Int.reduceNe, Int.reduceBEq, Int.reduceBNe, Int.reducePow]; first | done | rfl) (fun _ h => h.elim) (it_vals hn hl)
    (fun d r Hx => ∃ a' o', (d.length = 0 → a' = none ∧ o' = false) ∧ Hx[e]? = some (.cells [.sl a' d.length d.length o'] false none) ∧ Gr (H1.length + 2) Hx 1 a' d.length o' (ints d) ∧ ∀ b, b < H.length → Hx[b]? = H1[b]?)
    (fun _ _ => False)
    (fun J => ⟨get_app' J hb1, hs1.to fun c hc => get_app J hc⟩) ?_ (fun _ => rfl) ?_ (fun _ _ _ h => h.elim) ?_ ?_ ?_ (fun _ _ h => h.elim)
  · rintro x ⟨lb', y, e1, rfl⟩
    have := hla _ _ e1
    omega
  · rintro d r H7 H8 ⟨a', o', k0, k1, k2, k3⟩ l7 l8 x8
    exact ⟨a', o', k0, by rw [x8 e (by omega) (fun h => h) (by omega)]; exact k1, k2.keep fun b hb hb2 _ => x8 b hb2 (fun h => h) (by omega), fun b hb => by rw [x8 b (by omega) (fun h => h) (by omega)]; exact k3 b hb⟩
  · intro H7 l7 x7
    exact ⟨none, false, fun _ => ⟨rfl, rfl⟩, by rw [x7 e (by omega)]; exact g1, Gr.none _ _ _, fun b hb => x7 b (by omega)⟩
  · intro d w r Ha hd
    simp only [enci, List.zip_cons_cons, List.zip_nil_left, List.foldl_cons, List.foldl_nil, L_set]
    have hdl : d.length < n := by have := congrArg List.length hd; simp at this; omega
    clear hd hs hs1 hb hb1
    repeat (with_reducible first|(first|refine pO ?_|refine pP ?_|refine pQ ?_|refine pR (by omega) ?_);intros|refine pS ?_|first|refine qA ?_|refine qB ?_|refine qC ?_|refine qD ?_|refine qE ?_|refine qF ?_|refine qG ?_|refine qH ?_|refine qI ?_|refine qJ ?_|refine qK ?_|refine qL ?_|refine qM rfl ?_|refine qN ?_|refine qO ?_|refine qP ?_|refine qQ ?_|refine qR ?_|refine qS ?_|refine qT ?_|refine qU ?_|refine qV ?_|refine qW ?_|refine qX ?_|refine qY ?_|refine qZ ?_|refine pA ?_|refine pB ?_|refine pC ?_|(first|refine pD ?_|refine pE ?_|refine pF ?_|refine pT ?_|refine pG ?_|refine pH ?_|refine pI ?_|refine pJ ?_|refine pK ?_|refine pL ?_|refine pM ?_|refine pN ?_);simp (disch := first | with_reducible assumption | omega) only [go_sem, *, reduceCtorEq, ↓reduceIte, Nat.reduceLT, Nat.reduceBEq, Nat.reduceAdd, Nat.reduceSub, Nat.reduceMul, Nat.reduceDiv, Nat.reduceMod, Nat.reducePow, Nat.reduceEqDiff, Nat.reduceLeDiff, Int.reduceLT, Int.reduceLE, Int.reduceNeg, Int.reduceToNat, Int.reduceAdd, Int.reduceSub, Int.reduceMul, Int.reduceEq, Int.reduceNe, Int.reduceBEq, Int.reduceBNe, Int.reducePow])
    refine ⟨rfl, ?_⟩
    rintro H7 ⟨a', o', -, k1, k2, k3⟩ hll l7
    unfold b_slices_AppendSeq_int_int_5
    have hlt := k2.lt
    repeat (with_reducible first|(first|refine pO ?_|refine pP ?_|refine pQ ?_|refine pR (by omega) ?_);intros|refine pS ?_|first|refine qA ?_|refine qB ?_|refine qC ?_|refine qD ?_|refine qE ?_|refine qF ?_|refine qG ?_|refine qH ?_|refine qI ?_|refine qJ ?_|refine qK ?_|refine qL ?_|refine qM rfl ?_|refine qN ?_|refine qO ?_|refine qP ?_|refine qQ ?_|refine qR ?_|refine qS ?_|refine qT ?_|refine qU ?_|refine qV ?_|refine qW ?_|refine qX ?_|refine qY ?_|refine qZ ?_|refine pA ?_|refine pB ?_|refine pC ?_|(first|refine pD ?_|refine pE ?_|refine pF ?_|refine pT ?_|refine pG ?_|refine pH ?_|refine pI ?_|refine pJ ?_|refine pK ?_|refine pL ?_|refine pM ?_|refine pN ?_);simp (disch := first | with_reducible assumption | omega) only [go_sem, *, reduceCtorEq, ↓reduceIte, Nat.reduceLT, Nat.reduceBEq, Nat.reduceAdd, Nat.reduceSub, Nat.reduceMul, Nat.reduceDiv, Nat.reduceMod, Nat.reducePow, Nat.reduceEqDiff, Nat.reduceLeDiff, Int.reduceLT, Int.reduceLE, Int.reduceNeg, Int.reduceToNat, Int.reduceAdd, Int.reduceSub, Int.reduceMul, Int.reduceEq, Int.reduceNe, Int.reduceBEq, Int.reduceBNe, Int.reducePow])
    rename_i b8 H8 p8 g8 x8
    have k2' := k2.keepX (H' := H8) fun b hb => x8 b (by omega)
    clear k2
    refine outM_appG (ys := [.int .i64 w]) k2' (by omega) (Sl.blk g8 rfl) (by omega) (by omega) ?_
    intro a2 H9 hg9 l9 x9 y9 z9
    clear k2'
    have ye : H9[e]? = H7[e]? := by rw [x9 e (by omega), x8 e (by omega)]
    have yl : H9[H1.length + 1]? = H7[H1.length + 1]? := by rw [x9 _ (by omega), x8 _ (by omega)]
    have hg9' : ∃ lo, lo = H1.length + 2 ∧ Gr lo H9 1 a2 (d.length + 1) true (ints d ++ [.int .i64 w]) := ⟨_, rfl, hg9⟩
    obtain ⟨lo, hlo, hg9'⟩ := hg9'
    clear hg9 y9 z9
    repeat (with_reducible first|(first|refine pO ?_|refine pP ?_|refine pQ ?_|refine pR (by omega) ?_);intros|refine pS ?_|first|refine qA ?_|refine qB ?_|refine qC ?_|refine qD ?_|refine qE ?_|refine qF ?_|refine qG ?_|refine qH ?_|refine qI ?_|refine qJ ?_|refine qK ?_|refine qL ?_|refine qM rfl ?_|refine qN ?_|refine qO ?_|refine qP ?_|refine qQ ?_|refine qR ?_|refine qS ?_|refine qT ?_|refine qU ?_|refine qV ?_|refine qW ?_|refine qX ?_|refine qY ?_|refine qZ ?_|refine pA ?_|refine pB ?_|refine pC ?_|(first|refine pD ?_|refine pE ?_|refine pF ?_|refine pT ?_|refine pG ?_|refine pH ?_|refine pI ?_|refine pJ ?_|refine pK ?_|refine pL ?_|refine pM ?_|refine pN ?_);simp (disch := first | with_reducible assumption | omega) only [go_sem, *, reduceCtorEq, ↓reduceIte, Nat.reduceLT, Nat.reduceBEq, Nat.reduceAdd, Nat.reduceSub, Nat.reduceMul, Nat.reduceDiv, Nat.reduceMod, Nat.reducePow, Nat.reduceEqDiff, Nat.reduceLeDiff, Int.reduceLT, Int.reduceLE, Int.reduceNeg, Int.reduceToNat, Int.reduceAdd, Int.reduceSub, Int.reduceMul, Int.reduceEq, Int.reduceNe, Int.reduceBEq, Int.reduceBNe, Int.reducePow])
    rename_i H10 l10 g10 x10
    refine turnQ_n (by omega) ?_ (fun b hb => ?_) ⟨a2, true, fun h => by simp at h, ?_, ?_, fun b hb => ?_⟩
    · rw [x10 _ (by omega)]; exact yl
    · obtain ⟨lb', y, e1, rfl⟩ := hb
      have := hla _ _ e1
      rw [x10 _ (by omega), x9 _ (by omega), x8 _ (by omega)]
    · rw [List.length_append, List.length_singleton]; exact g10
    · rw [List.length_append, List.length_singleton, ints_app]
      subst hlo
      exact hg9'.keep fun b hb hb2 _ => x10 b (by omega)
    · rw [x10 _ (by omega), x9 _ (by omega), x8 _ (by omega)]; exact k3 b hb
  · rintro H7 ⟨a', o', k0, k1, k2, k3⟩ hd l7
    rw [hl] at k0 k1 k2
    have fin0 := fun (A : Prop) (h : _ → A) => h k0
    clear k0
    have k2' := k2.mono (lo' := H.length) (by omega)
    have hlt := k2.lt
    clear k2 hs hs1
    repeat (with_reducible first|(first|refine pO ?_|refine pP ?_|refine pQ ?_|refine pR (by omega) ?_);intros|refine pS ?_|first|refine qA ?_|refine qB ?_|refine qC ?_|refine qD ?_|refine qE ?_|refine qF ?_|refine qG ?_|refine qH ?_|refine qI ?_|refine qJ ?_|refine qK ?_|refine qL ?_|refine qM rfl ?_|refine qN ?_|refine qO ?_|refine qP ?_|refine qQ ?_|refine qR ?_|refine qS ?_|refine qT ?_|refine qU ?_|refine qV ?_|refine qW ?_|refine qX ?_|refine qY ?_|refine qZ ?_|refine pA ?_|refine pB ?_|refine pC ?_|(first|refine pD ?_|refine pE ?_|refine pF ?_|refine pT ?_|refine pG ?_|refine pH ?_|refine pI ?_|refine pJ ?_|refine pK ?_|refine pL ?_|refine pM ?_|refine pN ?_);simp (disch := first | with_reducible assumption | omega) only [go_sem, *, reduceCtorEq, ↓reduceIte, Nat.reduceLT, Nat.reduceBEq, Nat.reduceAdd, Nat.reduceSub, Nat.reduceMul, Nat.reduceDiv, Nat.reduceMod, Nat.reducePow, Nat.reduceEqDiff, Nat.reduceLeDiff, Int.reduceLT, Int.reduceLE, Int.reduceNeg, Int.reduceToNat, Int.reduceAdd, Int.reduceSub, Int.reduceMul, Int.reduceEq, Int.reduceNe, Int.reduceBEq, Int.reduceBNe, Int.reducePow])
    refine callQ_1 hd fun H8 l8 x8 => ?_
    repeat (with_reducible first|(first|refine pO ?_|refine pP ?_|refine pQ ?_|refine pR (by omega) ?_);intros|refine pS ?_|first|refine qA ?_|refine qB ?_|refine qC ?_|refine qD ?_|refine qE ?_|refine qF ?_|refine qG ?_|refine qH ?_|refine qI ?_|refine qJ ?_|refine qK ?_|refine qL ?_|refine qM rfl ?_|refine qN ?_|refine qO ?_|refine qP ?_|refine qQ ?_|refine qR ?_|refine qS ?_|refine qT ?_|refine qU ?_|refine qV ?_|refine qW ?_|refine qX ?_|refine qY ?_|refine qZ ?_|refine pA ?_|refine pB ?_|refine pC ?_|(first|refine pD ?_|refine pE ?_|refine pF ?_|refine pT ?_|refine pG ?_|refine pH ?_|refine pI ?_|refine pJ ?_|refine pK ?_|refine pL ?_|refine pM ?_|refine pN ?_);simp (disch := first | with_reducible assumption | omega) only [go_sem, *, reduceCtorEq, ↓reduceIte, Nat.reduceLT, Nat.reduceBEq, Nat.reduceAdd, Nat.reduceSub, Nat.reduceMul, Nat.reduceDiv, Nat.reduceMod, Nat.reducePow, Nat.reduceEqDiff, Nat.reduceLeDiff, Int.reduceLT, Int.reduceLE, Int.reduceNeg, Int.reduceToNat, Int.reduceAdd, Int.reduceSub, Int.reduceMul, Int.reduceEq, Int.reduceNe, Int.reduceBEq, Int.reduceBNe, Int.reducePow])
    exact ⟨a', o', rfl, fin0 _ fun h => h, k2'.keep fun b hb hb2 hb3 => x8 b fun e => hb3 fun x ex => by have := hlt x ex; omega, by omega, fun b hb => by rw [x8 b (by omega), k3 b hb, x1 b (by omega)]⟩
theorem s_Collect {H : Heap} {b n c : Nat} {a : Option Ad} {o : Bool} {ws : List Int} (hn : n ≤ 100000) (hl : ws.length = n) (hb : H[b]? = some (.cells [.sl a n c o] false none)) (hs : Sl H 1 a n (ints ws)) :
    WC F fn_slices_Collect_int [.c (.fn fn_slices_Values_int_int_1 [] [(b, 0)])] H fun v H' => ∃ a' o', v = .c (.sl a' n n o') ∧ (n = 0 → a' = none ∧ o' = false) ∧ Gr H.length H' 1 a' n o' (ints ws) ∧ Xt H H' := by
  refine WC_start e_slices_Collect_int (by simp) ?_
  unfold c_slices_Collect_int
  repeat (with_reducible first|(first|refine pO ?_|refine pP ?_|refine pQ ?_|refine pR (by omega) ?_);intros|refine pS ?_|first|refine qA ?_|refine qB ?_|refine qC ?_|refine qD ?_|refine qE ?_|refine qF ?_|refine qG ?_|refine qH ?_|refine qI ?_|refine qJ ?_|refine qK ?_|refine qL ?_|refine qM rfl ?_|refine qN ?_|refine qO ?_|refine qP ?_|refine qQ ?_|refine qR ?_|refine qS ?_|refine qT ?_|refine qU ?_|refine qV ?_|refine qW ?_|refine qX ?_|refine qY ?_|refine qZ ?_|refine pA ?_|refine pB ?_|refine pC ?_|(first|refine pD ?_|refine pE ?_|refine pF ?_|refine pT ?_|refine pG ?_|refine pH ?_|refine pI ?_|refine pJ ?_|refine pK ?_|refine pL ?_|refine pM ?_|refine pN ?_);simp (disch := first | with_reducible assumption | omega) only [go_sem, *, reduceCtorEq, ↓reduceIte, Nat.reduceLT, Nat.reduceBEq, Nat.reduceAdd, Nat.reduceSub, Nat.reduceMul, Nat.reduceDiv, Nat.reduceMod, Nat.reducePow, Nat.reduceEqDiff, Nat.reduceLeDiff, Int.reduceLT, Int.reduceLE, Int.reduceNeg, Int.reduceToNat, Int.reduceAdd, Int.reduceSub, Int.reduceMul, Int.reduceEq, Int.reduceNe, Int.reduceBEq, Int.reduceBNe, Int.reducePow])
  refine outM_call (s_AppendSeq hn hl hb hs) ?_
  rintro _ H1 ⟨a', o', rfl, k0, k1, l1, x1⟩
  have fin0 := fun (A : Prop) (h : _ → A) => h k0
  clear k0
  have k1' : ∃ lo, lo = H.length ∧ Gr lo H1 1 a' n o' (ints ws) := ⟨_, rfl, k1⟩
  obtain ⟨lo, hlo, k2⟩ := k1'
  clear k1 hs
  repeat (with_reducible first|(first|refine pO ?_|refine pP ?_|refine pQ ?_|refine pR (by omega) ?_);intros|refine pS ?_|first|refine qA ?_|refine qB ?_|refine qC ?_|refine qD ?_|refine qE ?_|refine qF ?_|refine qG ?_|refine qH ?_|refine qI ?_|refine qJ ?_|refine qK ?_|refine qL ?_|refine qM rfl ?_|refine qN ?_|refine qO ?_|refine qP ?_|refine qQ ?_|refine qR ?_|refine qS ?_|refine qT ?_|refine qU ?_|refine qV ?_|refine qW ?_|refine qX ?_|refine qY ?_|refine qZ ?_|refine pA ?_|refine pB ?_|refine pC ?_|(first|refine pD ?_|refine pE ?_|refine pF ?_|refine pT ?_|refine pG ?_|refine pH ?_|refine pI ?_|refine pJ ?_|refine pK ?_|refine pL ?_|refine pM ?_|refine pN ?_);simp (disch := first | with_reducible assumption | omega) only [go_sem, *, reduceCtorEq, ↓reduceIte, Nat.reduceLT, Nat.reduceBEq, Nat.reduceAdd, Nat.reduceSub, Nat.reduceMul, Nat.reduceDiv, Nat.reduceMod, Nat.reducePow, Nat.reduceEqDiff, Nat.reduceLeDiff, Int.reduceLT, Int.reduceLE, Int.reduceNeg, Int.reduceToNat, Int.reduceAdd, Int.reduceSub, Int.reduceMul, Int.reduceEq, Int.reduceNe, Int.reduceBEq, Int.reduceBNe, Int.reducePow])
  subst hlo
  exact ⟨a', o', rfl, fin0 _ fun h => h, k2, l1, x1⟩
/-- A slice of numbers in order. -/
theorem s_Sort {H : Heap} {lo n : Nat} {a : Option Ad} {o : Bool} {ws : List Int} (hn : n ≤ 100000) (h0 : n = 0 → a = none ∧ o = false) (h : Gr lo H 1 a n o (ints ws)) :
    WC F fn_slices_Sort_int_int [.c (.sl a n n o)] H fun _ H' => Gr lo H' 1 a n o (ints (sorted ws)) ∧ Same H H' ∧ ∀ c, c < H.length → away a c → H'[c]? = H[c]? := by
  have hf : F fn_slices_Sort_int_int = some (.ext sortX) := by rfl
  have hlen := h.len
  rw [ints_len, Nat.mul_one] at hlen
  cases n with
  | zero =>
    obtain rfl : ws = [] := List.length_eq_zero_iff.1 hlen
    obtain ⟨rfl, rfl⟩ := h0 rfl
    have e : sorted [] = [] := by simp [sorted]
    rw [e]
    exact WC_ext hf (v := .undef) (H' := H) rfl ⟨h, ⟨Nat.le_refl _, Nat.le_refl _⟩, fun _ _ _ => rfl⟩
  | succ m =>
    obtain ⟨b, rfl, rfl, h3, h4, h5⟩ := h.blk (by omega)
    have hx : H.ldn (b, 0) (m + 1) = some (ints ws) := by
      have := ldn_all h5
      rw [ints_len, hlen] at this; exact this
    have hz : H.st (b, 0) (ints (sorted ws)) = some (H.set b (.cells (ints (sorted ws)) false (some 1))) := by
      rw [st_of h5 (by rw [ints_len, ints_len, sorted_length]; omega), put_all' (by rw [ints_len, ints_len, sorted_length])]
    refine WC_ext hf (v := .undef) (H' := H.set b (.cells (ints (sorted ws)) false (some 1))) ?_ ⟨Gr.mk' (get_set_same _ h4) (by rw [ints_len, sorted_length]; omega) h3, ⟨by simp, by simp⟩, fun c hc ha => List.getElem?_set_ne fun e => ha _ rfl e.symm⟩
    unfold sortX
    dsimp only
    rw [if_neg (by omega), hx, Option.bind_some, intsO_ints, Option.bind_some, hz, Option.map_some]
/-- In order, in memory of its own. -/
theorem s_Sorted {H : Heap} {b n c : Nat} {a : Option Ad} {o : Bool} {ws : List Int} (hn : n ≤ 100000) (hl : ws.length = n) (hb : H[b]? = some (.cells [.sl a n c o] false none)) (hs : Sl H 1 a n (ints ws)) :
    WC F fn_slices_Sorted_int [.c (.fn fn_slices_Values_int_int_1 [] [(b, 0)])] H fun v H' => ∃ a' o', v = .c (.sl a' n n o') ∧ (n = 0 → a' = none ∧ o' = false) ∧ Gr H.length H' 1 a' n o' (ints (sorted ws)) ∧ Xt H H' := by
  refine WC_start e_slices_Sorted_int (by simp) ?_
  unfold c_slices_Sorted_int
  repeat (with_reducible first|(first|refine pO ?_|refine pP ?_|refine pQ ?_|refine pR (by omega) ?_);intros|refine pS ?_|first|refine qA ?_|refine qB ?_|refine qC ?_|refine qD ?_|refine qE ?_|refine qF ?_|refine qG ?_|refine qH ?_|refine qI ?_|refine qJ ?_|refine qK ?_|refine qL ?_|refine qM rfl ?_|refine qN ?_|refine qO ?_|refine qP ?_|refine qQ ?_|refine qR ?_|refine qS ?_|refine qT ?_|refine qU ?_|refine qV ?_|refine qW ?_|refine qX ?_|refine qY ?_|refine qZ ?_|refine pA ?_|refine pB ?_|refine pC ?_|(first|refine pD ?_|refine pE ?_|refine pF ?_|refine pT ?_|refine pG ?_|refine pH ?_|refine pI ?_|refine pJ ?_|refine pK ?_|refine pL ?_|refine pM ?_|refine pN ?_);simp (disch := first | with_reducible assumption | omega) only [go_sem, *, reduceCtorEq, ↓reduceIte, Nat.reduceLT, Nat.reduceBEq, Nat.reduceAdd, Nat.reduceSub, Nat.reduceMul, Nat.reduceDiv, Nat.reduceMod, Nat.reducePow, Nat.reduceEqDiff, Nat.reduceLeDiff, Int.reduceLT, Int.reduceLE, Int.reduceNeg, Int.reduceToNat, Int.reduceAdd, Int.reduceSub, Int.reduceMul, Int.reduceEq, Int.reduceNe, Int.reduceBEq, Int.reduceBNe, Int.reducePow])
  refine outM_call (s_Collect hn hl hb hs) ?_
  rintro _ H1 ⟨a', o', rfl, k0, k1, l1, x1⟩
  have hso := s_Sort hn k0 k1
  have fin0 := fun (A : Prop) (h : _ → A) => h k0
  clear k0
  clear hs
  have hlt := k1.2
  clear k1
  repeat (with_reducible first|(first|refine pO ?_|refine pP ?_|refine pQ ?_|refine pR (by omega) ?_);intros|refine pS ?_|first|refine qA ?_|refine qB ?_|refine qC ?_|refine qD ?_|refine qE ?_|refine qF ?_|refine qG ?_|refine qH ?_|refine qI ?_|refine qJ ?_|refine qK ?_|refine qL ?_|refine qM rfl ?_|refine qN ?_|refine qO ?_|refine qP ?_|refine qQ ?_|refine qR ?_|refine qS ?_|refine qT ?_|refine qU ?_|refine qV ?_|refine qW ?_|refine qX ?_|refine qY ?_|refine qZ ?_|refine pA ?_|refine pB ?_|refine pC ?_|(first|refine pD ?_|refine pE ?_|refine pF ?_|refine pT ?_|refine pG ?_|refine pH ?_|refine pI ?_|refine pJ ?_|refine pK ?_|refine pL ?_|refine pM ?_|refine pN ?_);simp (disch := first | with_reducible assumption | omega) only [go_sem, *, reduceCtorEq, ↓reduceIte, Nat.reduceLT, Nat.reduceBEq, Nat.reduceAdd, Nat.reduceSub, Nat.reduceMul, Nat.reduceDiv, Nat.reduceMod, Nat.reducePow, Nat.reduceEqDiff, Nat.reduceLeDiff, Int.reduceLT, Int.reduceLE, Int.reduceNeg, Int.reduceToNat, Int.reduceAdd, Int.reduceSub, Int.reduceMul, Int.reduceEq, Int.reduceNe, Int.reduceBEq, Int.reduceBNe, Int.reducePow])
  refine outM_call hso ?_
  rintro _ H2 ⟨k2, l2, x2⟩
  have k3 : ∃ lo, lo = H.length ∧ Gr lo H2 1 a' n o' (ints (sorted ws)) ∧ Xt H H2 := ⟨_, rfl, k2, by omega, fun b hb => by rw [x2 b (by omega) fun x ex => by have := hlt x ex; omega]; exact x1 b hb⟩
  obtain ⟨lo, hlo, k3, k4⟩ := k3
  clear hso k2 hlt x1 x2
  repeat (with_reducible first|(first|refine pO ?_|refine pP ?_|refine pQ ?_|refine pR (by omega) ?_);intros|refine pS ?_|first|refine qA ?_|refine qB ?_|refine qC ?_|refine qD ?_|refine qE ?_|refine qF ?_|refine qG ?_|refine qH ?_|refine qI ?_|refine qJ ?_|refine qK ?_|refine qL ?_|refine qM rfl ?_|refine qN ?_|refine qO ?_|refine qP ?_|refine qQ ?_|refine qR ?_|refine qS ?_|refine qT ?_|refine qU ?_|refine qV ?_|refine qW ?_|refine qX ?_|refine qY ?_|refine qZ ?_|refine pA ?_|refine pB ?_|refine pC ?_|(first|refine pD ?_|refine pE ?_|refine pF ?_|refine pT ?_|refine pG ?_|refine pH ?_|refine pI ?_|refine pJ ?_|refine pK ?_|refine pL ?_|refine pM ?_|refine pN ?_);simp (disch := first | with_reducible assumption | omega) only [go_sem, *, reduceCtorEq, ↓reduceIte, Nat.reduceLT, Nat.reduceBEq, Nat.reduceAdd, Nat.reduceSub, Nat.reduceMul, Nat.reduceDiv, Nat.reduceMod, Nat.reducePow, Nat.reduceEqDiff, Nat.reduceLeDiff, Int.reduceLT, Int.reduceLE, Int.reduceNeg, Int.reduceToNat, Int.reduceAdd, Int.reduceSub, Int.reduceMul, Int.reduceEq, Int.reduceNe, Int.reduceBEq, Int.reduceBNe, Int.reducePow])
  subst hlo
  exact ⟨a', o', rfl, fin0 _ fun h => h, k3, k4⟩
end Go.Proofs.Ytcjonjncekcfhaa.AM.D22
