/- What the functions of chapter 4 come to: a box's copy; the stage's look at itself. -/
import Derived.Test.YtdekplnphbjgbaaD04h
set_option linter.unusedVariables false
set_option linter.unusedSimpArgs false
set_option linter.unusedSectionVars false
namespace Go.Proofs.Ytdekplnphbjgbaa.AM.D04
open Go Go.Proofs.Ytdekplnphbjgbaa.AM
set_option maxHeartbeats 2000000
set_option maxRecDepth 100000
attribute [local go_sem] ev_L k_ev Env.up_app Env.of_app aop_mv aop_pick aop_bin aop_eq aop_eqagg aop_un aop_cv aop_nilck aop_ld aop_st aop_iaS aop_iaA aop_fa aop_fld aop_ix aop_ext aop_len aop_lenK aop_box aop_new aop_build aop_bsl aop_mkfn aop_call callO_fn callO_yld aop_app aop_appT aop_cpy aop_clr aop_ins aop_look aop_mksl aop_mkmap aop_s2b s2bO_str mkslO_int aop_slS aop_same aop_b2s fillB_nil outO outS Option.map_none List.length_cons List.length_nil List.length_append List.length_set List.length_replicate List.set_cons_zero List.set_cons_succ pickO_true pickO_false binO_c eqO_c eqaO_agg unO_c cvO_int nilckO_ptr nilckO_fn ldO_one ldO_row stO_one stO_if okA_some oa_some iaSO_sl iaSO_some iaAO_ptr faO_ptr fldO_agg ixO_agg extO_tup lenO_sl lenO_str V.cells_c V.cells_agg Option.map_some Option.bind_some Option.getD_some List.getElem?_cons_zero List.getElem?_cons_succ List.map_cons List.map_nil V.pc Pc.v asI adsOf adOf Int.toNat_natCast Nat.mul_one Nat.zero_mul Int.ofNat_lt lss_int leq_int gtr_int geq_int eql_int neq_int and_int or_int xor_int andNot_int shr_u8_i shr_u16_i shr_u32_i shr_u64_i shr_i64_i and_u8_i and_u16_i and_u32_i and_u64_i or_u8_i or_u16_i or_u32_i or_u64_i xor_u8_i xor_u16_i xor_u32_i xor_u64_i wrap_u8_i wrap_u16_i wrap_u32_i wrap_u64_i wr_i64 and15 and1 and7 addA_mk Nat.zero_add Nat.add_zero beq_self_eq_true dec_t dec_f decide_true decide_false not_true_eq_false Int.natCast_inj Bool.not_true Bool.not_false Bool.false_eq_true if_true if_false Int.cast_ofNat_Int ne_eq not_false_eq_true Ex.exit.injEq resOf resV L_get? List.mapM_cons List.mapM_nil shutAll_nil shutAll_one ld_blk ldn_blk st_blk ldB_some ldnB_some stB_some put_nil put_cons rdK_ld rdK_b2s List.append_nil List.nil_append List.cons_append List.zip_cons_cons List.zip_nil_left List.zip_nil_right List.foldl_cons List.foldl_nil L_set L_set' rd_one rd_row Option.pure_def Option.bind_eq_bind and_self and_true true_and bne_t bne_f Option.isNone_some Option.isNone_none eqC_bb eqC_pn eqC_ps eqC_sn eqC_ss eqC_fn1 eqC_fn2 eqC_fn3 eqC_mn eqC_ms nats_len nats_get aop_slA slAO_all fillB_cons sameO eq_self add_u8_i add_u16_i add_u32_i add_u64_i mul_u8_i mul_u16_i mul_u32_i mul_u64_i sub_u8_i sub_u16_i sub_u32_i sub_u64_i quo_u8_i quo_u16_i quo_u32_i quo_u64_i rem_u8_i rem_u16_i rem_u32_i rem_u64_i shl_u8_i shl_u16_i shl_u32_i shl_u64_i quo_i64_i rem_i64_i shl_i64_i or_i64_i and_i64_i and_i64_15 and_i64_31 or256 str_eql str_add str_neq bstr_append bstr_size b2sO_ld b2sO_nil strOf_nats sub_nats un_xor_u8 un_xor_u16 un_xor_u32 un_xor_u64 un_neg un_not not_dec beq_int bne_int pickO_dec ld_addA ldn_addA st_addA slSO_lohi slSO_hi Nat.mod_eq_of_lt if_pos if_neg
attribute [local go_sem 500] wrap_u8_z wrap_u16_z wrap_u32_z wrap_u64_z add_int sub_int mul_int
attribute [local go_sem] tn_add1 tn_sub1 clrO_one put_all'
theorem sub10 (a b c d e f g h i j : Cell) : sub [a, b, c, d, e, f, g, h, i, j] 0 10 = some [a, b, c, d, e, f, g, h, i, j] := rfl
attribute [local go_sem] sub10
theorem LR.any {H : Heap} {w : Cell} {ms : List (List Nat)} {S : Nat → Prop} (g : Bool) (h : LR H w true ms S) : LR H w g ms S := by
  rcases h with h | ⟨b, c, o, g', cs, mb, e, h⟩
  · exact .inl h
  · refine .inr ⟨b, c, o, g', cs, mb, e, h.le, h.c9, ?_, h.len, h.blk, h.own, h.at_, h.inj⟩
    rcases h.og with q | q
    · exact .inl q
    · cases q.2.2
theorem take_snoc {ms : List (List Nat)} {k : Nat} (h : k < ms.length) : ms.take k ++ [ms[k]] = ms.take (k + 1) := (List.take_succ_eq_append_getElem h).symm
theorem s_Copy {H : Heap} {bb kp : Nat} {x : Bx} {S : Nat → Prop} (h : PB H bb kp x S) :
    WC F fn_port_Box_Copy [.c (.ptr (some (bb, 0)))] H fun v H' => Xt H H' ∧ ∃ cb, v = .c (.ptr (some (cb, 0))) ∧ PB H' cb kp x (fun c => H.length ≤ c ∧ c < H'.length) := by
  obtain ⟨w, h⟩ := h
  have wf := h.wf
  obtain ⟨⟨part, kind, dir, size, depth, fresh⟩, ms, slot, lost⟩ := x
  obtain ⟨hb, kb, hl, own, lt, nk, -⟩ := h
  dsimp only at hb kb hl
  have lb := lt bb own
  have lk := lt_of_get kb
  obtain ⟨aw, cw, ow, rfl⟩ := hl.len
  obtain ⟨mb, -, hels, hms, hal⟩ := hl.els
  have hlal : ∀ lb y, aw = some (lb, y) → lb < H.length := fun lb y e => lt lb (hal lb y e).1
  have hm1000 : ms.length ≤ 8 := by
    by_cases hk : kind = 2
    · have h1 : (ms.length : Int) ≤ depth := wf.q hk
      have h2 : depth ≤ 8 := (wf.ok.2.2.2.2.1 hk).2.1
      omega
    · have := wf.s hk
      have h1 : ms.length ≤ 1 := this
      omega
  have hwm : ∀ d ∈ ms, (d.length : Int) = size ∧ ∀ b ∈ d, b < 256 := wf.ms
  have hsz : size ≤ 32 := wf.ok.2.2.2.1
  clear hl
  refine WC_start e_port_Box_Copy (by simp) ?_
  unfold c_port_Box_Copy
  repeat (with_reducible first|(first|refine pO ?_|refine pP ?_|refine pQ ?_|refine pR (by omega) ?_);intros|refine pS ?_|first|refine qA ?_|refine qB ?_|refine qC ?_|refine qD ?_|refine qE ?_|refine qF ?_|refine qG ?_|refine qH ?_|refine qI ?_|refine qJ ?_|refine qK ?_|refine qL ?_|refine qM rfl ?_|refine qN ?_|refine qO ?_|refine qP ?_|refine qQ ?_|refine qR ?_|refine qS ?_|refine qT ?_|refine qU ?_|refine qV ?_|refine qW ?_|refine qX ?_|refine qY ?_|refine qZ ?_|refine pA ?_|refine pB ?_|refine pC ?_|(first|refine pD ?_|refine pE ?_|refine pF ?_|refine pG ?_|refine pH ?_|refine pI ?_|refine pJ ?_|refine pK ?_|refine pL ?_|refine pM ?_|refine pN ?_);simp (disch := first | with_reducible assumption | omega) only [go_sem, *, reduceCtorEq, ↓reduceIte, Nat.reduceLT, Nat.reduceBEq, Nat.reduceAdd, Nat.reduceSub, Nat.reduceMul, Nat.reduceDiv, Nat.reduceMod, Nat.reducePow, Nat.reduceEqDiff, Nat.reduceLeDiff, Int.reduceLT, Int.reduceLE, Int.reduceNeg, Int.reduceToNat, Int.reduceAdd, Int.reduceSub, Int.reduceMul, Int.reduceEq, Int.reduceNe, Int.reduceBEq, Int.reduceBNe, Int.reducePow])
  rename_i b3 H3 p3 g3 x3 H4 l4 g4 x4 H5 l5 g5 x5
  refine outM_call (s_allB (H := H5) (bb := bb) (by rw [x5 _ (by omega), x4 _ (by omega), x3 _ (by omega)]; exact hb)) ?_
  rintro _ H6 ⟨b6, rfl, q6, r6, g6, l6, x6⟩
  repeat (with_reducible first|(first|refine pO ?_|refine pP ?_|refine pQ ?_|refine pR (by omega) ?_);intros|refine pS ?_|first|refine qA ?_|refine qB ?_|refine qC ?_|refine qD ?_|refine qE ?_|refine qF ?_|refine qG ?_|refine qH ?_|refine qI ?_|refine qJ ?_|refine qK ?_|refine qL ?_|refine qM rfl ?_|refine qN ?_|refine qO ?_|refine qP ?_|refine qQ ?_|refine qR ?_|refine qS ?_|refine qT ?_|refine qU ?_|refine qV ?_|refine qW ?_|refine qX ?_|refine qY ?_|refine qZ ?_|refine pA ?_|refine pB ?_|refine pC ?_|(first|refine pD ?_|refine pE ?_|refine pF ?_|refine pG ?_|refine pH ?_|refine pI ?_|refine pJ ?_|refine pK ?_|refine pL ?_|refine pM ?_|refine pN ?_);simp (disch := first | with_reducible assumption | omega) only [go_sem, *, reduceCtorEq, ↓reduceIte, Nat.reduceLT, Nat.reduceBEq, Nat.reduceAdd, Nat.reduceSub, Nat.reduceMul, Nat.reduceDiv, Nat.reduceMod, Nat.reducePow, Nat.reduceEqDiff, Nat.reduceLeDiff, Int.reduceLT, Int.reduceLE, Int.reduceNeg, Int.reduceToNat, Int.reduceAdd, Int.reduceSub, Int.reduceMul, Int.reduceEq, Int.reduceNe, Int.reduceBEq, Int.reduceBNe, Int.reducePow])
  unfold a_port_Box_Copy_8
  have yH : ∀ b, b < H.length → H6[b]? = H[b]? := fun b hb => by simp (disch := first | with_reducible assumption | omega) only [go_sem, *, reduceCtorEq, ↓reduceIte, Nat.reduceLT, Nat.reduceBEq, Nat.reduceAdd, Nat.reduceSub, Nat.reduceMul, Nat.reduceDiv, Nat.reduceMod, Nat.reducePow, Nat.reduceEqDiff, Nat.reduceLeDiff, Int.reduceLT, Int.reduceLE, Int.reduceNeg, Int.reduceToNat, Int.reduceAdd, Int.reduceSub, Int.reduceMul, Int.reduceEq, Int.reduceNe, Int.reduceBEq, Int.reduceBNe, Int.reducePow]
  have y3 : H6[b3]? = some (.cells [.int .i64 part, .int .i64 kind, .int .i64 dir, .int .i64 size, .int .i64 depth, .int .i64 fresh, .ptr (some (kp, 0)), .sl none 0 0 false,   .int .i64 slot, .bool lost] false none) := by simp (disch := first | with_reducible assumption | omega) only [go_sem, *, reduceCtorEq, ↓reduceIte, Nat.reduceLT, Nat.reduceBEq, Nat.reduceAdd, Nat.reduceSub, Nat.reduceMul, Nat.reduceDiv, Nat.reduceMod, Nat.reducePow, Nat.reduceEqDiff, Nat.reduceLeDiff, Int.reduceLT, Int.reduceLE, Int.reduceNeg, Int.reduceToNat, Int.reduceAdd, Int.reduceSub, Int.reduceMul, Int.reduceEq, Int.reduceNe, Int.reduceBEq, Int.reduceBNe, Int.reducePow]; first | done | rfl
  clear x3 x4 x5 x6 g3 g4 g5 hb
  have hlen3 : H.length ≤ b3 := by omega
  have hlen6 : b3 < H6.length := by omega
  refine W_rangeT (F := F) (enc := encw) (T := nob) (xs := (List.range ms.length).map fun i => msgC (mb i) (ms.getD i [])) keepF (by simp (disch := first | with_reducible assumption | omega) only [go_sem, *, reduceCtorEq, ↓reduceIte, Nat.reduceLT, Nat.reduceBEq, Nat.reduceAdd, Nat.reduceSub, Nat.reduceMul, Nat.reduceDiv, Nat.reduceMod, Nat.reducePow, Nat.reduceEqDiff, Nat.reduceLeDiff, Int.reduceLT, Int.reduceLE, Int.reduceNeg, Int.reduceToNat, Int.reduceAdd, Int.reduceSub, Int.reduceMul, Int.reduceEq, Int.reduceNe, Int.reduceBEq, Int.reduceBNe, Int.reducePow]; first | done | rfl) (fun _ h => h.elim) (it_vals (b := b6) (a := aw) (n := ms.length) (c := cw) (o := ow) (by omega))
    (fun d r Hx => ∃ w', LR Hx w' true (ms.take d.length) (fun c => H6.length + 2 ≤ c ∧ c < Hx.length) ∧ Hx[b3]? = some (.cells [.int .i64 part, .int .i64 kind, .int .i64 dir, .int .i64 size, .int .i64 depth, .int .i64 fresh, .ptr (some (kp, 0)), w', .int .i64 slot, .bool lost] false none) ∧ ∀ b, b < H6.length → b ≠ b3 → Hx[b]? = H6[b]?)
    (fun _ _ => False)
    (fun J => ⟨get_app' J g6, hels.1, fun h0 => by
      obtain ⟨lb', cs, g, e1, e2, e3⟩ := hels.2 h0
      have := hlal lb' 0 e1
      exact ⟨lb', cs, g, e1, by rw [get_app _ (by omega), yH _ this]; exact e2, e3⟩⟩) ?_ (fun _ => rfl) ?_ (fun _ _ _ h => h.elim) ?_ ?_ ?_ (fun _ _ h => h.elim)
  · rintro b ⟨_, y, e1, rfl⟩
    have := hlal b y e1
    omega
  · rintro d r H7 H8 ⟨w', k1, k2, k3⟩ l7 l8 x8
    exact ⟨w', k1.keep (fun c hc => x8 c hc.2 (fun h => h) (by omega)) fun c hc => ⟨hc.1, by omega⟩, by rw [x8 b3 (by omega) (fun h => h) (by omega)]; exact k2, fun b hb hne => by rw [x8 b (by omega) (fun h => h) (by omega)]; exact k3 b hb hne⟩
  · intro H7 l7 x7
    exact ⟨.sl none 0 0 false, .inl ⟨rfl, rfl⟩, by rw [x7 b3 hlen6]; exact y3, fun b hb _ => x7 b hb⟩
  · intro d w r Ha hd
    simp only [encw, List.zip_cons_cons, List.zip_nil_left, List.foldl_cons, List.foldl_nil, L_set]
    have hdl : d.length < ms.length := by have := congrArg List.length hd; simp at this; omega
    have hw : w = msgC (mb d.length) ms[d.length] := by
      have e1 : ((List.range ms.length).map fun i => msgC (mb i) (ms.getD i []))[d.length]? = some w := by rw [hd]; simp
      rw [List.getElem?_map, List.getElem?_range hdl] at e1
      simp [List.getD_eq_getElem?_getD, hdl] at e1
      exact e1.symm
    subst hw
    obtain ⟨m1, m2, m3⟩ := hms d.length hdl
    have hts := take_snoc hdl
    have hmem := (hwm _ (List.getElem_mem hdl)).1
    have l0 := lt _ m3.1
    have m0 : mb d.length ≠ b3 := by omega
    clear hd hms hels hal hwm
    generalize ms[d.length] = dd at *
    repeat (with_reducible first|(first|refine pO ?_|refine pP ?_|refine pQ ?_|refine pR (by omega) ?_);intros|refine pS ?_|first|refine qA ?_|refine qB ?_|refine qC ?_|refine qD ?_|refine qE ?_|refine qF ?_|refine qG ?_|refine qH ?_|refine qI ?_|refine qJ ?_|refine qK ?_|refine qL ?_|refine qM rfl ?_|refine qN ?_|refine qO ?_|refine qP ?_|refine qQ ?_|refine qR ?_|refine qS ?_|refine qT ?_|refine qU ?_|refine qV ?_|refine qW ?_|refine qX ?_|refine qY ?_|refine qZ ?_|refine pA ?_|refine pB ?_|refine pC ?_|(first|refine pD ?_|refine pE ?_|refine pF ?_|refine pG ?_|refine pH ?_|refine pI ?_|refine pJ ?_|refine pK ?_|refine pL ?_|refine pM ?_|refine pN ?_);simp (disch := first | with_reducible assumption | omega) only [go_sem, *, reduceCtorEq, ↓reduceIte, Nat.reduceLT, Nat.reduceBEq, Nat.reduceAdd, Nat.reduceSub, Nat.reduceMul, Nat.reduceDiv, Nat.reduceMod, Nat.reducePow, Nat.reduceEqDiff, Nat.reduceLeDiff, Int.reduceLT, Int.reduceLE, Int.reduceNeg, Int.reduceToNat, Int.reduceAdd, Int.reduceSub, Int.reduceMul, Int.reduceEq, Int.reduceNe, Int.reduceBEq, Int.reduceBNe, Int.reducePow])
    refine ⟨rfl, ?_⟩
    rintro H7 ⟨w', k1, k2, k3⟩ hll l7
    unfold b_port_Box_Copy_9
    have hz : H7[mb d.length]? = some (msgB dd) := by rw [k3 _ (by omega) m0, yH _ l0]; exact m2
    have hcl := s_Clone (c := dd.length) (o := true) (d := dd) (Sl.blk (k := dd.length) hz (by rw [nats_len])) (by omega) m1 rfl
    have hls : ∀ b : Nat, (∃ lb y, aw = some (lb, y) ∧ b = lb) → b < H.length := by rintro b ⟨_, y, e1, rfl⟩; exact hlal b y e1
    clear hz hlal m2
    repeat (with_reducible first|(first|refine pO ?_|refine pP ?_|refine pQ ?_|refine pR (by omega) ?_);intros|refine pS ?_|first|refine qA ?_|refine qB ?_|refine qC ?_|refine qD ?_|refine qE ?_|refine qF ?_|refine qG ?_|refine qH ?_|refine qI ?_|refine qJ ?_|refine qK ?_|refine qL ?_|refine qM rfl ?_|refine qN ?_|refine qO ?_|refine qP ?_|refine qQ ?_|refine qR ?_|refine qS ?_|refine qT ?_|refine qU ?_|refine qV ?_|refine qW ?_|refine qX ?_|refine qY ?_|refine qZ ?_|refine pA ?_|refine pB ?_|refine pC ?_|(first|refine pD ?_|refine pE ?_|refine pF ?_|refine pG ?_|refine pH ?_|refine pI ?_|refine pJ ?_|refine pK ?_|refine pL ?_|refine pM ?_|refine pN ?_);simp (disch := first | with_reducible assumption | omega) only [go_sem, *, reduceCtorEq, ↓reduceIte, Nat.reduceLT, Nat.reduceBEq, Nat.reduceAdd, Nat.reduceSub, Nat.reduceMul, Nat.reduceDiv, Nat.reduceMod, Nat.reducePow, Nat.reduceEqDiff, Nat.reduceLeDiff, Int.reduceLT, Int.reduceLE, Int.reduceNeg, Int.reduceToNat, Int.reduceAdd, Int.reduceSub, Int.reduceMul, Int.reduceEq, Int.reduceNe, Int.reduceBEq, Int.reduceBNe, Int.reducePow])
    refine outM_call hcl ?_
    rintro _ H8 ⟨m, rfl, u1, u2, u3, l8, x8⟩
    clear hcl
    repeat (with_reducible first|(first|refine pO ?_|refine pP ?_|refine pQ ?_|refine pR (by omega) ?_);intros|refine pS ?_|first|refine qA ?_|refine qB ?_|refine qC ?_|refine qD ?_|refine qE ?_|refine qF ?_|refine qG ?_|refine qH ?_|refine qI ?_|refine qJ ?_|refine qK ?_|refine qL ?_|refine qM rfl ?_|refine qN ?_|refine qO ?_|refine qP ?_|refine qQ ?_|refine qR ?_|refine qS ?_|refine qT ?_|refine qU ?_|refine qV ?_|refine qW ?_|refine qX ?_|refine qY ?_|refine qZ ?_|refine pA ?_|refine pB ?_|refine pC ?_|(first|refine pD ?_|refine pE ?_|refine pF ?_|refine pG ?_|refine pH ?_|refine pI ?_|refine pJ ?_|refine pK ?_|refine pL ?_|refine pM ?_|refine pN ?_);simp (disch := first | with_reducible assumption | omega) only [go_sem, *, reduceCtorEq, ↓reduceIte, Nat.reduceLT, Nat.reduceBEq, Nat.reduceAdd, Nat.reduceSub, Nat.reduceMul, Nat.reduceDiv, Nat.reduceMod, Nat.reducePow, Nat.reduceEqDiff, Nat.reduceLeDiff, Int.reduceLT, Int.reduceLE, Int.reduceNeg, Int.reduceToNat, Int.reduceAdd, Int.reduceSub, Int.reduceMul, Int.reduceEq, Int.reduceNe, Int.reduceBEq, Int.reduceBNe, Int.reducePow])
    rename_i b9 H9 p9 g9 x9
    have k1' := k1.keep (H' := H9) (S' := fun c => H6.length + 2 ≤ c ∧ c < H7.length) (fun c hc => by simp (disch := first | with_reducible assumption | omega) only [go_sem, *, reduceCtorEq, ↓reduceIte, Nat.reduceLT, Nat.reduceBEq, Nat.reduceAdd, Nat.reduceSub, Nat.reduceMul, Nat.reduceDiv, Nat.reduceMod, Nat.reducePow, Nat.reduceEqDiff, Nat.reduceLeDiff, Int.reduceLT, Int.reduceLE, Int.reduceNeg, Int.reduceToNat, Int.reduceAdd, Int.reduceSub, Int.reduceMul, Int.reduceEq, Int.reduceNe, Int.reduceBEq, Int.reduceBNe, Int.reducePow]) fun c hc => hc
    clear k1
    refine outM_push k1' (fun c hc => by omega) (by rw [List.length_take]; omega) g9 (by simp (disch := first | with_reducible assumption | omega) only [go_sem, *, reduceCtorEq, ↓reduceIte, Nat.reduceLT, Nat.reduceBEq, Nat.reduceAdd, Nat.reduceSub, Nat.reduceMul, Nat.reduceDiv, Nat.reduceMod, Nat.reducePow, Nat.reduceEqDiff, Nat.reduceLeDiff, Int.reduceLT, Int.reduceLE, Int.reduceNeg, Int.reduceToNat, Int.reduceAdd, Int.reduceSub, Int.reduceMul, Int.reduceEq, Int.reduceNe, Int.reduceBEq, Int.reduceBNe, Int.reducePow]) m1 (by omega) (by omega) ?_
    intro w2 H10 l10 hl10 x10
    have x10b : H10[b3]? = H9[b3]? := x10 b3 (by omega) (by omega)
    rw [hts] at hl10
    clear k1' hts
    repeat (with_reducible first|(first|refine pO ?_|refine pP ?_|refine pQ ?_|refine pR (by omega) ?_);intros|refine pS ?_|first|refine qA ?_|refine qB ?_|refine qC ?_|refine qD ?_|refine qE ?_|refine qF ?_|refine qG ?_|refine qH ?_|refine qI ?_|refine qJ ?_|refine qK ?_|refine qL ?_|refine qM rfl ?_|refine qN ?_|refine qO ?_|refine qP ?_|refine qQ ?_|refine qR ?_|refine qS ?_|refine qT ?_|refine qU ?_|refine qV ?_|refine qW ?_|refine qX ?_|refine qY ?_|refine qZ ?_|refine pA ?_|refine pB ?_|refine pC ?_|(first|refine pD ?_|refine pE ?_|refine pF ?_|refine pG ?_|refine pH ?_|refine pI ?_|refine pJ ?_|refine pK ?_|refine pL ?_|refine pM ?_|refine pN ?_);simp (disch := first | with_reducible assumption | omega) only [go_sem, *, reduceCtorEq, ↓reduceIte, Nat.reduceLT, Nat.reduceBEq, Nat.reduceAdd, Nat.reduceSub, Nat.reduceMul, Nat.reduceDiv, Nat.reduceMod, Nat.reducePow, Nat.reduceEqDiff, Nat.reduceLeDiff, Int.reduceLT, Int.reduceLE, Int.reduceNeg, Int.reduceToNat, Int.reduceAdd, Int.reduceSub, Int.reduceMul, Int.reduceEq, Int.reduceNe, Int.reduceBEq, Int.reduceBNe, Int.reducePow])
    rename_i H11 l11 g11 x11
    refine turnQ_n (by omega) ?_ (fun b hb => ?_) ⟨w2, ?_, g11, fun b hb hne => ?_⟩
    · rw [x11 _ (by omega), x10 _ (by omega) (by omega), x9 _ (by omega), x8 _ (by omega)]
    · have := hls b hb
      rw [x11 _ (by omega), x10 _ (by omega) (by omega), x9 _ (by omega), x8 _ (by omega)]
    · rw [List.length_append, List.length_singleton]
      refine hl10.keep (fun c hc => x11 c ?_) fun c hc => ?_
      · rcases hc with (hc | hc) | hc <;> omega
      · rcases hc with (hc | hc) | hc <;> omega
    · rw [x11 _ hne, x10 _ (by omega) (by omega), x9 _ (by omega), x8 _ (by omega)]; exact k3 b hb hne
  · rintro H7 ⟨w', k1, k2, k3⟩ hd l7
    have hll : ((List.range ms.length).map fun i => msgC (mb i) (ms.getD i [])).length = ms.length := by simp
    rw [hll, List.take_length] at k1
    clear hels hms hal hll
    repeat (with_reducible first|(first|refine pO ?_|refine pP ?_|refine pQ ?_|refine pR (by omega) ?_);intros|refine pS ?_|first|refine qA ?_|refine qB ?_|refine qC ?_|refine qD ?_|refine qE ?_|refine qF ?_|refine qG ?_|refine qH ?_|refine qI ?_|refine qJ ?_|refine qK ?_|refine qL ?_|refine qM rfl ?_|refine qN ?_|refine qO ?_|refine qP ?_|refine qQ ?_|refine qR ?_|refine qS ?_|refine qT ?_|refine qU ?_|refine qV ?_|refine qW ?_|refine qX ?_|refine qY ?_|refine qZ ?_|refine pA ?_|refine pB ?_|refine pC ?_|(first|refine pD ?_|refine pE ?_|refine pF ?_|refine pG ?_|refine pH ?_|refine pI ?_|refine pJ ?_|refine pK ?_|refine pL ?_|refine pM ?_|refine pN ?_);simp (disch := first | with_reducible assumption | omega) only [go_sem, *, reduceCtorEq, ↓reduceIte, Nat.reduceLT, Nat.reduceBEq, Nat.reduceAdd, Nat.reduceSub, Nat.reduceMul, Nat.reduceDiv, Nat.reduceMod, Nat.reducePow, Nat.reduceEqDiff, Nat.reduceLeDiff, Int.reduceLT, Int.reduceLE, Int.reduceNeg, Int.reduceToNat, Int.reduceAdd, Int.reduceSub, Int.reduceMul, Int.reduceEq, Int.reduceNe, Int.reduceBEq, Int.reduceBNe, Int.reducePow])
    refine callQ_1 hd fun H8 l8 x8 => ?_
    repeat (with_reducible first|(first|refine pO ?_|refine pP ?_|refine pQ ?_|refine pR (by omega) ?_);intros|refine pS ?_|first|refine qA ?_|refine qB ?_|refine qC ?_|refine qD ?_|refine qE ?_|refine qF ?_|refine qG ?_|refine qH ?_|refine qI ?_|refine qJ ?_|refine qK ?_|refine qL ?_|refine qM rfl ?_|refine qN ?_|refine qO ?_|refine qP ?_|refine qQ ?_|refine qR ?_|refine qS ?_|refine qT ?_|refine qU ?_|refine qV ?_|refine qW ?_|refine qX ?_|refine qY ?_|refine qZ ?_|refine pA ?_|refine pB ?_|refine pC ?_|(first|refine pD ?_|refine pE ?_|refine pF ?_|refine pG ?_|refine pH ?_|refine pI ?_|refine pJ ?_|refine pK ?_|refine pL ?_|refine pM ?_|refine pN ?_);simp (disch := first | with_reducible assumption | omega) only [go_sem, *, reduceCtorEq, ↓reduceIte, Nat.reduceLT, Nat.reduceBEq, Nat.reduceAdd, Nat.reduceSub, Nat.reduceMul, Nat.reduceDiv, Nat.reduceMod, Nat.reducePow, Nat.reduceEqDiff, Nat.reduceLeDiff, Int.reduceLT, Int.reduceLE, Int.reduceNeg, Int.reduceToNat, Int.reduceAdd, Int.reduceSub, Int.reduceMul, Int.reduceEq, Int.reduceNe, Int.reduceBEq, Int.reduceBNe, Int.reducePow])
    have hx : ∀ b, b < H.length → H8[b]? = H[b]? := fun b hb => by rw [x8 b (by omega), k3 b (by omega) (by omega)]; exact yH b hb
    refine ⟨⟨by omega, hx⟩, b3, rfl, w', by rw [x8 b3 (by omega)]; exact k2, by rw [hx kp lk]; exact kb, (LR.any _ k1).keep (fun c hc => x8 c (by omega)) fun c hc => ⟨⟨by omega, by omega⟩, by omega⟩, ⟨by omega, by omega⟩, fun c hc => hc.2, fun hc => by omega, wf⟩
set_option maxRecDepth 1000000 in
theorem fs_b : fs.all (fun f => codeB 0 f.2.body) = true := by kernel_rfl
theorem F_b : FnB ([] : Heap).length F := FnB_funs fs_b
set_option maxRecDepth 1000000 in
theorem alive_run : okRun (callR F (run F 300) fn_rotalaw04_alive [] []) = true := by kernel_rfl
theorem s_alive {H : Heap} : WC F fn_rotalaw04_alive [] H fun v H' => v = .c (.bool true) ∧ Keep H H' :=
  (WC_closed F_b (by decide) alive_run (fun b x e => by cases e)).keep keepF
end Go.Proofs.Ytdekplnphbjgbaa.AM.D04
