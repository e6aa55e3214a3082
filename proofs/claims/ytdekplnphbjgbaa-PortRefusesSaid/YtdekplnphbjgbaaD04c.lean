/- What the functions of chapter 4 come to: copies of messages; the first one taken off. -/
import Derived.Test.YtdekplnphbjgbaaD04b
set_option linter.unusedVariables false
set_option linter.unusedSimpArgs false
set_option linter.unusedSectionVars false
namespace Go.Proofs.Ytdekplnphbjgbaa.AM.D04
open Go Go.Proofs.Ytdekplnphbjgbaa.AM
set_option maxHeartbeats 2000000
set_option maxRecDepth 100000
attribute [local go_sem] ev_L k_ev Env.up_app Env.of_app aop_mv aop_pick aop_bin aop_eq aop_eqagg aop_un aop_cv aop_nilck aop_ld aop_st aop_iaS aop_iaA aop_fa aop_fld aop_ix aop_ext aop_len aop_lenK aop_box aop_new aop_build aop_bsl aop_mkfn aop_call callO_fn callO_yld aop_app aop_appT aop_cpy aop_clr aop_ins aop_look aop_mksl aop_mkmap aop_s2b s2bO_str mkslO_int aop_slS aop_same aop_b2s fillB_nil outO outS Option.map_none List.length_cons List.length_nil List.length_append List.length_set List.length_replicate List.set_cons_zero List.set_cons_succ pickO_true pickO_false binO_c eqO_c eqaO_agg unO_c cvO_int nilckO_ptr nilckO_fn ldO_one ldO_row stO_one stO_if okA_some oa_some iaSO_sl iaSO_some iaAO_ptr faO_ptr fldO_agg ixO_agg extO_tup lenO_sl lenO_str V.cells_c V.cells_agg Option.map_some Option.bind_some Option.getD_some List.getElem?_cons_zero List.getElem?_cons_succ List.map_cons List.map_nil V.pc Pc.v asI adsOf adOf Int.toNat_natCast Nat.mul_one Nat.zero_mul Int.ofNat_lt lss_int leq_int gtr_int geq_int eql_int neq_int and_int or_int xor_int andNot_int shr_u8_i shr_u16_i shr_u32_i shr_u64_i shr_i64_i and_u8_i and_u16_i and_u32_i and_u64_i or_u8_i or_u16_i or_u32_i or_u64_i xor_u8_i xor_u16_i xor_u32_i xor_u64_i wrap_u8_i wrap_u16_i wrap_u32_i wrap_u64_i wr_i64 and15 and1 and7 addA_mk Nat.zero_add Nat.add_zero beq_self_eq_true dec_t dec_f decide_true decide_false not_true_eq_false Int.natCast_inj Bool.not_true Bool.not_false Bool.false_eq_true if_true if_false Int.cast_ofNat_Int ne_eq not_false_eq_true Ex.exit.injEq resOf resV L_get? List.mapM_cons List.mapM_nil shutAll_nil shutAll_one ld_blk ldn_blk st_blk ldB_some ldnB_some stB_some put_nil put_cons rdK_ld rdK_b2s List.append_nil List.nil_append List.cons_append List.zip_cons_cons List.zip_nil_left List.zip_nil_right List.foldl_cons List.foldl_nil L_set L_set' rd_one rd_row Option.pure_def Option.bind_eq_bind and_self and_true true_and bne_t bne_f Option.isNone_some Option.isNone_none eqC_bb eqC_pn eqC_ps eqC_sn eqC_ss eqC_fn1 eqC_fn2 eqC_fn3 eqC_mn eqC_ms nats_len nats_get aop_slA slAO_all fillB_cons sameO eq_self add_u8_i add_u16_i add_u32_i add_u64_i mul_u8_i mul_u16_i mul_u32_i mul_u64_i sub_u8_i sub_u16_i sub_u32_i sub_u64_i quo_u8_i quo_u16_i quo_u32_i quo_u64_i rem_u8_i rem_u16_i rem_u32_i rem_u64_i shl_u8_i shl_u16_i shl_u32_i shl_u64_i quo_i64_i rem_i64_i shl_i64_i or_i64_i and_i64_i and_i64_15 and_i64_31 or256 str_eql str_add str_neq bstr_append bstr_size b2sO_ld b2sO_nil strOf_nats sub_nats un_xor_u8 un_xor_u16 un_xor_u32 un_xor_u64 un_neg un_not not_dec beq_int bne_int pickO_dec ld_addA ldn_addA st_addA slSO_lohi slSO_hi Nat.mod_eq_of_lt if_pos if_neg
attribute [local go_sem 500] wrap_u8_z wrap_u16_z wrap_u32_z wrap_u64_z add_int sub_int mul_int
attribute [local go_sem] tn_add1 tn_sub1 clrO_one sub_all put_all'
theorem s_Clone {H : Heap} {a : Option Ad} {n c : Nat} {o : Bool} {d : List Nat} (hs : Sl H 1 a n (nats .u8 d)) (hn : n ≤ 100000) (h0 : 0 < n) (hd : d.length = n) :
    WC F fn_slices_Clone_byte_byte [.c (.sl a n c o)] H fun v H' => ∃ m, v = .c (msgC m d) ∧ H.length ≤ m ∧ m < H'.length ∧ H'[m]? = some (msgB d) ∧ Xt H H' := by
  subst hd
  obtain ⟨a, rfl⟩ := hs.is_some h0
  refine WC_start e_slices_Clone_byte_byte (by simp) ?_
  unfold c_slices_Clone_byte_byte
  repeat (with_reducible first|(first|refine pO ?_|refine pP ?_|refine pQ ?_|refine pR (by omega) ?_);intros|refine pS ?_|first|refine qA ?_|refine qB ?_|refine qC ?_|refine qD ?_|refine qE ?_|refine qF ?_|refine qG ?_|refine qH ?_|refine qI ?_|refine qJ ?_|refine qK ?_|refine qL ?_|refine qM rfl ?_|refine qN ?_|refine qO ?_|refine qP ?_|refine qQ ?_|refine qR ?_|refine qS ?_|refine qT ?_|refine qU ?_|refine qV ?_|refine qW ?_|refine qX ?_|refine qY ?_|refine qZ ?_|refine pA ?_|refine pB ?_|refine pC ?_|(first|refine pD ?_|refine pE ?_|refine pF ?_|refine pG ?_|refine pH ?_|refine pI ?_|refine pJ ?_|refine pK ?_|refine pL ?_|refine pM ?_|refine pN ?_);simp (disch := first | with_reducible assumption | omega) only [go_sem, *, reduceCtorEq, ↓reduceIte, Nat.reduceLT, Nat.reduceBEq, Nat.reduceAdd, Nat.reduceSub, Nat.reduceMul, Nat.reduceDiv, Nat.reduceMod, Nat.reducePow, Nat.reduceEqDiff, Nat.reduceLeDiff, Int.reduceLT, Int.reduceLE, Int.reduceNeg, Int.reduceToNat, Int.reduceAdd, Int.reduceSub, Int.reduceMul, Int.reduceEq, Int.reduceNe, Int.reduceBEq, Int.reduceBNe, Int.reducePow])
  rename_i b1 H1 l1 g1 x1
  repeat (with_reducible first|(first|refine pO ?_|refine pP ?_|refine pQ ?_|refine pR (by omega) ?_);intros|refine pS ?_|first|refine qA ?_|refine qB ?_|refine qC ?_|refine qD ?_|refine qE ?_|refine qF ?_|refine qG ?_|refine qH ?_|refine qI ?_|refine qJ ?_|refine qK ?_|refine qL ?_|refine qM rfl ?_|refine qN ?_|refine qO ?_|refine qP ?_|refine qQ ?_|refine qR ?_|refine qS ?_|refine qT ?_|refine qU ?_|refine qV ?_|refine qW ?_|refine qX ?_|refine qY ?_|refine qZ ?_|refine pA ?_|refine pB ?_|refine pC ?_|(first|refine pD ?_|refine pE ?_|refine pF ?_|refine pG ?_|refine pH ?_|refine pI ?_|refine pJ ?_|refine pK ?_|refine pL ?_|refine pM ?_|refine pN ?_);simp (disch := first | with_reducible assumption | omega) only [go_sem, *, reduceCtorEq, ↓reduceIte, Nat.reduceLT, Nat.reduceBEq, Nat.reduceAdd, Nat.reduceSub, Nat.reduceMul, Nat.reduceDiv, Nat.reduceMod, Nat.reducePow, Nat.reduceEqDiff, Nat.reduceLeDiff, Int.reduceLT, Int.reduceLE, Int.reduceNeg, Int.reduceToNat, Int.reduceAdd, Int.reduceSub, Int.reduceMul, Int.reduceEq, Int.reduceNe, Int.reduceBEq, Int.reduceBNe, Int.reducePow])
  refine outM_appE (lo := H.length) (ys := nats .u8 d) (fun y e => by cases e; exact ⟨rfl, by omega, _, _, _, g1⟩) (by omega) (hs.to fun b hb => by simp (disch := first | with_reducible assumption | omega) only [go_sem, *, reduceCtorEq, ↓reduceIte, Nat.reduceLT, Nat.reduceBEq, Nat.reduceAdd, Nat.reduceSub, Nat.reduceMul, Nat.reduceDiv, Nat.reduceMod, Nat.reducePow, Nat.reduceEqDiff, Nat.reduceLeDiff, Int.reduceLT, Int.reduceLE, Int.reduceNeg, Int.reduceToNat, Int.reduceAdd, Int.reduceSub, Int.reduceMul, Int.reduceEq, Int.reduceNe, Int.reduceBEq, Int.reduceBNe, Int.reducePow]) (by omega) ?_
  intro v H2 h2 l2 x2
  obtain ⟨m, rfl, q1, q2, q3⟩ := h2.some (by rw [nats_len]; omega)
  rw [nats_len]
  repeat (with_reducible first|(first|refine pO ?_|refine pP ?_|refine pQ ?_|refine pR (by omega) ?_);intros|refine pS ?_|first|refine qA ?_|refine qB ?_|refine qC ?_|refine qD ?_|refine qE ?_|refine qF ?_|refine qG ?_|refine qH ?_|refine qI ?_|refine qJ ?_|refine qK ?_|refine qL ?_|refine qM rfl ?_|refine qN ?_|refine qO ?_|refine qP ?_|refine qQ ?_|refine qR ?_|refine qS ?_|refine qT ?_|refine qU ?_|refine qV ?_|refine qW ?_|refine qX ?_|refine qY ?_|refine qZ ?_|refine pA ?_|refine pB ?_|refine pC ?_|(first|refine pD ?_|refine pE ?_|refine pF ?_|refine pG ?_|refine pH ?_|refine pI ?_|refine pJ ?_|refine pK ?_|refine pL ?_|refine pM ?_|refine pN ?_);simp (disch := first | with_reducible assumption | omega) only [go_sem, *, reduceCtorEq, ↓reduceIte, Nat.reduceLT, Nat.reduceBEq, Nat.reduceAdd, Nat.reduceSub, Nat.reduceMul, Nat.reduceDiv, Nat.reduceMod, Nat.reducePow, Nat.reduceEqDiff, Nat.reduceLeDiff, Int.reduceLT, Int.reduceLE, Int.reduceNeg, Int.reduceToNat, Int.reduceAdd, Int.reduceSub, Int.reduceMul, Int.reduceEq, Int.reduceNe, Int.reduceBEq, Int.reduceBNe, Int.reducePow])
  exact ⟨m, rfl, q1, q2, q3, by omega, fun b hb => by simp (disch := first | with_reducible assumption | omega) only [go_sem, *, reduceCtorEq, ↓reduceIte, Nat.reduceLT, Nat.reduceBEq, Nat.reduceAdd, Nat.reduceSub, Nat.reduceMul, Nat.reduceDiv, Nat.reduceMod, Nat.reducePow, Nat.reduceEqDiff, Nat.reduceLeDiff, Int.reduceLT, Int.reduceLE, Int.reduceNeg, Int.reduceToNat, Int.reduceAdd, Int.reduceSub, Int.reduceMul, Int.reduceEq, Int.reduceNe, Int.reduceBEq, Int.reduceBNe, Int.reducePow]⟩
theorem put0_get {cs ys : List Cell} (h : ys.length ≤ cs.length) (i : Nat) : (put cs 0 ys)[i]? = if i < ys.length then ys[i]? else cs[i]? := by
  have e : cs = cs.take ys.length ++ cs.drop ys.length := (List.take_append_drop _ _).symm
  rw [e, put_left (by rw [List.length_take]; omega), ← e]
  split <;> rename_i hi
  · rw [List.getElem?_append_left hi]
  · rw [List.getElem?_append_right (by omega), List.getElem?_drop]; congr 1; omega
theorem put0_len {cs ys : List Cell} (h : ys.length ≤ cs.length) : (put cs 0 ys).length = cs.length := by
  have e : cs = cs.take ys.length ++ cs.drop ys.length := (List.take_append_drop _ _).symm
  rw [e, put_left (by rw [List.length_take]; omega), ← e, List.length_append, List.length_drop]; omega
theorem slSO_3 {a : Ad} {n c : Nat} {o : Bool} {i j k : IntKind} {l h m : Int} (hh : 0 ≤ l ∧ l ≤ h ∧ h ≤ m ∧ m ≤ c) : slSO 1 (.c (.sl (some a) n c o)) (some (.c (.int i l))) (some (.c (.int j h))) (some (.c (.int k m))) = some (.c (.sl (if m.toNat = l.toNat then some a else some (addA a l.toNat)) (h.toNat - l.toNat) (m.toNat - l.toNat) false)) := by
  have h1 : 0 ≤ m := by omega
  have h2 : 0 ≤ h := by omega
  simp [slSO, bnds, bnd, asI, hh, h1, h2]
  rw [if_pos (by omega)]; simp
  rw [if_pos (by omega)]; simp
theorem slSO_fromT {a : Ad} {n c : Nat} {i : IntKind} {l : Int} (hh : 0 ≤ l ∧ l ≤ n ∧ n ≤ c) : slSO 1 (.c (.sl (some a) n c true)) (some (.c (.int i l))) none none = some (.c (.sl (some (addA a l.toNat)) (n - l.toNat) (c - l.toNat) true)) := by
  rw [slSO_from hh.1 hh.2.1 hh.2.2]; simp
attribute [local go_sem] slSO_3 slSO_fromT
theorem s_Delete {H : Heap} {b c : Nat} {g : Option Nat} {cs : List Cell} {mb : Nat → Nat} {d : List Nat} {r : List (List Nat)} {S : Nat → Prop} (h : LRs H b c true true g cs mb (d :: r) S) :
    WC F fn_slices_Delete_byte_byte [.c (.sl (some (b, 0)) (r.length + 1) c true), .c (.int .i64 0), .c (.int .i64 1)] H fun v H' => v = .c (.sl (some (b, 0)) r.length c true) ∧ Same H H' ∧ (∀ x, x ≠ b → H'[x]? = H[x]?) ∧
      ∃ cs', LRs H' b c true true g cs' (fun i => mb (i + 1)) r (fun x => S x ∧ x ≠ mb 0) := by
  have hle := h.le
  have hc9 := h.c9
  have hlen := h.len
  have hb := h.blk
  rw [List.length_cons] at hle
  have lb := lt_of_get hb
  refine WC_start e_slices_Delete_byte_byte (by simp) ?_
  unfold c_slices_Delete_byte_byte
  have hys : (cs.drop 1).take r.length = (cs.drop 1).take r.length := rfl
  have hfin : ∀ H', Same H H' → H'[b]? = some (.cells ((put cs 0 ((cs.drop 1).take r.length)).set r.length (.sl none 0 0 false)) false g) → (∀ x, x ≠ b → H'[x]? = H[x]?) →
      ∃ cs', LRs H' b c true true g cs' (fun i => mb (i + 1)) r (fun x => S x ∧ x ≠ mb 0) := by
    intro H' sm gb xx
    have hyl : ((cs.drop 1).take r.length).length = r.length := by rw [List.length_take, List.length_drop]; omega
    refine ⟨_, by omega, hc9, .inl ⟨rfl, by rcases h.og with q | q; exact q.2; cases q.1⟩, by rw [List.length_set, put0_len (by omega), hlen], gb, ⟨h.own, fun e => (h.at_ 0 (by simp)).2.2.2.2 e.symm⟩, fun i hi => ?_, fun i j hij hj => h.inj _ _ (by omega) (by rw [List.length_cons]; omega)⟩
    obtain ⟨k1, k2, k3, k4, k5⟩ := h.at_ (i + 1) (by rw [List.length_cons]; omega)
    rw [List.getElem_cons_succ] at k1 k2 k3
    refine ⟨?_, k2, by rw [xx _ k5]; exact k3, ⟨k4, fun e => h.inj 0 (i + 1) (by omega) (by rw [List.length_cons]; omega) e.symm⟩, k5⟩
    rw [List.getElem?_set_ne (by omega), put0_get (by omega), hyl, if_pos hi, List.getElem?_take, if_pos hi, List.getElem?_drop, Nat.add_comm]
    exact k1
  clear hys
  have fin := fun (A : Prop) (h : _ → A) => h hfin
  clear hfin h
  cases hr : r with
  | nil =>
    subst hr
    simp only [List.length_nil, List.take_zero] at *
    have e0 : ∀ q, appO 1 24 (.c (.sl (some (b, 0)) 0 c true)) (.c (.sl (some (b, 1)) 0 q true)) H = some (.v (.c (.sl (some (b, 0)) 0 c true)), H) := fun q => appO_nothing (fun a e => by cases e; exact ⟨[], by rw [ldn_of hb]; unfold sub; rw [if_pos (by omega)]; simp⟩) (by omega)
    repeat (with_reducible first|(first|refine pO ?_|refine pP ?_|refine pQ ?_|refine pR (by omega) ?_);intros|refine pS ?_|first|refine qA ?_|refine qB ?_|refine qC ?_|refine qD ?_|refine qE ?_|refine qF ?_|refine qG ?_|refine qH ?_|refine qI ?_|refine qJ ?_|refine qK ?_|refine qL ?_|refine qM rfl ?_|refine qN ?_|refine qO ?_|refine qP ?_|refine qQ ?_|refine qR ?_|refine qS ?_|refine qT ?_|refine qU ?_|refine qV ?_|refine qW ?_|refine qX ?_|refine qY ?_|refine qZ ?_|refine pA ?_|refine pB ?_|refine pC ?_|(first|refine pD ?_|refine pE ?_|refine pF ?_|refine pG ?_|refine pH ?_|refine pI ?_|refine pJ ?_|refine pK ?_|refine pL ?_|refine pM ?_|refine pN ?_);simp (disch := first | with_reducible assumption | omega) only [go_sem, *, reduceCtorEq, ↓reduceIte, Nat.reduceLT, Nat.reduceBEq, Nat.reduceAdd, Nat.reduceSub, Nat.reduceMul, Nat.reduceDiv, Nat.reduceMod, Nat.reducePow, Nat.reduceEqDiff, Nat.reduceLeDiff, Int.reduceLT, Int.reduceLE, Int.reduceNeg, Int.reduceToNat, Int.reduceAdd, Int.reduceSub, Int.reduceMul, Int.reduceEq, Int.reduceNe, Int.reduceBEq, Int.reduceBNe, Int.reducePow])
    rename_i H1 l1 g1 x1
    exact ⟨rfl, l1, x1, fin _ fun h => h H1 l1 g1 x1⟩
  | cons d2 r2 =>
    have hpos : 0 < r.length := by rw [hr]; simp
    rw [← hr]
    have hyl : ((cs.drop 1).take r.length).length = r.length := by rw [List.length_take, List.length_drop]; omega
    have hys : Sl H 1 (some (b, 1)) r.length ((cs.drop 1).take r.length) := by
      refine ⟨by rw [hyl, Nat.mul_one], by simp [okA], fun a' e => ?_⟩
      cases e
      rw [ldn_of hb, Nat.mul_one]
      unfold sub
      rw [if_pos (by omega)]
    have hpl : (put cs 0 ((cs.drop 1).take r.length)).length = c := by rw [put0_len (by omega), hlen]
    generalize (cs.drop 1).take r.length = ys at *
    clear hr
    have h11 : r.length + 1 - r.length = 1 := by omega
    repeat (with_reducible first|(first|refine pO ?_|refine pP ?_|refine pQ ?_|refine pR (by omega) ?_);intros|refine pS ?_|first|refine qA ?_|refine qB ?_|refine qC ?_|refine qD ?_|refine qE ?_|refine qF ?_|refine qG ?_|refine qH ?_|refine qI ?_|refine qJ ?_|refine qK ?_|refine qL ?_|refine qM rfl ?_|refine qN ?_|refine qO ?_|refine qP ?_|refine qQ ?_|refine qR ?_|refine qS ?_|refine qT ?_|refine qU ?_|refine qV ?_|refine qW ?_|refine qX ?_|refine qY ?_|refine qZ ?_|refine pA ?_|refine pB ?_|refine pC ?_|(first|refine pD ?_|refine pE ?_|refine pF ?_|refine pG ?_|refine pH ?_|refine pI ?_|refine pJ ?_|refine pK ?_|refine pL ?_|refine pM ?_|refine pN ?_);simp (disch := first | with_reducible assumption | omega) only [go_sem, *, reduceCtorEq, ↓reduceIte, Nat.reduceLT, Nat.reduceBEq, Nat.reduceAdd, Nat.reduceSub, Nat.reduceMul, Nat.reduceDiv, Nat.reduceMod, Nat.reducePow, Nat.reduceEqDiff, Nat.reduceLeDiff, Int.reduceLT, Int.reduceLE, Int.reduceNeg, Int.reduceToNat, Int.reduceAdd, Int.reduceSub, Int.reduceMul, Int.reduceEq, Int.reduceNe, Int.reduceBEq, Int.reduceBNe, Int.reducePow])
    refine outM_appIn (n := 0) (j := r.length) hb hlen hys hpos (by omega) ?_
    intro H1 l1 g1 x1
    generalize put cs 0 ys = zs at *
    repeat (with_reducible first|(first|refine pO ?_|refine pP ?_|refine pQ ?_|refine pR (by omega) ?_);intros|refine pS ?_|first|refine qA ?_|refine qB ?_|refine qC ?_|refine qD ?_|refine qE ?_|refine qF ?_|refine qG ?_|refine qH ?_|refine qI ?_|refine qJ ?_|refine qK ?_|refine qL ?_|refine qM rfl ?_|refine qN ?_|refine qO ?_|refine qP ?_|refine qQ ?_|refine qR ?_|refine qS ?_|refine qT ?_|refine qU ?_|refine qV ?_|refine qW ?_|refine qX ?_|refine qY ?_|refine qZ ?_|refine pA ?_|refine pB ?_|refine pC ?_|(first|refine pD ?_|refine pE ?_|refine pF ?_|refine pG ?_|refine pH ?_|refine pI ?_|refine pJ ?_|refine pK ?_|refine pL ?_|refine pM ?_|refine pN ?_);simp (disch := first | with_reducible assumption | omega) only [go_sem, *, reduceCtorEq, ↓reduceIte, Nat.reduceLT, Nat.reduceBEq, Nat.reduceAdd, Nat.reduceSub, Nat.reduceMul, Nat.reduceDiv, Nat.reduceMod, Nat.reducePow, Nat.reduceEqDiff, Nat.reduceLeDiff, Int.reduceLT, Int.reduceLE, Int.reduceNeg, Int.reduceToNat, Int.reduceAdd, Int.reduceSub, Int.reduceMul, Int.reduceEq, Int.reduceNe, Int.reduceBEq, Int.reduceBNe, Int.reducePow])
    rename_i H2 l2 g2 x2
    exact ⟨rfl, by omega, fun x hx => by simp (disch := first | with_reducible assumption | omega) only [go_sem, *, reduceCtorEq, ↓reduceIte, Nat.reduceLT, Nat.reduceBEq, Nat.reduceAdd, Nat.reduceSub, Nat.reduceMul, Nat.reduceDiv, Nat.reduceMod, Nat.reducePow, Nat.reduceEqDiff, Nat.reduceLeDiff, Int.reduceLT, Int.reduceLE, Int.reduceNeg, Int.reduceToNat, Int.reduceAdd, Int.reduceSub, Int.reduceMul, Int.reduceEq, Int.reduceNe, Int.reduceBEq, Int.reduceBNe, Int.reducePow], fin _ fun h => h H2 (by omega) g2 (fun x hx => by simp (disch := first | with_reducible assumption | omega) only [go_sem, *, reduceCtorEq, ↓reduceIte, Nat.reduceLT, Nat.reduceBEq, Nat.reduceAdd, Nat.reduceSub, Nat.reduceMul, Nat.reduceDiv, Nat.reduceMod, Nat.reducePow, Nat.reduceEqDiff, Nat.reduceLeDiff, Int.reduceLT, Int.reduceLE, Int.reduceNeg, Int.reduceToNat, Int.reduceAdd, Int.reduceSub, Int.reduceMul, Int.reduceEq, Int.reduceNe, Int.reduceBEq, Int.reduceBNe, Int.reducePow])⟩
end Go.Proofs.Ytdekplnphbjgbaa.AM.D04
