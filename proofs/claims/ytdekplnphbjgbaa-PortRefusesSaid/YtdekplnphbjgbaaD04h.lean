/- What the functions of chapter 4 come to: boxes' operations, second part. -/
import Derived.Test.YtdekplnphbjgbaaD04g
set_option linter.unusedVariables false
set_option linter.unusedSimpArgs false
set_option linter.unusedSectionVars false
namespace Go.Proofs.Ytdekplnphbjgbaa.AM.D04
open Go Go.Proofs.Ytdekplnphbjgbaa.AM
set_option maxHeartbeats 2000000
set_option maxRecDepth 100000
attribute [local go_sem] ev_L k_ev Env.up_app Env.of_app aop_mv aop_pick aop_bin aop_eq aop_eqagg aop_un aop_cv aop_nilck aop_ld aop_st aop_iaS aop_iaA aop_fa aop_fld aop_ix aop_ext aop_len aop_lenK aop_box aop_new aop_build aop_bsl aop_mkfn aop_call callO_fn callO_yld aop_app aop_appT aop_cpy aop_clr aop_ins aop_look aop_mksl aop_mkmap aop_s2b s2bO_str mkslO_int aop_slS aop_same aop_b2s fillB_nil outO outS Option.map_none List.length_cons List.length_nil List.length_append List.length_set List.length_replicate List.set_cons_zero List.set_cons_succ pickO_true pickO_false binO_c eqO_c eqaO_agg unO_c cvO_int nilckO_ptr nilckO_fn ldO_one ldO_row stO_one stO_if okA_some oa_some iaSO_sl iaSO_some iaAO_ptr faO_ptr fldO_agg ixO_agg extO_tup lenO_sl lenO_str V.cells_c V.cells_agg Option.map_some Option.bind_some Option.getD_some List.getElem?_cons_zero List.getElem?_cons_succ List.map_cons List.map_nil V.pc Pc.v asI adsOf adOf Int.toNat_natCast Nat.mul_one Nat.zero_mul Int.ofNat_lt lss_int leq_int gtr_int geq_int eql_int neq_int and_int or_int xor_int andNot_int shr_u8_i shr_u16_i shr_u32_i shr_u64_i shr_i64_i and_u8_i and_u16_i and_u32_i and_u64_i or_u8_i or_u16_i or_u32_i or_u64_i xor_u8_i xor_u16_i xor_u32_i xor_u64_i wrap_u8_i wrap_u16_i wrap_u32_i wrap_u64_i wr_i64 and15 and1 and7 addA_mk Nat.zero_add Nat.add_zero beq_self_eq_true dec_t dec_f decide_true decide_false not_true_eq_false Int.natCast_inj Bool.not_true Bool.not_false Bool.false_eq_true if_true if_false Int.cast_ofNat_Int ne_eq not_false_eq_true Ex.exit.injEq resOf resV L_get? List.mapM_cons List.mapM_nil shutAll_nil shutAll_one ld_blk ldn_blk st_blk ldB_some ldnB_some stB_some put_nil put_cons rdK_ld rdK_b2s List.append_nil List.nil_append List.cons_append List.zip_cons_cons List.zip_nil_left List.zip_nil_right List.foldl_cons List.foldl_nil L_set L_set' rd_one rd_row Option.pure_def Option.bind_eq_bind and_self and_true true_and bne_t bne_f Option.isNone_some Option.isNone_none eqC_bb eqC_pn eqC_ps eqC_sn eqC_ss eqC_fn1 eqC_fn2 eqC_fn3 eqC_mn eqC_ms nats_len nats_get aop_slA slAO_all fillB_cons sameO eq_self add_u8_i add_u16_i add_u32_i add_u64_i mul_u8_i mul_u16_i mul_u32_i mul_u64_i sub_u8_i sub_u16_i sub_u32_i sub_u64_i quo_u8_i quo_u16_i quo_u32_i quo_u64_i rem_u8_i rem_u16_i rem_u32_i rem_u64_i shl_u8_i shl_u16_i shl_u32_i shl_u64_i quo_i64_i rem_i64_i shl_i64_i or_i64_i and_i64_i and_i64_15 and_i64_31 or256 str_eql str_add str_neq bstr_append bstr_size b2sO_ld b2sO_nil strOf_nats sub_nats un_xor_u8 un_xor_u16 un_xor_u32 un_xor_u64 un_neg un_not not_dec beq_int bne_int pickO_dec ld_addA ldn_addA st_addA slSO_lohi slSO_hi Nat.mod_eq_of_lt if_pos if_neg
attribute [local go_sem 500] wrap_u8_z wrap_u16_z wrap_u32_z wrap_u64_z add_int sub_int mul_int
attribute [local go_sem] tn_add1 tn_sub1 clrO_one sub_all put_all'
theorem PB.mono {H : Heap} {bb kp : Nat} {x : Bx} {S S' : Nat → Prop} (h : PB H bb kp x S) (hs : ∀ c, S c → S' c) (lt : ∀ c, S' c → c < H.length) (nk : ¬ S' kp) : PB H bb kp x S' := by
  obtain ⟨w, h⟩ := h
  exact ⟨w, h.blk, h.kb, h.lst.keep (fun _ _ => rfl) fun c hc => ⟨hs c hc.1, hc.2⟩, hs _ h.own, lt, nk, h.wf⟩
/-- The box's own block, written. -/
theorem PBs.upd {H H' : Heap} {bb kp : Nat} {w : Cell} {x y : Bx} {S : Nat → Prop} (h : PBs H bb kp w x S) (hl : H.length ≤ H'.length) (hp : y.p = x.p) (hm : y.ms = x.ms) (hy : y.wf)
    (hb : H'[bb]? = some (.cells [.int .i64 y.p.part, .int .i64 y.p.kind, .int .i64 y.p.dir, .int .i64 y.p.size, .int .i64 y.p.depth, .int .i64 y.p.fresh, .ptr (some (kp, 0)), w, .int .i64 y.slot, .bool y.lost] false none)) (hx : ∀ c, c ≠ bb → H'[c]? = H[c]?) : PBs H' bb kp w y S := by
  have hkp : kp ≠ bb := fun e => h.nk (e ▸ h.own)
  exact ⟨hb, by rw [hx _ hkp, hp]; exact h.kb, by rw [hp, hm]; exact h.lst.keep (fun c hc => hx c hc.2) fun c hc => hc, h.own, fun c hc => Nat.lt_of_lt_of_le (h.lt c hc) hl, h.nk, hy⟩
theorem Bx.put_p (x : Bx) (d : List Nat) : (x.put d).2.p = x.p := by unfold Bx.put; split; split; rfl; rfl; rfl
def Bx.arrive (x : Bx) (d : List Nat) (s : Int) : Int × Bx :=
  if x.p.dir = 2 then (if s < 0 then (2, x) else if (d.length : Int) = x.p.size then (if (x.put d).1 = 0 then (0, { (x.put d).2 with slot := s }) else ((x.put d).1, { (x.put d).2 with lost := true })) else (45, x)) else (40, x)
theorem s_Arrive {H : Heap} {bb kp : Nat} {x : Bx} {S : Nat → Prop} {a : Option Ad} {c : Nat} {o : Bool} {d : List Nat} {s : Int} (h : PB H bb kp x S) (hs : Sl H 1 a d.length (nats .u8 d)) (hby : ∀ b ∈ d, b < 256) (hs64 : s < 9223372036854775808) :
    WC F fn_port_Box_Arrive [.c (.ptr (some (bb, 0))), .c (.sl a d.length c o), .c (.int .i64 s)] H fun v H' => v = .c (.int .i64 (x.arrive d s).1) ∧ PB H' bb kp (x.arrive d s).2 (Grow S H H') ∧ Only S H H' := by
  have his := s_is (dir := 2) h
  have h' := h
  obtain ⟨w, h'⟩ := h'
  have hb := h'.blk
  have own := h'.own
  refine WC_start e_port_Box_Arrive (by simp) ?_
  unfold c_port_Box_Arrive Bx.arrive
  have hsame : PB H bb kp x (Grow S H H) := h.same
  clear h'
  repeat (with_reducible first|(first|refine pO ?_|refine pP ?_|refine pQ ?_|refine pR (by omega) ?_);intros|refine pS ?_|first|refine qA ?_|refine qB ?_|refine qC ?_|refine qD ?_|refine qE ?_|refine qF ?_|refine qG ?_|refine qH ?_|refine qI ?_|refine qJ ?_|refine qK ?_|refine qL ?_|refine qM rfl ?_|refine qN ?_|refine qO ?_|refine qP ?_|refine qQ ?_|refine qR ?_|refine qS ?_|refine qT ?_|refine qU ?_|refine qV ?_|refine qW ?_|refine qX ?_|refine qY ?_|refine qZ ?_|refine pA ?_|refine pB ?_|refine pC ?_|(first|refine pD ?_|refine pE ?_|refine pF ?_|refine pG ?_|refine pH ?_|refine pI ?_|refine pJ ?_|refine pK ?_|refine pL ?_|refine pM ?_|refine pN ?_);simp (disch := first | with_reducible assumption | omega) only [go_sem, *, reduceCtorEq, ↓reduceIte, Nat.reduceLT, Nat.reduceBEq, Nat.reduceAdd, Nat.reduceSub, Nat.reduceMul, Nat.reduceDiv, Nat.reduceMod, Nat.reducePow, Nat.reduceEqDiff, Nat.reduceLeDiff, Int.reduceLT, Int.reduceLE, Int.reduceNeg, Int.reduceToNat, Int.reduceAdd, Int.reduceSub, Int.reduceMul, Int.reduceEq, Int.reduceNe, Int.reduceBEq, Int.reduceBNe, Int.reducePow])
  refine outM_call his ?_
  rintro _ H ⟨rfl, rfl⟩
  clear his
  by_cases hd : x.p.dir = 2
  · rw [if_pos hd, if_pos hd]
    by_cases hs0 : s < 0
    · rw [if_pos hs0]
      clear h hd
      repeat (with_reducible first|(first|refine pO ?_|refine pP ?_|refine pQ ?_|refine pR (by omega) ?_);intros|refine pS ?_|first|refine qA ?_|refine qB ?_|refine qC ?_|refine qD ?_|refine qE ?_|refine qF ?_|refine qG ?_|refine qH ?_|refine qI ?_|refine qJ ?_|refine qK ?_|refine qL ?_|refine qM rfl ?_|refine qN ?_|refine qO ?_|refine qP ?_|refine qQ ?_|refine qR ?_|refine qS ?_|refine qT ?_|refine qU ?_|refine qV ?_|refine qW ?_|refine qX ?_|refine qY ?_|refine qZ ?_|refine pA ?_|refine pB ?_|refine pC ?_|(first|refine pD ?_|refine pE ?_|refine pF ?_|refine pG ?_|refine pH ?_|refine pI ?_|refine pJ ?_|refine pK ?_|refine pL ?_|refine pM ?_|refine pN ?_);simp (disch := first | with_reducible assumption | omega) only [go_sem, *, reduceCtorEq, ↓reduceIte, Nat.reduceLT, Nat.reduceBEq, Nat.reduceAdd, Nat.reduceSub, Nat.reduceMul, Nat.reduceDiv, Nat.reduceMod, Nat.reducePow, Nat.reduceEqDiff, Nat.reduceLeDiff, Int.reduceLT, Int.reduceLE, Int.reduceNeg, Int.reduceToNat, Int.reduceAdd, Int.reduceSub, Int.reduceMul, Int.reduceEq, Int.reduceNe, Int.reduceBEq, Int.reduceBNe, Int.reducePow])
      exact ⟨rfl, hsame, Nat.le_refl _, fun _ _ _ => rfl⟩
    rw [if_neg hs0]
    by_cases hl : (d.length : Int) = x.p.size
    · rw [if_pos hl]
      obtain ⟨f, g1, g2, kb, hp⟩ := s_put (c := c) (o := o) h hs hl hby
      clear h hsame hd
      generalize x.put d = q at *
      obtain ⟨q1, q2⟩ := q
      dsimp only at hp ⊢
      repeat (with_reducible first|(first|refine pO ?_|refine pP ?_|refine pQ ?_|refine pR (by omega) ?_);intros|refine pS ?_|first|refine qA ?_|refine qB ?_|refine qC ?_|refine qD ?_|refine qE ?_|refine qF ?_|refine qG ?_|refine qH ?_|refine qI ?_|refine qJ ?_|refine qK ?_|refine qL ?_|refine qM rfl ?_|refine qN ?_|refine qO ?_|refine qP ?_|refine qQ ?_|refine qR ?_|refine qS ?_|refine qT ?_|refine qU ?_|refine qV ?_|refine qW ?_|refine qX ?_|refine qY ?_|refine qZ ?_|refine pA ?_|refine pB ?_|refine pC ?_|(first|refine pD ?_|refine pE ?_|refine pF ?_|refine pG ?_|refine pH ?_|refine pI ?_|refine pJ ?_|refine pK ?_|refine pL ?_|refine pM ?_|refine pN ?_);simp (disch := first | with_reducible assumption | omega) only [go_sem, *, reduceCtorEq, ↓reduceIte, Nat.reduceLT, Nat.reduceBEq, Nat.reduceAdd, Nat.reduceSub, Nat.reduceMul, Nat.reduceDiv, Nat.reduceMod, Nat.reducePow, Nat.reduceEqDiff, Nat.reduceLeDiff, Int.reduceLT, Int.reduceLE, Int.reduceNeg, Int.reduceToNat, Int.reduceAdd, Int.reduceSub, Int.reduceMul, Int.reduceEq, Int.reduceNe, Int.reduceBEq, Int.reduceBNe, Int.reducePow])
      refine outM_call hp ?_
      rintro _ H1 ⟨rfl, ⟨w1, p1⟩, p2⟩
      clear hp hb
      have hb1 := p1.blk
      have lb1 := p1.lt _ p1.own
      by_cases he : q1 = 0
      · subst he
        repeat (with_reducible first|(first|refine pO ?_|refine pP ?_|refine pQ ?_|refine pR (by omega) ?_);intros|refine pS ?_|first|refine qA ?_|refine qB ?_|refine qC ?_|refine qD ?_|refine qE ?_|refine qF ?_|refine qG ?_|refine qH ?_|refine qI ?_|refine qJ ?_|refine qK ?_|refine qL ?_|refine qM rfl ?_|refine qN ?_|refine qO ?_|refine qP ?_|refine qQ ?_|refine qR ?_|refine qS ?_|refine qT ?_|refine qU ?_|refine qV ?_|refine qW ?_|refine qX ?_|refine qY ?_|refine qZ ?_|refine pA ?_|refine pB ?_|refine pC ?_|(first|refine pD ?_|refine pE ?_|refine pF ?_|refine pG ?_|refine pH ?_|refine pI ?_|refine pJ ?_|refine pK ?_|refine pL ?_|refine pM ?_|refine pN ?_);simp (disch := first | with_reducible assumption | omega) only [go_sem, *, reduceCtorEq, ↓reduceIte, Nat.reduceLT, Nat.reduceBEq, Nat.reduceAdd, Nat.reduceSub, Nat.reduceMul, Nat.reduceDiv, Nat.reduceMod, Nat.reducePow, Nat.reduceEqDiff, Nat.reduceLeDiff, Int.reduceLT, Int.reduceLE, Int.reduceNeg, Int.reduceToNat, Int.reduceAdd, Int.reduceSub, Int.reduceMul, Int.reduceEq, Int.reduceNe, Int.reduceBEq, Int.reduceBNe, Int.reducePow])
        rename_i H2 l2 g2' x2
        have hq : PBs H2 bb kp w1 { q2 with slot := s } (Grow S H H1) := p1.upd (by omega) rfl rfl ⟨p1.wf.ok, p1.wf.ms, by show 0 ≤ s; omega, hs64, p1.wf.q, p1.wf.s⟩ g2' x2
        refine ⟨rfl, PB.mono ⟨_, hq⟩ (fun c hc => ?_) (fun c hc => ?_) (fun hc => ?_), by omega, fun c hc hsc => ?_⟩
        · rcases hc with hc | hc; exact .inl hc; exact .inr ⟨by omega, by omega⟩
        · rcases hc with hc | hc
          · exact hq.lt c (.inl hc)
          · omega
        · rcases hc with hc | hc
          · exact hq.nk (.inl hc)
          · exact hq.nk (.inr ⟨by omega, by omega⟩)
        · rw [x2 c fun e => hsc (e ▸ own)]; exact p2.2 c hc hsc
      · rw [if_neg he]
        repeat (with_reducible first|(first|refine pO ?_|refine pP ?_|refine pQ ?_|refine pR (by omega) ?_);intros|refine pS ?_|first|refine qA ?_|refine qB ?_|refine qC ?_|refine qD ?_|refine qE ?_|refine qF ?_|refine qG ?_|refine qH ?_|refine qI ?_|refine qJ ?_|refine qK ?_|refine qL ?_|refine qM rfl ?_|refine qN ?_|refine qO ?_|refine qP ?_|refine qQ ?_|refine qR ?_|refine qS ?_|refine qT ?_|refine qU ?_|refine qV ?_|refine qW ?_|refine qX ?_|refine qY ?_|refine qZ ?_|refine pA ?_|refine pB ?_|refine pC ?_|(first|refine pD ?_|refine pE ?_|refine pF ?_|refine pG ?_|refine pH ?_|refine pI ?_|refine pJ ?_|refine pK ?_|refine pL ?_|refine pM ?_|refine pN ?_);simp (disch := first | with_reducible assumption | omega) only [go_sem, *, reduceCtorEq, ↓reduceIte, Nat.reduceLT, Nat.reduceBEq, Nat.reduceAdd, Nat.reduceSub, Nat.reduceMul, Nat.reduceDiv, Nat.reduceMod, Nat.reducePow, Nat.reduceEqDiff, Nat.reduceLeDiff, Int.reduceLT, Int.reduceLE, Int.reduceNeg, Int.reduceToNat, Int.reduceAdd, Int.reduceSub, Int.reduceMul, Int.reduceEq, Int.reduceNe, Int.reduceBEq, Int.reduceBNe, Int.reducePow])
        rename_i H2 l2 g2' x2
        have hq : PBs H2 bb kp w1 { q2 with lost := true } (Grow S H H1) := p1.upd (by omega) rfl rfl ⟨p1.wf.ok, p1.wf.ms, p1.wf.s0, p1.wf.s1, p1.wf.q, p1.wf.s⟩ g2' x2
        refine ⟨rfl, PB.mono ⟨_, hq⟩ (fun c hc => ?_) (fun c hc => ?_) (fun hc => ?_), by omega, fun c hc hsc => ?_⟩
        · rcases hc with hc | hc; exact .inl hc; exact .inr ⟨by omega, by omega⟩
        · rcases hc with hc | hc
          · exact hq.lt c (.inl hc)
          · omega
        · rcases hc with hc | hc
          · exact hq.nk (.inl hc)
          · exact hq.nk (.inr ⟨by omega, by omega⟩)
        · rw [x2 c fun e => hsc (e ▸ own)]; exact p2.2 c hc hsc
    · rw [if_neg hl]
      clear h hd
      repeat (with_reducible first|(first|refine pO ?_|refine pP ?_|refine pQ ?_|refine pR (by omega) ?_);intros|refine pS ?_|first|refine qA ?_|refine qB ?_|refine qC ?_|refine qD ?_|refine qE ?_|refine qF ?_|refine qG ?_|refine qH ?_|refine qI ?_|refine qJ ?_|refine qK ?_|refine qL ?_|refine qM rfl ?_|refine qN ?_|refine qO ?_|refine qP ?_|refine qQ ?_|refine qR ?_|refine qS ?_|refine qT ?_|refine qU ?_|refine qV ?_|refine qW ?_|refine qX ?_|refine qY ?_|refine qZ ?_|refine pA ?_|refine pB ?_|refine pC ?_|(first|refine pD ?_|refine pE ?_|refine pF ?_|refine pG ?_|refine pH ?_|refine pI ?_|refine pJ ?_|refine pK ?_|refine pL ?_|refine pM ?_|refine pN ?_);simp (disch := first | with_reducible assumption | omega) only [go_sem, *, reduceCtorEq, ↓reduceIte, Nat.reduceLT, Nat.reduceBEq, Nat.reduceAdd, Nat.reduceSub, Nat.reduceMul, Nat.reduceDiv, Nat.reduceMod, Nat.reducePow, Nat.reduceEqDiff, Nat.reduceLeDiff, Int.reduceLT, Int.reduceLE, Int.reduceNeg, Int.reduceToNat, Int.reduceAdd, Int.reduceSub, Int.reduceMul, Int.reduceEq, Int.reduceNe, Int.reduceBEq, Int.reduceBNe, Int.reducePow])
      exact ⟨rfl, hsame, Nat.le_refl _, fun _ _ _ => rfl⟩
  · rw [if_neg hd, if_neg hd]
    clear h hd
    repeat (with_reducible first|(first|refine pO ?_|refine pP ?_|refine pQ ?_|refine pR (by omega) ?_);intros|refine pS ?_|first|refine qA ?_|refine qB ?_|refine qC ?_|refine qD ?_|refine qE ?_|refine qF ?_|refine qG ?_|refine qH ?_|refine qI ?_|refine qJ ?_|refine qK ?_|refine qL ?_|refine qM rfl ?_|refine qN ?_|refine qO ?_|refine qP ?_|refine qQ ?_|refine qR ?_|refine qS ?_|refine qT ?_|refine qU ?_|refine qV ?_|refine qW ?_|refine qX ?_|refine qY ?_|refine qZ ?_|refine pA ?_|refine pB ?_|refine pC ?_|(first|refine pD ?_|refine pE ?_|refine pF ?_|refine pG ?_|refine pH ?_|refine pI ?_|refine pJ ?_|refine pK ?_|refine pL ?_|refine pM ?_|refine pN ?_);simp (disch := first | with_reducible assumption | omega) only [go_sem, *, reduceCtorEq, ↓reduceIte, Nat.reduceLT, Nat.reduceBEq, Nat.reduceAdd, Nat.reduceSub, Nat.reduceMul, Nat.reduceDiv, Nat.reduceMod, Nat.reducePow, Nat.reduceEqDiff, Nat.reduceLeDiff, Int.reduceLT, Int.reduceLE, Int.reduceNeg, Int.reduceToNat, Int.reduceAdd, Int.reduceSub, Int.reduceMul, Int.reduceEq, Int.reduceNe, Int.reduceBEq, Int.reduceBNe, Int.reducePow])
    exact ⟨rfl, hsame, Nat.le_refl _, fun _ _ _ => rfl⟩
def Bx.asks (x : Bx) (s : Int) : Int × Bx := if x.p.kind = 2 then (if x.lost then 44 else 0, { x with lost := false }) else (if x.ms ≠ [] ∧ x.p.fresh ≤ s - x.slot then 43 else 0, x)
theorem s_asks {H : Heap} {bb kp : Nat} {x : Bx} {S : Nat → Prop} {s : Int} (h : PB H bb kp x S) (hs : 0 ≤ s ∧ s < 9223372036854775808) :
    ∃ f g1 g2, H[kp]? = some (.cells [g1, g2, .fn f [] []] false none) ∧ WC F f [.c (.ptr (some (bb, 0))), .c (.int .i64 s)] H fun v H' => v = .c (.int .i64 (x.asks s).1) ∧ PB H' bb kp (x.asks s).2 (Grow S H H') ∧ Only S H H' := by
  have hk := h
  obtain ⟨w, hk⟩ := hk
  have kb := hk.kb
  unfold Bx.asks
  by_cases h2 : x.p.kind = 2
  · rw [h2, kOf_2] at kb
    rw [if_pos h2]
    exact ⟨_, _, _, kb, s_ask3 h⟩
  · rw [kOf_n h2] at kb
    rw [if_neg h2]
    exact ⟨_, _, _, kb, (s_ask6 h hs).mono (by rintro _ _ ⟨rfl, rfl⟩; exact ⟨rfl, h.same, Nat.le_refl _, fun _ _ _ => rfl⟩)⟩
def Bx.recv (x : Bx) (s : Int) : Option (List Nat) × Int × Bx :=
  if x.p.dir = 2 then (if s < 0 then (none, 2, x) else if (x.asks s).1 = 0 then (match (x.asks s).2.get with | (none, y) => (none, 42, y) | (some d, y) => (some d, 0, y)) else (none, (x.asks s).1, (x.asks s).2)) else (none, 40, x)
def RecvQ (r : Option (List Nat) × Int × Bx) (H : Heap) (bb kp : Nat) (S : Nat → Prop) (v : V) (H' : Heap) : Prop := Only S H H' ∧
  match r with
  | (none, e, y) => v = .tup [.c (.sl none 0 0 false), .c (.int .i64 e)] ∧ PB H' bb kp y (Grow S H H')
  | (some d, e, y) => ∃ m, v = .tup [.c (msgC m d), .c (.int .i64 e)] ∧ H'[m]? = some (msgB d) ∧ m < H'.length ∧ (S m ∨ H.length ≤ m) ∧ PB H' bb kp y (fun c => Grow S H H' c ∧ c ≠ m)
theorem s_Recv {H : Heap} {bb kp : Nat} {x : Bx} {S : Nat → Prop} {s : Int} (h : PB H bb kp x S) (hs64 : s < 9223372036854775808) :
    WC F fn_port_Box_Recv [.c (.ptr (some (bb, 0))), .c (.int .i64 s)] H fun v H' => RecvQ (x.recv s) H bb kp S v H' := by
  have his := s_is (dir := 2) h
  have h' := h
  obtain ⟨w, h'⟩ := h'
  have hb := h'.blk
  refine WC_start e_port_Box_Recv (by simp) ?_
  unfold c_port_Box_Recv Bx.recv
  have hsame : PB H bb kp x (Grow S H H) := h.same
  clear h'
  repeat (with_reducible first|(first|refine pO ?_|refine pP ?_|refine pQ ?_|refine pR (by omega) ?_);intros|refine pS ?_|first|refine qA ?_|refine qB ?_|refine qC ?_|refine qD ?_|refine qE ?_|refine qF ?_|refine qG ?_|refine qH ?_|refine qI ?_|refine qJ ?_|refine qK ?_|refine qL ?_|refine qM rfl ?_|refine qN ?_|refine qO ?_|refine qP ?_|refine qQ ?_|refine qR ?_|refine qS ?_|refine qT ?_|refine qU ?_|refine qV ?_|refine qW ?_|refine qX ?_|refine qY ?_|refine qZ ?_|refine pA ?_|refine pB ?_|refine pC ?_|(first|refine pD ?_|refine pE ?_|refine pF ?_|refine pG ?_|refine pH ?_|refine pI ?_|refine pJ ?_|refine pK ?_|refine pL ?_|refine pM ?_|refine pN ?_);simp (disch := first | with_reducible assumption | omega) only [go_sem, *, reduceCtorEq, ↓reduceIte, Nat.reduceLT, Nat.reduceBEq, Nat.reduceAdd, Nat.reduceSub, Nat.reduceMul, Nat.reduceDiv, Nat.reduceMod, Nat.reducePow, Nat.reduceEqDiff, Nat.reduceLeDiff, Int.reduceLT, Int.reduceLE, Int.reduceNeg, Int.reduceToNat, Int.reduceAdd, Int.reduceSub, Int.reduceMul, Int.reduceEq, Int.reduceNe, Int.reduceBEq, Int.reduceBNe, Int.reducePow])
  refine outM_call his ?_
  rintro _ H ⟨rfl, rfl⟩
  clear his
  by_cases hd : x.p.dir = 2
  · rw [if_pos hd, if_pos hd]
    by_cases hs0 : s < 0
    · rw [if_pos hs0]
      clear h hd
      repeat (with_reducible first|(first|refine pO ?_|refine pP ?_|refine pQ ?_|refine pR (by omega) ?_);intros|refine pS ?_|first|refine qA ?_|refine qB ?_|refine qC ?_|refine qD ?_|refine qE ?_|refine qF ?_|refine qG ?_|refine qH ?_|refine qI ?_|refine qJ ?_|refine qK ?_|refine qL ?_|refine qM rfl ?_|refine qN ?_|refine qO ?_|refine qP ?_|refine qQ ?_|refine qR ?_|refine qS ?_|refine qT ?_|refine qU ?_|refine qV ?_|refine qW ?_|refine qX ?_|refine qY ?_|refine qZ ?_|refine pA ?_|refine pB ?_|refine pC ?_|(first|refine pD ?_|refine pE ?_|refine pF ?_|refine pG ?_|refine pH ?_|refine pI ?_|refine pJ ?_|refine pK ?_|refine pL ?_|refine pM ?_|refine pN ?_);simp (disch := first | with_reducible assumption | omega) only [go_sem, *, reduceCtorEq, ↓reduceIte, Nat.reduceLT, Nat.reduceBEq, Nat.reduceAdd, Nat.reduceSub, Nat.reduceMul, Nat.reduceDiv, Nat.reduceMod, Nat.reducePow, Nat.reduceEqDiff, Nat.reduceLeDiff, Int.reduceLT, Int.reduceLE, Int.reduceNeg, Int.reduceToNat, Int.reduceAdd, Int.reduceSub, Int.reduceMul, Int.reduceEq, Int.reduceNe, Int.reduceBEq, Int.reduceBNe, Int.reducePow])
      exact ⟨⟨Nat.le_refl _, fun _ _ _ => rfl⟩, rfl, hsame⟩
    rw [if_neg hs0]
    obtain ⟨f, g1, g2, kb, hp⟩ := s_asks (s := s) h ⟨by omega, hs64⟩
    clear h hsame hd
    generalize x.asks s = q at *
    obtain ⟨q1, q2⟩ := q
    dsimp only at hp ⊢
    repeat (with_reducible first|(first|refine pO ?_|refine pP ?_|refine pQ ?_|refine pR (by omega) ?_);intros|refine pS ?_|first|refine qA ?_|refine qB ?_|refine qC ?_|refine qD ?_|refine qE ?_|refine qF ?_|refine qG ?_|refine qH ?_|refine qI ?_|refine qJ ?_|refine qK ?_|refine qL ?_|refine qM rfl ?_|refine qN ?_|refine qO ?_|refine qP ?_|refine qQ ?_|refine qR ?_|refine qS ?_|refine qT ?_|refine qU ?_|refine qV ?_|refine qW ?_|refine qX ?_|refine qY ?_|refine qZ ?_|refine pA ?_|refine pB ?_|refine pC ?_|(first|refine pD ?_|refine pE ?_|refine pF ?_|refine pG ?_|refine pH ?_|refine pI ?_|refine pJ ?_|refine pK ?_|refine pL ?_|refine pM ?_|refine pN ?_);simp (disch := first | with_reducible assumption | omega) only [go_sem, *, reduceCtorEq, ↓reduceIte, Nat.reduceLT, Nat.reduceBEq, Nat.reduceAdd, Nat.reduceSub, Nat.reduceMul, Nat.reduceDiv, Nat.reduceMod, Nat.reducePow, Nat.reduceEqDiff, Nat.reduceLeDiff, Int.reduceLT, Int.reduceLE, Int.reduceNeg, Int.reduceToNat, Int.reduceAdd, Int.reduceSub, Int.reduceMul, Int.reduceEq, Int.reduceNe, Int.reduceBEq, Int.reduceBNe, Int.reducePow])
    refine outM_call hp ?_
    rintro _ H1 ⟨rfl, p1, p2, p3⟩
    clear hp hb kb
    have p1' := p1
    obtain ⟨w1, p1'⟩ := p1'
    have hb1 := p1'.blk
    by_cases he : q1 = 0
    · subst he
      rw [if_pos rfl]
      obtain ⟨f, g1, g2, kb, hp⟩ := s_get p1
      have hp : WC F f [.c (.ptr (some (bb, 0)))] H1 fun v H' => TakeQ q2.get H1 bb kp (Grow S H H1) v H' := hp
      have nk := p1'.nk
      have own := p1'.own
      clear p1 p1'
      generalize q2.get = q at *
      obtain ⟨r1, r2⟩ := q
      repeat (with_reducible first|(first|refine pO ?_|refine pP ?_|refine pQ ?_|refine pR (by omega) ?_);intros|refine pS ?_|first|refine qA ?_|refine qB ?_|refine qC ?_|refine qD ?_|refine qE ?_|refine qF ?_|refine qG ?_|refine qH ?_|refine qI ?_|refine qJ ?_|refine qK ?_|refine qL ?_|refine qM rfl ?_|refine qN ?_|refine qO ?_|refine qP ?_|refine qQ ?_|refine qR ?_|refine qS ?_|refine qT ?_|refine qU ?_|refine qV ?_|refine qW ?_|refine qX ?_|refine qY ?_|refine qZ ?_|refine pA ?_|refine pB ?_|refine pC ?_|(first|refine pD ?_|refine pE ?_|refine pF ?_|refine pG ?_|refine pH ?_|refine pI ?_|refine pJ ?_|refine pK ?_|refine pL ?_|refine pM ?_|refine pN ?_);simp (disch := first | with_reducible assumption | omega) only [go_sem, *, reduceCtorEq, ↓reduceIte, Nat.reduceLT, Nat.reduceBEq, Nat.reduceAdd, Nat.reduceSub, Nat.reduceMul, Nat.reduceDiv, Nat.reduceMod, Nat.reducePow, Nat.reduceEqDiff, Nat.reduceLeDiff, Int.reduceLT, Int.reduceLE, Int.reduceNeg, Int.reduceToNat, Int.reduceAdd, Int.reduceSub, Int.reduceMul, Int.reduceEq, Int.reduceNe, Int.reduceBEq, Int.reduceBNe, Int.reducePow])
      refine outM_call hp ?_
      clear hp
      cases r1 with
      | none =>
        rintro _ H2 ⟨⟨u1, u2⟩, rfl, u3⟩
        repeat (with_reducible first|(first|refine pO ?_|refine pP ?_|refine pQ ?_|refine pR (by omega) ?_);intros|refine pS ?_|first|refine qA ?_|refine qB ?_|refine qC ?_|refine qD ?_|refine qE ?_|refine qF ?_|refine qG ?_|refine qH ?_|refine qI ?_|refine qJ ?_|refine qK ?_|refine qL ?_|refine qM rfl ?_|refine qN ?_|refine qO ?_|refine qP ?_|refine qQ ?_|refine qR ?_|refine qS ?_|refine qT ?_|refine qU ?_|refine qV ?_|refine qW ?_|refine qX ?_|refine qY ?_|refine qZ ?_|refine pA ?_|refine pB ?_|refine pC ?_|(first|refine pD ?_|refine pE ?_|refine pF ?_|refine pG ?_|refine pH ?_|refine pI ?_|refine pJ ?_|refine pK ?_|refine pL ?_|refine pM ?_|refine pN ?_);simp (disch := first | with_reducible assumption | omega) only [go_sem, *, reduceCtorEq, ↓reduceIte, Nat.reduceLT, Nat.reduceBEq, Nat.reduceAdd, Nat.reduceSub, Nat.reduceMul, Nat.reduceDiv, Nat.reduceMod, Nat.reducePow, Nat.reduceEqDiff, Nat.reduceLeDiff, Int.reduceLT, Int.reduceLE, Int.reduceNeg, Int.reduceToNat, Int.reduceAdd, Int.reduceSub, Int.reduceMul, Int.reduceEq, Int.reduceNe, Int.reduceBEq, Int.reduceBNe, Int.reducePow])
        refine ⟨⟨by omega, fun c hc hsc => ?_⟩, rfl, u3.mono (fun c hc => ?_) (fun c hc => ?_) fun hc => ?_⟩
        · rw [u2 c (by omega) fun h => by rcases h with h | h; exact hsc h; omega]; exact p3 c hc hsc
        · rcases hc with (hc | hc) | hc; exact .inl hc; exact .inr ⟨by omega, by omega⟩; exact .inr ⟨by omega, by omega⟩
        · obtain ⟨w2, u3⟩ := u3
          rcases hc with hc | hc; exact u3.lt c (.inl (.inl hc)); exact hc.2
        · obtain ⟨w2, u3⟩ := u3
          rcases hc with hc | hc
          · exact nk (.inl hc)
          · have := lt_of_get kb
            exact nk (.inr ⟨by omega, by omega⟩)
      | some d =>
        rintro _ H2 ⟨⟨u1, u2⟩, m, rfl, v1, v2, v3, u3⟩
        repeat (with_reducible first|(first|refine pO ?_|refine pP ?_|refine pQ ?_|refine pR (by omega) ?_);intros|refine pS ?_|first|refine qA ?_|refine qB ?_|refine qC ?_|refine qD ?_|refine qE ?_|refine qF ?_|refine qG ?_|refine qH ?_|refine qI ?_|refine qJ ?_|refine qK ?_|refine qL ?_|refine qM rfl ?_|refine qN ?_|refine qO ?_|refine qP ?_|refine qQ ?_|refine qR ?_|refine qS ?_|refine qT ?_|refine qU ?_|refine qV ?_|refine qW ?_|refine qX ?_|refine qY ?_|refine qZ ?_|refine pA ?_|refine pB ?_|refine pC ?_|(first|refine pD ?_|refine pE ?_|refine pF ?_|refine pG ?_|refine pH ?_|refine pI ?_|refine pJ ?_|refine pK ?_|refine pL ?_|refine pM ?_|refine pN ?_);simp (disch := first | with_reducible assumption | omega) only [go_sem, *, reduceCtorEq, ↓reduceIte, Nat.reduceLT, Nat.reduceBEq, Nat.reduceAdd, Nat.reduceSub, Nat.reduceMul, Nat.reduceDiv, Nat.reduceMod, Nat.reducePow, Nat.reduceEqDiff, Nat.reduceLeDiff, Int.reduceLT, Int.reduceLE, Int.reduceNeg, Int.reduceToNat, Int.reduceAdd, Int.reduceSub, Int.reduceMul, Int.reduceEq, Int.reduceNe, Int.reduceBEq, Int.reduceBNe, Int.reducePow])
        refine ⟨⟨by omega, fun c hc hsc => ?_⟩, m, rfl, v1, v2, ?_, u3.mono (fun c hc => ?_) (fun c hc => ?_) fun hc => ?_⟩
        · rw [u2 c (by omega) fun h => by rcases h with h | h; exact hsc h; omega]; exact p3 c hc hsc
        · rcases v3 with (v3 | v3) | v3; exact .inl v3; exact .inr (by omega); exact .inr (by omega)
        · refine ⟨?_, hc.2⟩
          rcases hc.1 with (hc | hc) | hc; exact .inl hc; exact .inr ⟨by omega, by omega⟩; exact .inr ⟨by omega, by omega⟩
        · obtain ⟨w2, u3⟩ := u3
          rcases hc.1 with h | h; exact u3.lt c ⟨.inl (.inl h), hc.2⟩; exact h.2
        · obtain ⟨w2, u3⟩ := u3
          rcases hc.1 with h | h
          · exact nk (.inl h)
          · have := lt_of_get kb
            exact nk (.inr ⟨by omega, by omega⟩)
    · rw [if_neg he]
      clear p1'
      repeat (with_reducible first|(first|refine pO ?_|refine pP ?_|refine pQ ?_|refine pR (by omega) ?_);intros|refine pS ?_|first|refine qA ?_|refine qB ?_|refine qC ?_|refine qD ?_|refine qE ?_|refine qF ?_|refine qG ?_|refine qH ?_|refine qI ?_|refine qJ ?_|refine qK ?_|refine qL ?_|refine qM rfl ?_|refine qN ?_|refine qO ?_|refine qP ?_|refine qQ ?_|refine qR ?_|refine qS ?_|refine qT ?_|refine qU ?_|refine qV ?_|refine qW ?_|refine qX ?_|refine qY ?_|refine qZ ?_|refine pA ?_|refine pB ?_|refine pC ?_|(first|refine pD ?_|refine pE ?_|refine pF ?_|refine pG ?_|refine pH ?_|refine pI ?_|refine pJ ?_|refine pK ?_|refine pL ?_|refine pM ?_|refine pN ?_);simp (disch := first | with_reducible assumption | omega) only [go_sem, *, reduceCtorEq, ↓reduceIte, Nat.reduceLT, Nat.reduceBEq, Nat.reduceAdd, Nat.reduceSub, Nat.reduceMul, Nat.reduceDiv, Nat.reduceMod, Nat.reducePow, Nat.reduceEqDiff, Nat.reduceLeDiff, Int.reduceLT, Int.reduceLE, Int.reduceNeg, Int.reduceToNat, Int.reduceAdd, Int.reduceSub, Int.reduceMul, Int.reduceEq, Int.reduceNe, Int.reduceBEq, Int.reduceBNe, Int.reducePow])
      exact ⟨⟨p2, p3⟩, rfl, p1⟩
  · rw [if_neg hd, if_neg hd]
    clear h hd
    repeat (with_reducible first|(first|refine pO ?_|refine pP ?_|refine pQ ?_|refine pR (by omega) ?_);intros|refine pS ?_|first|refine qA ?_|refine qB ?_|refine qC ?_|refine qD ?_|refine qE ?_|refine qF ?_|refine qG ?_|refine qH ?_|refine qI ?_|refine qJ ?_|refine qK ?_|refine qL ?_|refine qM rfl ?_|refine qN ?_|refine qO ?_|refine qP ?_|refine qQ ?_|refine qR ?_|refine qS ?_|refine qT ?_|refine qU ?_|refine qV ?_|refine qW ?_|refine qX ?_|refine qY ?_|refine qZ ?_|refine pA ?_|refine pB ?_|refine pC ?_|(first|refine pD ?_|refine pE ?_|refine pF ?_|refine pG ?_|refine pH ?_|refine pI ?_|refine pJ ?_|refine pK ?_|refine pL ?_|refine pM ?_|refine pN ?_);simp (disch := first | with_reducible assumption | omega) only [go_sem, *, reduceCtorEq, ↓reduceIte, Nat.reduceLT, Nat.reduceBEq, Nat.reduceAdd, Nat.reduceSub, Nat.reduceMul, Nat.reduceDiv, Nat.reduceMod, Nat.reducePow, Nat.reduceEqDiff, Nat.reduceLeDiff, Int.reduceLT, Int.reduceLE, Int.reduceNeg, Int.reduceToNat, Int.reduceAdd, Int.reduceSub, Int.reduceMul, Int.reduceEq, Int.reduceNe, Int.reduceBEq, Int.reduceBNe, Int.reducePow])
    exact ⟨⟨Nat.le_refl _, fun _ _ _ => rfl⟩, rfl, hsame⟩
end Go.Proofs.Ytdekplnphbjgbaa.AM.D04
