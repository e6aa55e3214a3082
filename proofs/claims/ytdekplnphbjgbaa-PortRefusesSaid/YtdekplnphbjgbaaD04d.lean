/- What the functions of chapter 4 come to: a box, and what its kind does. -/
import Derived.Test.YtdekplnphbjgbaaD04c
set_option linter.unusedVariables false
set_option linter.unusedSimpArgs false
set_option linter.unusedSectionVars false
namespace Go.Proofs.Ytdekplnphbjgbaa.AM.D04
open Go Go.Proofs.Ytdekplnphbjgbaa.AM
set_option maxHeartbeats 2000000
set_option maxRecDepth 100000
attribute [local go_sem] ev_L k_ev Env.up_app Env.of_app aop_mv aop_pick aop_bin aop_eq aop_eqagg aop_un aop_cv aop_nilck aop_ld aop_st aop_iaS aop_iaA aop_fa aop_fld aop_ix aop_ext aop_len aop_lenK aop_box aop_new aop_build aop_bsl aop_mkfn aop_call callO_fn callO_yld aop_app aop_appT aop_cpy aop_clr aop_ins aop_look aop_mksl aop_mkmap aop_s2b s2bO_str mkslO_int aop_slS aop_same aop_b2s fillB_nil outO outS Option.map_none List.length_cons List.length_nil List.length_append List.length_set List.length_replicate List.set_cons_zero List.set_cons_succ pickO_true pickO_false binO_c eqO_c eqaO_agg unO_c cvO_int nilckO_ptr nilckO_fn ldO_one ldO_row stO_one stO_if okA_some oa_some iaSO_sl iaSO_some iaAO_ptr faO_ptr fldO_agg ixO_agg extO_tup lenO_sl lenO_str V.cells_c V.cells_agg Option.map_some Option.bind_some Option.getD_some List.getElem?_cons_zero List.getElem?_cons_succ List.map_cons List.map_nil V.pc Pc.v asI adsOf adOf Int.toNat_natCast Nat.mul_one Nat.zero_mul Int.ofNat_lt lss_int leq_int gtr_int geq_int eql_int neq_int and_int or_int xor_int andNot_int shr_u8_i shr_u16_i shr_u32_i shr_u64_i shr_i64_i and_u8_i and_u16_i and_u32_i and_u64_i or_u8_i or_u16_i or_u32_i or_u64_i xor_u8_i xor_u16_i xor_u32_i xor_u64_i wrap_u8_i wrap_u16_i wrap_u32_i wrap_u64_i wr_i64 and15 and1 and7 addA_mk Nat.zero_add Nat.add_zero beq_self_eq_true dec_t dec_f decide_true decide_false not_true_eq_false Int.natCast_inj Bool.not_true Bool.not_false Bool.false_eq_true if_true if_false Int.cast_ofNat_Int ne_eq not_false_eq_true Ex.exit.injEq resOf resV L_get? List.mapM_cons List.mapM_nil shutAll_nil shutAll_one ld_blk ldn_blk st_blk ldB_some ldnB_some stB_some put_nil put_cons rdK_ld rdK_b2s List.append_nil List.nil_append List.cons_append List.zip_cons_cons List.zip_nil_left List.zip_nil_right List.foldl_cons List.foldl_nil L_set L_set' rd_one rd_row Option.pure_def Option.bind_eq_bind and_self and_true true_and bne_t bne_f Option.isNone_some Option.isNone_none eqC_bb eqC_pn eqC_ps eqC_sn eqC_ss eqC_fn1 eqC_fn2 eqC_fn3 eqC_mn eqC_ms nats_len nats_get aop_slA slAO_all fillB_cons sameO eq_self add_u8_i add_u16_i add_u32_i add_u64_i mul_u8_i mul_u16_i mul_u32_i mul_u64_i sub_u8_i sub_u16_i sub_u32_i sub_u64_i quo_u8_i quo_u16_i quo_u32_i quo_u64_i rem_u8_i rem_u16_i rem_u32_i rem_u64_i shl_u8_i shl_u16_i shl_u32_i shl_u64_i quo_i64_i rem_i64_i shl_i64_i or_i64_i and_i64_i and_i64_15 and_i64_31 or256 str_eql str_add str_neq bstr_append bstr_size b2sO_ld b2sO_nil strOf_nats sub_nats un_xor_u8 un_xor_u16 un_xor_u32 un_xor_u64 un_neg un_not not_dec beq_int bne_int pickO_dec ld_addA ldn_addA st_addA slSO_lohi slSO_hi Nat.mod_eq_of_lt if_pos if_neg
attribute [local go_sem 500] wrap_u8_z wrap_u16_z wrap_u32_z wrap_u64_z add_int sub_int mul_int
attribute [local go_sem] tn_add1 tn_sub1 clrO_one sub_all put_all'
/-- A box, plainly. -/
structure Bx where
  p : Pt
  ms : List (List Nat)
  slot : Int
  lost : Bool
structure Bx.wf (x : Bx) : Prop where
  ok : x.p.ok
  ms : ∀ d ∈ x.ms, (d.length : Int) = x.p.size ∧ ∀ b ∈ d, b < 256
  s0 : 0 ≤ x.slot
  s1 : x.slot < 9223372036854775808
  q : x.p.kind = 2 → (x.ms.length : Int) ≤ x.p.depth
  s : x.p.kind ≠ 2 → x.ms.length ≤ 1
structure PBs (H : Heap) (bb kp : Nat) (w : Cell) (x : Bx) (S : Nat → Prop) : Prop where
  blk : H[bb]? = some (.cells [.int .i64 x.p.part, .int .i64 x.p.kind, .int .i64 x.p.dir, .int .i64 x.p.size, .int .i64 x.p.depth, .int .i64 x.p.fresh, .ptr (some (kp, 0)), w, .int .i64 x.slot, .bool x.lost] false none)
  kb : H[kp]? = some (.cells (kOf x.p.kind) false none)
  lst : LR H w (decide (x.p.kind = 2)) x.ms fun c => S c ∧ c ≠ bb
  own : S bb
  lt : ∀ c, S c → c < H.length
  nk : ¬ S kp
  wf : x.wf
def PB (H : Heap) (bb kp : Nat) (x : Bx) (S : Nat → Prop) : Prop := ∃ w, PBs H bb kp w x S
theorem PBs.keep {H H' : Heap} {bb kp : Nat} {w : Cell} {x : Bx} {S : Nat → Prop} (h : PBs H bb kp w x S) (hl : H.length ≤ H'.length) (hx : ∀ c, S c → H'[c]? = H[c]?) (hk : H'[kp]? = H[kp]?) : PBs H' bb kp w x S :=
  ⟨(hx _ h.own).trans h.blk, hk.trans h.kb, h.lst.keep (fun c hc => hx c hc.1) fun c hc => hc, h.own, fun c hc => Nat.lt_of_lt_of_le (h.lt c hc) hl, h.nk, h.wf⟩
theorem PB.keep {H H' : Heap} {bb kp : Nat} {x : Bx} {S : Nat → Prop} (h : PB H bb kp x S) (hl : H.length ≤ H'.length) (hx : ∀ c, S c → H'[c]? = H[c]?) (hk : H'[kp]? = H[kp]?) : PB H' bb kp x S := by
  obtain ⟨w, h⟩ := h
  exact ⟨w, h.keep hl hx hk⟩
/-- Put. -/
def Bx.put (x : Bx) (d : List Nat) : Int × Bx := if x.p.kind = 2 then (if (x.ms.length : Int) = x.p.depth then (41, x) else (0, { x with ms := x.ms ++ [d] })) else (0, { x with ms := [d] })
theorem Bx.put_wf {x : Bx} {d : List Nat} (h : x.wf) (hd : (d.length : Int) = x.p.size) (hby : ∀ b ∈ d, b < 256) : (x.put d).2.wf := by
  unfold Bx.put
  have hm : ∀ l : List (List Nat), (∀ e ∈ l, (e.length : Int) = x.p.size ∧ ∀ b ∈ e, b < 256) → ∀ e ∈ l ++ [d], (e.length : Int) = x.p.size ∧ ∀ b ∈ e, b < 256 := fun l hl e he => by
    rcases List.mem_append.1 he with he | he
    · exact hl e he
    · obtain rfl : e = d := by simpa using he
      exact ⟨hd, hby⟩
  split
  · rename_i hk
    split
    · exact h
    · rename_i hne
      refine ⟨h.ok, hm _ h.ms, h.s0, h.s1, fun _ => ?_, fun h' => absurd hk h'⟩
      have := h.q hk
      show ((x.ms ++ [d]).length : Int) ≤ x.p.depth
      rw [List.length_append, List.length_singleton]; omega
  · rename_i hk
    exact ⟨h.ok, hm [] (by simp), h.s0, h.s1, fun h' => absurd h' hk, fun _ => Nat.le_refl _⟩
theorem PBs.grow {H H' : Heap} {bb kp : Nat} {w : Cell} {x : Bx} {S : Nat → Prop} (hl : H.length ≤ H'.length) (lk : kp < H.length) (lt : ∀ c, S c → c < H.length) (nk : ¬ S kp) (own : S bb)
    (hb : H'[bb]? = some (.cells [.int .i64 x.p.part, .int .i64 x.p.kind, .int .i64 x.p.dir, .int .i64 x.p.size, .int .i64 x.p.depth, .int .i64 x.p.fresh, .ptr (some (kp, 0)), w, .int .i64 x.slot, .bool x.lost] false none))
    (kb : H'[kp]? = some (.cells (kOf x.p.kind) false none)) (hlr : LR H' w (decide (x.p.kind = 2)) x.ms fun c => Grow S H H' c ∧ c ≠ bb) (wf : x.wf) : PBs H' bb kp w x (Grow S H H') :=
  ⟨hb, kb, hlr, .inl own, fun c hc => by rcases hc with hc | hc; exact Nat.lt_of_lt_of_le (lt c hc) hl; exact hc.2, fun hc => by rcases hc with hc | hc; exact nk hc; omega, wf⟩
theorem s_put1 {H : Heap} {bb kp : Nat} {x : Bx} {S : Nat → Prop} {a : Option Ad} {c : Nat} {o : Bool} {d : List Nat} (h : PB H bb kp x S) (hk : x.p.kind = 2) (hs : Sl H 1 a d.length (nats .u8 d)) (hd : (d.length : Int) = x.p.size) (hby : ∀ b ∈ d, b < 256) :
    WC F fn_port_kinds_1 [.c (.ptr (some (bb, 0))), .c (.sl a d.length c o)] H fun v H' => v = .c (.int .i64 (x.put d).1) ∧ PB H' bb kp (x.put d).2 (Grow S H H') ∧ Only S H H' := by
  obtain ⟨w, h⟩ := h
  have hwf := Bx.put_wf h.wf hd hby
  obtain ⟨⟨part, kind, dir, size, depth, fresh⟩, ms, slot, lost⟩ := x
  obtain ⟨hb, kb, hl, own, lt, nk, wf⟩ := h
  dsimp only at hb kb hl hk hd
  subst hk
  have ok3 : 1 ≤ size := wf.ok.2.2.1
  have ok4 : size ≤ 32 := wf.ok.2.2.2.1
  have wq : (ms.length : Int) ≤ depth := wf.q rfl
  have ok5 : depth ≤ 8 := (wf.ok.2.2.2.2.1 rfl).2.1
  obtain ⟨aw, cw, ow, rfl⟩ := hl.len
  have lb := lt bb own
  have lk := lt_of_get kb
  refine WC_start e_port_kinds_1 (by simp) ?_
  unfold c_port_kinds_1
  unfold Bx.put at hwf ⊢
  dsimp only at hwf ⊢
  rw [if_pos rfl] at hwf ⊢
  by_cases hfull : (ms.length : Int) = depth
  · rw [if_pos hfull] at hwf ⊢
    repeat (with_reducible first|(first|refine pO ?_|refine pP ?_|refine pQ ?_|refine pR (by omega) ?_);intros|refine pS ?_|first|refine qA ?_|refine qB ?_|refine qC ?_|refine qD ?_|refine qE ?_|refine qF ?_|refine qG ?_|refine qH ?_|refine qI ?_|refine qJ ?_|refine qK ?_|refine qL ?_|refine qM rfl ?_|refine qN ?_|refine qO ?_|refine qP ?_|refine qQ ?_|refine qR ?_|refine qS ?_|refine qT ?_|refine qU ?_|refine qV ?_|refine qW ?_|refine qX ?_|refine qY ?_|refine qZ ?_|refine pA ?_|refine pB ?_|refine pC ?_|(first|refine pD ?_|refine pE ?_|refine pF ?_|refine pG ?_|refine pH ?_|refine pI ?_|refine pJ ?_|refine pK ?_|refine pL ?_|refine pM ?_|refine pN ?_);simp (disch := first | with_reducible assumption | omega) only [go_sem, *, reduceCtorEq, ↓reduceIte, Nat.reduceLT, Nat.reduceBEq, Nat.reduceAdd, Nat.reduceSub, Nat.reduceMul, Nat.reduceDiv, Nat.reduceMod, Nat.reducePow, Nat.reduceEqDiff, Nat.reduceLeDiff, Int.reduceLT, Int.reduceLE, Int.reduceNeg, Int.reduceToNat, Int.reduceAdd, Int.reduceSub, Int.reduceMul, Int.reduceEq, Int.reduceNe, Int.reduceBEq, Int.reduceBNe, Int.reducePow])
    exact ⟨rfl, ⟨_, PBs.grow (Nat.le_refl _) lk lt nk own hb kb (hl.keep (fun _ _ => rfl) fun c hc => ⟨.inl hc.1, hc.2⟩) hwf⟩, Nat.le_refl _, fun _ _ _ => rfl⟩
  · rw [if_neg hfull] at hwf ⊢
    have hcl := s_Clone (c := c) (o := o) hs (by omega) (by omega) rfl
    have hlt1 : ∀ c, S c ∧ c ≠ bb → c < H.length := fun c hc => lt c hc.1
    repeat (with_reducible first|(first|refine pO ?_|refine pP ?_|refine pQ ?_|refine pR (by omega) ?_);intros|refine pS ?_|first|refine qA ?_|refine qB ?_|refine qC ?_|refine qD ?_|refine qE ?_|refine qF ?_|refine qG ?_|refine qH ?_|refine qI ?_|refine qJ ?_|refine qK ?_|refine qL ?_|refine qM rfl ?_|refine qN ?_|refine qO ?_|refine qP ?_|refine qQ ?_|refine qR ?_|refine qS ?_|refine qT ?_|refine qU ?_|refine qV ?_|refine qW ?_|refine qX ?_|refine qY ?_|refine qZ ?_|refine pA ?_|refine pB ?_|refine pC ?_|(first|refine pD ?_|refine pE ?_|refine pF ?_|refine pG ?_|refine pH ?_|refine pI ?_|refine pJ ?_|refine pK ?_|refine pL ?_|refine pM ?_|refine pN ?_);simp (disch := first | with_reducible assumption | omega) only [go_sem, *, reduceCtorEq, ↓reduceIte, Nat.reduceLT, Nat.reduceBEq, Nat.reduceAdd, Nat.reduceSub, Nat.reduceMul, Nat.reduceDiv, Nat.reduceMod, Nat.reducePow, Nat.reduceEqDiff, Nat.reduceLeDiff, Int.reduceLT, Int.reduceLE, Int.reduceNeg, Int.reduceToNat, Int.reduceAdd, Int.reduceSub, Int.reduceMul, Int.reduceEq, Int.reduceNe, Int.reduceBEq, Int.reduceBNe, Int.reducePow])
    refine outM_call hcl ?_
    rintro _ H1 ⟨m, rfl, q1, q2, q3, l1, x1⟩
    clear hcl
    repeat (with_reducible first|(first|refine pO ?_|refine pP ?_|refine pQ ?_|refine pR (by omega) ?_);intros|refine pS ?_|first|refine qA ?_|refine qB ?_|refine qC ?_|refine qD ?_|refine qE ?_|refine qF ?_|refine qG ?_|refine qH ?_|refine qI ?_|refine qJ ?_|refine qK ?_|refine qL ?_|refine qM rfl ?_|refine qN ?_|refine qO ?_|refine qP ?_|refine qQ ?_|refine qR ?_|refine qS ?_|refine qT ?_|refine qU ?_|refine qV ?_|refine qW ?_|refine qX ?_|refine qY ?_|refine qZ ?_|refine pA ?_|refine pB ?_|refine pC ?_|(first|refine pD ?_|refine pE ?_|refine pF ?_|refine pG ?_|refine pH ?_|refine pI ?_|refine pJ ?_|refine pK ?_|refine pL ?_|refine pM ?_|refine pN ?_);simp (disch := first | with_reducible assumption | omega) only [go_sem, *, reduceCtorEq, ↓reduceIte, Nat.reduceLT, Nat.reduceBEq, Nat.reduceAdd, Nat.reduceSub, Nat.reduceMul, Nat.reduceDiv, Nat.reduceMod, Nat.reducePow, Nat.reduceEqDiff, Nat.reduceLeDiff, Int.reduceLT, Int.reduceLE, Int.reduceNeg, Int.reduceToNat, Int.reduceAdd, Int.reduceSub, Int.reduceMul, Int.reduceEq, Int.reduceNe, Int.reduceBEq, Int.reduceBNe, Int.reducePow])
    rename_i b2 H2 p2 g2 x2
    have y2 : ∀ b, b < H.length → H2[b]? = H[b]? := fun b hb => by simp (disch := first | with_reducible assumption | omega) only [go_sem, *, reduceCtorEq, ↓reduceIte, Nat.reduceLT, Nat.reduceBEq, Nat.reduceAdd, Nat.reduceSub, Nat.reduceMul, Nat.reduceDiv, Nat.reduceMod, Nat.reducePow, Nat.reduceEqDiff, Nat.reduceLeDiff, Int.reduceLT, Int.reduceLE, Int.reduceNeg, Int.reduceToNat, Int.reduceAdd, Int.reduceSub, Int.reduceMul, Int.reduceEq, Int.reduceNe, Int.reduceBEq, Int.reduceBNe, Int.reducePow]
    have hl2 := hl.keep (H' := H2) (S' := fun c => S c ∧ c ≠ bb) (fun c hc => y2 c (hlt1 c hc)) fun c hc => hc
    rw [decide_eq_true (rfl : (2 : Int) = 2)] at hl2
    refine outM_push hl2 (fun c hc => by have := hlt1 c hc; omega) (by omega) g2 (by simp (disch := first | with_reducible assumption | omega) only [go_sem, *, reduceCtorEq, ↓reduceIte, Nat.reduceLT, Nat.reduceBEq, Nat.reduceAdd, Nat.reduceSub, Nat.reduceMul, Nat.reduceDiv, Nat.reduceMod, Nat.reducePow, Nat.reduceEqDiff, Nat.reduceLeDiff, Int.reduceLT, Int.reduceLE, Int.reduceNeg, Int.reduceToNat, Int.reduceAdd, Int.reduceSub, Int.reduceMul, Int.reduceEq, Int.reduceNe, Int.reduceBEq, Int.reduceBNe, Int.reducePow]) (by omega) (fun hc => by have := hlt1 _ hc; omega) (fun hc => by have := hlt1 _ hc; omega) ?_
    intro w' H3 l3 hl3 x3
    have x3b : H3[bb]? = H2[bb]? := x3 bb (by omega) fun h => h.2 rfl
    have x3k : H3[kp]? = H2[kp]? := x3 kp (by omega) fun h => nk h.1
    clear hl2 hl
    repeat (with_reducible first|(first|refine pO ?_|refine pP ?_|refine pQ ?_|refine pR (by omega) ?_);intros|refine pS ?_|first|refine qA ?_|refine qB ?_|refine qC ?_|refine qD ?_|refine qE ?_|refine qF ?_|refine qG ?_|refine qH ?_|refine qI ?_|refine qJ ?_|refine qK ?_|refine qL ?_|refine qM rfl ?_|refine qN ?_|refine qO ?_|refine qP ?_|refine qQ ?_|refine qR ?_|refine qS ?_|refine qT ?_|refine qU ?_|refine qV ?_|refine qW ?_|refine qX ?_|refine qY ?_|refine qZ ?_|refine pA ?_|refine pB ?_|refine pC ?_|(first|refine pD ?_|refine pE ?_|refine pF ?_|refine pG ?_|refine pH ?_|refine pI ?_|refine pJ ?_|refine pK ?_|refine pL ?_|refine pM ?_|refine pN ?_);simp (disch := first | with_reducible assumption | omega) only [go_sem, *, reduceCtorEq, ↓reduceIte, Nat.reduceLT, Nat.reduceBEq, Nat.reduceAdd, Nat.reduceSub, Nat.reduceMul, Nat.reduceDiv, Nat.reduceMod, Nat.reducePow, Nat.reduceEqDiff, Nat.reduceLeDiff, Int.reduceLT, Int.reduceLE, Int.reduceNeg, Int.reduceToNat, Int.reduceAdd, Int.reduceSub, Int.reduceMul, Int.reduceEq, Int.reduceNe, Int.reduceBEq, Int.reduceBNe, Int.reducePow])
    rename_i H4 l4 g4 x4
    have hkp : kp ≠ bb := fun e => nk (e ▸ own)
    refine ⟨rfl, ⟨_, PBs.grow (by omega) lk lt nk own g4 (by simp (disch := first | with_reducible assumption | omega) only [go_sem, *, reduceCtorEq, ↓reduceIte, Nat.reduceLT, Nat.reduceBEq, Nat.reduceAdd, Nat.reduceSub, Nat.reduceMul, Nat.reduceDiv, Nat.reduceMod, Nat.reducePow, Nat.reduceEqDiff, Nat.reduceLeDiff, Int.reduceLT, Int.reduceLE, Int.reduceNeg, Int.reduceToNat, Int.reduceAdd, Int.reduceSub, Int.reduceMul, Int.reduceEq, Int.reduceNe, Int.reduceBEq, Int.reduceBNe, Int.reducePow]) (hl3.keep (fun c hc => ?_) fun c hc => ?_) hwf⟩, by omega, fun c hc hs => ?_⟩
    · refine x4 c ?_
      rcases hc with (hc | hc) | hc
      · exact hc.2
      · omega
      · omega
    · rcases hc with (hc | hc) | hc
      · exact ⟨.inl hc.1, hc.2⟩
      · exact ⟨.inr ⟨by omega, by omega⟩, by omega⟩
      · exact ⟨.inr ⟨by omega, by omega⟩, by omega⟩
    · have : c ≠ bb := fun e => hs (e ▸ own)
      rw [x4 c this, x3 c (by omega) fun h => hs h.1]; exact y2 c hc
end Go.Proofs.Ytdekplnphbjgbaa.AM.D04
