/- The law VoteShifts. -/
import Derived.Test.YtcjonjncekcfhaaD22l
set_option linter.unusedVariables false
set_option linter.unusedSimpArgs false
set_option linter.unusedSectionVars false
namespace Go.Proofs.Ytcjonjncekcfhaa.AM.D22
open Go Go.Proofs.Ytcjonjncekcfhaa.AM
set_option maxHeartbeats 2000000
set_option maxRecDepth 100000
attribute [local go_sem] ev_L k_ev Env.up_app Env.of_app aop_mv aop_pick aop_bin aop_eq aop_eqagg aop_un aop_cv aop_nilck aop_ld aop_st aop_iaS aop_iaA aop_fa aop_fld aop_ix aop_ext aop_len aop_lenK aop_box aop_new aop_build aop_bsl aop_mkfn aop_call callO_fn callO_yld aop_app aop_appT aop_cpy aop_clr aop_ins aop_look aop_mksl aop_mkmap aop_s2b s2bO_str mkslO_int aop_slS aop_same aop_b2s fillB_nil outO outS Option.map_none List.length_cons List.length_nil List.length_append List.length_set List.length_replicate List.set_cons_zero List.set_cons_succ pickO_true pickO_false binO_c eqO_c eqaO_agg unO_c cvO_int nilckO_ptr nilckO_fn ldO_one ldO_row stO_one stO_if okA_some oa_some iaSO_sl iaSO_some iaAO_ptr faO_ptr fldO_agg ixO_agg extO_tup lenO_sl lenO_str V.cells_c V.cells_agg Option.map_some Option.bind_some Option.getD_some List.getElem?_cons_zero List.getElem?_cons_succ List.map_cons List.map_nil V.pc Pc.v asI adsOf adOf Int.toNat_natCast Nat.mul_one Nat.zero_mul Int.ofNat_lt lss_int leq_int gtr_int geq_int eql_int neq_int and_int or_int xor_int andNot_int shr_u8_i shr_u16_i shr_u32_i shr_u64_i shr_i64_i and_u8_i and_u16_i and_u32_i and_u64_i or_u8_i or_u16_i or_u32_i or_u64_i xor_u8_i xor_u16_i xor_u32_i xor_u64_i wrap_u8_i wrap_u16_i wrap_u32_i wrap_u64_i wr_i64 and15 and1 and7 addA_mk Nat.zero_add Nat.add_zero beq_self_eq_true dec_t dec_f decide_true decide_false not_true_eq_false Int.natCast_inj Bool.not_true Bool.not_false Bool.false_eq_true if_true if_false Int.cast_ofNat_Int ne_eq not_false_eq_true Ex.exit.injEq resOf resV L_get? List.mapM_cons List.mapM_nil shutAll_nil shutAll_one ld_blk ldn_blk st_blk ldB_some ldnB_some stB_some put_nil put_cons rdK_ld rdK_b2s List.append_nil List.nil_append List.cons_append List.zip_cons_cons List.zip_nil_left List.zip_nil_right List.foldl_cons List.foldl_nil L_set L_set' rd_one rd_row Option.pure_def Option.bind_eq_bind and_self and_true true_and bne_t bne_f Option.isNone_some Option.isNone_none eqC_bb eqC_pn eqC_ps eqC_sn eqC_ss eqC_fn1 eqC_fn2 eqC_fn3 eqC_mn eqC_ms nats_len nats_get aop_slA slAO_all fillB_cons sameO eq_self add_u8_i add_u16_i add_u32_i add_u64_i mul_u8_i mul_u16_i mul_u32_i mul_u64_i sub_u8_i sub_u16_i sub_u32_i sub_u64_i quo_u8_i quo_u16_i quo_u32_i quo_u64_i rem_u8_i rem_u16_i rem_u32_i rem_u64_i shl_u8_i shl_u16_i shl_u32_i shl_u64_i quo_i64_i rem_i64_i shl_i64_i or_i64_i and_i64_i and_i64_15 and_i64_31 or256 str_eql str_add str_neq bstr_append bstr_size b2sO_ld b2sO_nil strOf_nats sub_nats un_xor_u8 un_xor_u16 un_xor_u32 un_xor_u64 un_neg un_not not_dec beq_int bne_int pickO_dec ld_addA ldn_addA st_addA slSO_lohi slSO_hi Nat.mod_eq_of_lt if_pos if_neg
attribute [local go_sem 500] wrap_u8_z wrap_u16_z wrap_u32_z wrap_u64_z add_int sub_int mul_int
attribute [local go_sem] tn_add1 tn_sub1 put_all' ints_len
abbrev sh (b : Int) (l : List Int) : List Int := l.map fun x => x + b
theorem sorted_sh (b : Int) (ws : List Int) : sorted (sh b ws) = sh b (sorted ws) := by
  refine sorted_unique ((sorted_perm _).trans ?_) (sorted_pw _) ?_
  · exact ((sorted_perm ws).map fun x => x + b).symm
  · rw [List.pairwise_map]
    exact (sorted_pw ws).imp fun h => by omega
theorem gi_sh {b : Int} {l : List Int} {i : Nat} (h : i < l.length) : gi (sh b l) i = gi l i + b := by simp [gi, h]
theorem cn_sh (b x : Int) (ws : List Int) : cn (x + b) (sh b ws) = cn x ws := by
  unfold cn sh
  rw [List.countP_map]
  apply List.countP_congr
  intro y _
  simp
theorem PS_sh {b : Int} {ws : List Int} {v : Int} {n : Nat} (h0 : ws ≠ []) (h : PS ws v n) : PS (sh b ws) (v + b) n := by
  rcases h with ⟨h, _⟩ | ⟨h1, h2, h3⟩
  · exact absurd h h0
  · right
    refine ⟨List.mem_map.2 ⟨v, h1, rfl⟩, by rw [cn_sh]; exact h2, fun x hx => ?_⟩
    obtain ⟨y, hy, rfl⟩ := List.mem_map.1 hx
    rw [cn_sh]
    have := h3 y hy
    omega
theorem pl_sh {b : Int} {ws : List Int} (h0 : ws ≠ []) : pl (runsL (sorted (sh b ws))) = ((pl (runsL (sorted ws))).1 + b, (pl (runsL (sorted ws))).2) := by
  obtain ⟨h1, h2⟩ := (pl_PS (sh b ws)).unique (PS_sh (b := b) h0 (pl_PS ws))
  exact Prod.ext h1 h2
theorem part_sh (t b : Int) (ws : List Int) (v : Int) : part t (sh b ws) (v + b) = part t ws v := by
  unfold part partK
  rw [List.length_map]
  apply List.filter_congr
  intro i hi
  rw [gi_sh (by simpa using hi)]
  unfold agr
  exact decide_eq_decide.2 (by omega)
theorem AS_sh {t b : Int} {ws : List Int} {p : List Nat} (h : AS t ws p) : AS t (sh b ws) p := by
  rcases h with ⟨rfl, rfl⟩ | ⟨v, h1, h2, h3⟩
  · left; exact ⟨rfl, rfl⟩
  · right
    refine ⟨v + b, List.mem_map.2 ⟨v, h1, rfl⟩, by rw [part_sh]; exact h2, fun x hx => ?_⟩
    obtain ⟨y, hy, rfl⟩ := List.mem_map.1 hx
    rw [part_sh]
    have := h3 y hy
    omega
theorem ag_sh {t b : Int} (ws : List Int) (ht : 0 ≤ t) : ag t (sh b ws) (runsL (sorted (sh b ws))) = ag t ws (runsL (sorted ws)) :=
  (ag_AS (sh b ws) ht).unique (AS_sh (ag_AS ws ht))
theorem mid_sh (x y b : Int) : mid (x + b) (y + b) = mid x y + b := by unfold mid bb; split <;> split <;> omega
def small (x : Int) : Prop := -1099511627776 ≤ x ∧ x ≤ 1099511627776
theorem gi_small {l : List Int} (h : ∀ x ∈ l, small x) (i : Nat) : small (gi l i) := by
  unfold gi
  rw [List.getD_eq_getElem?_getD]
  cases e : l[i]? with
  | none => simp [small]
  | some x => simpa using h x (List.mem_of_getElem? e)
theorem trim_sh {b : Int} {ws : List Int} {n : Nat} {f : Int} (hl : ws.length = n) (hw : ∀ x ∈ ws, small x) : ∃ x y z, trimV ws n f = (x, y, z) ∧ small x ∧ small y ∧ ((z = true ∧ trimV (sh b ws) n f = (x + b, y + b, true)) ∨ (z = false ∧ x = 0 ∧ y = 0 ∧ trimV (sh b ws) n f = (0, 0, false))) := by
  have hs : ∀ x ∈ sorted ws, small x := fun x hx => hw x ((sorted_perm ws).mem_iff.1 hx)
  unfold trimV
  by_cases h : 0 ≤ f ∧ 2 * f < n
  · rw [if_pos h, if_pos h]
    refine ⟨_, _, _, rfl, gi_small hs _, gi_small hs _, .inl ⟨rfl, ?_⟩⟩
    rw [sorted_sh, gi_sh (by rw [sorted_length]; omega), gi_sh (by rw [sorted_length]; omega)]
  · rw [if_neg h, if_neg h]
    exact ⟨_, _, _, rfl, by simp [small], by simp [small], .inr ⟨rfl, rfl, rfl, rfl⟩⟩
theorem wf_i32 {n : Int} (h : (Lit.int .i32 n).wf = true) : -2147483648 ≤ n ∧ n < 2147483648 := by
  simp [Lit.wf, IntKind.min, IntKind.max, IntKind.bits, IntKind.signed] at h; omega
theorem VwV.i32 {H : Heap} {x : Int} {v : V} (h : VwV (.int .i32) H x v) : v = .c (.int .i32 x) ∧ -2147483648 ≤ x ∧ x < 2147483648 := by
  obtain ⟨cs, ⟨rfl, hw⟩, ⟨h, _⟩ | ⟨_, c, h, rfl⟩⟩ := h
  · cases h
  · cases h; exact ⟨rfl, wf_i32 hw⟩
theorem shifts_law {H : Heap} {a : Option Ad} {c : Nat} {ws : List Int} {b f t : Int} (hs : Sl H 1 a ws.length (ints ws)) (hw : ∀ x ∈ ws, i64 x) (hb : -2147483648 ≤ b ∧ b < 2147483648) (ht : i64 t) :
    WC F fn_rotalaw22_VoteShifts [.c (.sl a ws.length c false), .c (.int .i32 b), .c (.int .i64 f), .c (.int .i64 t)] H fun v _ => v = .c (.bool true) := by
  refine WC_start e_rotalaw22_VoteShifts (by simp) ?_
  unfold c_rotalaw22_VoteShifts
  obtain ⟨n, hl⟩ : ∃ n, ws.length = n := ⟨_, rfl⟩
  rw [hl] at hs ⊢
  have fin0 := fun (A : Prop) (h : _ → _ → A) => h hs hw
  clear hs hw
  repeat (with_reducible first|(first|refine pO ?_|refine pP ?_|refine pQ ?_|refine pR (by omega) ?_);intros|refine pS ?_|first|refine qA ?_|refine qB ?_|refine qC ?_|refine qD ?_|refine qE ?_|refine qF ?_|refine qG ?_|refine qH ?_|refine qI ?_|refine qJ ?_|refine qK ?_|refine qL ?_|refine qM rfl ?_|refine qN ?_|refine qO ?_|refine qP ?_|refine qQ ?_|refine qR ?_|refine qS ?_|refine qT ?_|refine qU ?_|refine qV ?_|refine qW ?_|refine qX ?_|refine qY ?_|refine qZ ?_|refine pA ?_|refine pB ?_|refine pC ?_|(first|refine pD ?_|refine pE ?_|refine pF ?_|refine pT ?_|refine pG ?_|refine pH ?_|refine pI ?_|refine pJ ?_|refine pK ?_|refine pL ?_|refine pM ?_|refine pN ?_);simp (disch := first | with_reducible assumption | omega) only [go_sem, *, reduceCtorEq, ↓reduceIte, Nat.reduceLT, Nat.reduceBEq, Nat.reduceAdd, Nat.reduceSub, Nat.reduceMul, Nat.reduceDiv, Nat.reduceMod, Nat.reducePow, Nat.reduceEqDiff, Nat.reduceLeDiff, Int.reduceLT, Int.reduceLE, Int.reduceNeg, Int.reduceToNat, Int.reduceAdd, Int.reduceSub, Int.reduceMul, Int.reduceEq, Int.reduceNe, Int.reduceBEq, Int.reduceBNe, Int.reducePow])
  refine outM_call s_alive ?_
  rintro _ H1 ⟨rfl, xt1⟩
  by_cases hbig : 100 < (n : Int)
  · repeat (with_reducible first|(first|refine pO ?_|refine pP ?_|refine pQ ?_|refine pR (by omega) ?_);intros|refine pS ?_|first|refine qA ?_|refine qB ?_|refine qC ?_|refine qD ?_|refine qE ?_|refine qF ?_|refine qG ?_|refine qH ?_|refine qI ?_|refine qJ ?_|refine qK ?_|refine qL ?_|refine qM rfl ?_|refine qN ?_|refine qO ?_|refine qP ?_|refine qQ ?_|refine qR ?_|refine qS ?_|refine qT ?_|refine qU ?_|refine qV ?_|refine qW ?_|refine qX ?_|refine qY ?_|refine qZ ?_|refine pA ?_|refine pB ?_|refine pC ?_|(first|refine pD ?_|refine pE ?_|refine pF ?_|refine pT ?_|refine pG ?_|refine pH ?_|refine pI ?_|refine pJ ?_|refine pK ?_|refine pL ?_|refine pM ?_|refine pN ?_);simp (disch := first | with_reducible assumption | omega) only [go_sem, *, reduceCtorEq, ↓reduceIte, Nat.reduceLT, Nat.reduceBEq, Nat.reduceAdd, Nat.reduceSub, Nat.reduceMul, Nat.reduceDiv, Nat.reduceMod, Nat.reducePow, Nat.reduceEqDiff, Nat.reduceLeDiff, Int.reduceLT, Int.reduceLE, Int.reduceNeg, Int.reduceToNat, Int.reduceAdd, Int.reduceSub, Int.reduceMul, Int.reduceEq, Int.reduceNe, Int.reduceBEq, Int.reduceBNe, Int.reducePow])
    with_reducible rfl
  by_cases h0 : n = 0
  · have h0' : (n : Int) = 0 := by omega
    repeat (with_reducible first|(first|refine pO ?_|refine pP ?_|refine pQ ?_|refine pR (by omega) ?_);intros|refine pS ?_|first|refine qA ?_|refine qB ?_|refine qC ?_|refine qD ?_|refine qE ?_|refine qF ?_|refine qG ?_|refine qH ?_|refine qI ?_|refine qJ ?_|refine qK ?_|refine qL ?_|refine qM rfl ?_|refine qN ?_|refine qO ?_|refine qP ?_|refine qQ ?_|refine qR ?_|refine qS ?_|refine qT ?_|refine qU ?_|refine qV ?_|refine qW ?_|refine qX ?_|refine qY ?_|refine qZ ?_|refine pA ?_|refine pB ?_|refine pC ?_|(first|refine pD ?_|refine pE ?_|refine pF ?_|refine pT ?_|refine pG ?_|refine pH ?_|refine pI ?_|refine pJ ?_|refine pK ?_|refine pL ?_|refine pM ?_|refine pN ?_);simp (disch := first | with_reducible assumption | omega) only [go_sem, *, reduceCtorEq, ↓reduceIte, Nat.reduceLT, Nat.reduceBEq, Nat.reduceAdd, Nat.reduceSub, Nat.reduceMul, Nat.reduceDiv, Nat.reduceMod, Nat.reducePow, Nat.reduceEqDiff, Nat.reduceLeDiff, Int.reduceLT, Int.reduceLE, Int.reduceNeg, Int.reduceToNat, Int.reduceAdd, Int.reduceSub, Int.reduceMul, Int.reduceEq, Int.reduceNe, Int.reduceBEq, Int.reduceBNe, Int.reducePow])
    with_reducible rfl
  have h0' : ¬ (n : Int) = 0 := by omega
  have hcv : IntKind.i64.wrap b = b := wr_i64 ⟨by omega, by omega⟩
  obtain ⟨⟨la, y⟩, rfl⟩ := (fin0 _ fun h _ => h).is_some (by omega)
  have hs1 : Sl H1 1 (some (la, y)) n (ints ws) := fin0 _ fun h _ => h.to xt1.2
  have hla : la < H1.length := hs1.lts
  have hw : ∀ x ∈ ws, i64 x := fin0 _ fun _ h => h
  have fin1 := fun (A : Prop) (h : _ → _ → A) => h hs1 hw
  clear fin0 hs1 hw xt1
  repeat (with_reducible first|(first|refine pO ?_|refine pP ?_|refine pQ ?_|refine pR (by omega) ?_);intros|refine pS ?_|first|refine qA ?_|refine qB ?_|refine qC ?_|refine qD ?_|refine qE ?_|refine qF ?_|refine qG ?_|refine qH ?_|refine qI ?_|refine qJ ?_|refine qK ?_|refine qL ?_|refine qM rfl ?_|refine qN ?_|refine qO ?_|refine qP ?_|refine qQ ?_|refine qR ?_|refine qS ?_|refine qT ?_|refine qU ?_|refine qV ?_|refine qW ?_|refine qX ?_|refine qY ?_|refine qZ ?_|refine pA ?_|refine pB ?_|refine pC ?_|(first|refine pD ?_|refine pE ?_|refine pF ?_|refine pT ?_|refine pG ?_|refine pH ?_|refine pI ?_|refine pJ ?_|refine pK ?_|refine pL ?_|refine pM ?_|refine pN ?_);simp (disch := first | with_reducible assumption | omega) only [go_sem, *, reduceCtorEq, ↓reduceIte, Nat.reduceLT, Nat.reduceBEq, Nat.reduceAdd, Nat.reduceSub, Nat.reduceMul, Nat.reduceDiv, Nat.reduceMod, Nat.reducePow, Nat.reduceEqDiff, Nat.reduceLeDiff, Int.reduceLT, Int.reduceLE, Int.reduceNeg, Int.reduceToNat, Int.reduceAdd, Int.reduceSub, Int.reduceMul, Int.reduceEq, Int.reduceNe, Int.reduceBEq, Int.reduceBNe, Int.reducePow])
  refine W_loop (fun q st => ∃ ρ i Hk a' o', st = ⟨L 166 ρ, [], Hk⟩ ∧ q = n - i ∧ i ≤ n ∧ ρ 0 = .c (.sl (some (la, y)) n c false) ∧ ρ 1 = .c (.int .i32 b) ∧ ρ 2 = .c (.int .i64 f) ∧ ρ 3 = .c (.int .i64 t) ∧ ρ 9 = .c (.bool true) ∧ ρ 10 = .c (.sl a' i i o') ∧ ρ 11 = .c (.int .i64 (i : Nat)) ∧ (∀ j, j < i → small (gi ws j)) ∧ Gr H1.length Hk 1 a' i o' (ints (sh b (ws.take i))) ∧ Xt H1 Hk) n ⟨_, 0, H1, none, false, rfl, by omega, by omega, (by simp (disch := first | with_reducible assumption | omega) only [go_sem, *, reduceCtorEq, ↓reduceIte, Nat.reduceLT, Nat.reduceBEq, Nat.reduceAdd, Nat.reduceSub, Nat.reduceMul, Nat.reduceDiv, Nat.reduceMod, Nat.reducePow, Nat.reduceEqDiff, Nat.reduceLeDiff, Int.reduceLT, Int.reduceLE, Int.reduceNeg, Int.reduceToNat, Int.reduceAdd, Int.reduceSub, Int.reduceMul, Int.reduceEq, Int.reduceNe, Int.reduceBEq, Int.reduceBNe, Int.reducePow]; first | done | rfl), (by simp (disch := first | with_reducible assumption | omega) only [go_sem, *, reduceCtorEq, ↓reduceIte, Nat.reduceLT, Nat.reduceBEq, Nat.reduceAdd, Nat.reduceSub, Nat.reduceMul, Nat.reduceDiv, Nat.reduceMod, Nat.reducePow, Nat.reduceEqDiff, Nat.reduceLeDiff, Int.reduceLT, Int.reduceLE, Int.reduceNeg, Int.reduceToNat, Int.reduceAdd, Int.reduceSub, Int.reduceMul, Int.reduceEq, Int.reduceNe, Int.reduceBEq, Int.reduceBNe, Int.reducePow]; first | done | rfl), (by simp (disch := first | with_reducible assumption | omega) only [go_sem, *, reduceCtorEq, ↓reduceIte, Nat.reduceLT, Nat.reduceBEq, Nat.reduceAdd, Nat.reduceSub, Nat.reduceMul, Nat.reduceDiv, Nat.reduceMod, Nat.reducePow, Nat.reduceEqDiff, Nat.reduceLeDiff, Int.reduceLT, Int.reduceLE, Int.reduceNeg, Int.reduceToNat, Int.reduceAdd, Int.reduceSub, Int.reduceMul, Int.reduceEq, Int.reduceNe, Int.reduceBEq, Int.reduceBNe, Int.reducePow]; first | done | rfl), (by simp (disch := first | with_reducible assumption | omega) only [go_sem, *, reduceCtorEq, ↓reduceIte, Nat.reduceLT, Nat.reduceBEq, Nat.reduceAdd, Nat.reduceSub, Nat.reduceMul, Nat.reduceDiv, Nat.reduceMod, Nat.reducePow, Nat.reduceEqDiff, Nat.reduceLeDiff, Int.reduceLT, Int.reduceLE, Int.reduceNeg, Int.reduceToNat, Int.reduceAdd, Int.reduceSub, Int.reduceMul, Int.reduceEq, Int.reduceNe, Int.reduceBEq, Int.reduceBNe, Int.reducePow]; first | done | rfl), (by simp (disch := first | with_reducible assumption | omega) only [go_sem, *, reduceCtorEq, ↓reduceIte, Nat.reduceLT, Nat.reduceBEq, Nat.reduceAdd, Nat.reduceSub, Nat.reduceMul, Nat.reduceDiv, Nat.reduceMod, Nat.reducePow, Nat.reduceEqDiff, Nat.reduceLeDiff, Int.reduceLT, Int.reduceLE, Int.reduceNeg, Int.reduceToNat, Int.reduceAdd, Int.reduceSub, Int.reduceMul, Int.reduceEq, Int.reduceNe, Int.reduceBEq, Int.reduceBNe, Int.reducePow]; first | done | rfl), (by simp (disch := first | with_reducible assumption | omega) only [go_sem, *, reduceCtorEq, ↓reduceIte, Nat.reduceLT, Nat.reduceBEq, Nat.reduceAdd, Nat.reduceSub, Nat.reduceMul, Nat.reduceDiv, Nat.reduceMod, Nat.reducePow, Nat.reduceEqDiff, Nat.reduceLeDiff, Int.reduceLT, Int.reduceLE, Int.reduceNeg, Int.reduceToNat, Int.reduceAdd, Int.reduceSub, Int.reduceMul, Int.reduceEq, Int.reduceNe, Int.reduceBEq, Int.reduceBNe, Int.reducePow]; first | done | rfl), (by simp (disch := first | with_reducible assumption | omega) only [go_sem, *, reduceCtorEq, ↓reduceIte, Nat.reduceLT, Nat.reduceBEq, Nat.reduceAdd, Nat.reduceSub, Nat.reduceMul, Nat.reduceDiv, Nat.reduceMod, Nat.reducePow, Nat.reduceEqDiff, Nat.reduceLeDiff, Int.reduceLT, Int.reduceLE, Int.reduceNeg, Int.reduceToNat, Int.reduceAdd, Int.reduceSub, Int.reduceMul, Int.reduceEq, Int.reduceNe, Int.reduceBEq, Int.reduceBNe, Int.reducePow]; first | done | rfl), fun j hj => by omega, Gr.none _ _ _, Nat.le_refl _, fun _ _ => rfl⟩ ?_
  rintro q st ⟨ρ, i, Hk, a', o', rfl, rfl, hi, e0, e1, e2, e3, e9, e10, e11, hsm, hg, lk, xk⟩
  unfold b_rotalaw22_VoteShifts_11
  have fin2 := fun (A : Prop) (h : _ → _ → _ → A) => h hsm hg xk
  by_cases hin : i < n
  · have hldi := fin1 _ fun h _ => Sl.gi h hl hin
    dsimp only at hldi
    rw [← xk la hla] at hldi
    have hxt : (i : Int) < (n : Int) := by omega
    have hvb := fin1 _ fun _ h => gi_i64 h i
    have hts : sh b (ws.take (i + 1)) = sh b (ws.take i) ++ [gi ws i + b] := by
      have e : gi ws i = ws[i] := by simp [gi, show i < ws.length by omega]
      rw [List.take_succ_eq_append_getElem (by omega), sh, List.map_append, e]; rfl
    clear hsm hg xk
    generalize hgv : gi ws i = v at *
    by_cases h1 : 1099511627776 < v
    · clear hts
      repeat (with_reducible first|(first|refine pO ?_|refine pP ?_|refine pQ ?_|refine pR (by omega) ?_);intros|refine pS ?_|first|refine qA ?_|refine qB ?_|refine qC ?_|refine qD ?_|refine qE ?_|refine qF ?_|refine qG ?_|refine qH ?_|refine qI ?_|refine qJ ?_|refine qK ?_|refine qL ?_|refine qM rfl ?_|refine qN ?_|refine qO ?_|refine qP ?_|refine qQ ?_|refine qR ?_|refine qS ?_|refine qT ?_|refine qU ?_|refine qV ?_|refine qW ?_|refine qX ?_|refine qY ?_|refine qZ ?_|refine pA ?_|refine pB ?_|refine pC ?_|(first|refine pD ?_|refine pE ?_|refine pF ?_|refine pT ?_|refine pG ?_|refine pH ?_|refine pI ?_|refine pJ ?_|refine pK ?_|refine pL ?_|refine pM ?_|refine pN ?_);simp (disch := first | with_reducible assumption | omega) only [go_sem, *, reduceCtorEq, ↓reduceIte, Nat.reduceLT, Nat.reduceBEq, Nat.reduceAdd, Nat.reduceSub, Nat.reduceMul, Nat.reduceDiv, Nat.reduceMod, Nat.reducePow, Nat.reduceEqDiff, Nat.reduceLeDiff, Int.reduceLT, Int.reduceLE, Int.reduceNeg, Int.reduceToNat, Int.reduceAdd, Int.reduceSub, Int.reduceMul, Int.reduceEq, Int.reduceNe, Int.reduceBEq, Int.reduceBNe, Int.reducePow])
      with_reducible rfl
    by_cases h2 : v < -1099511627776
    · clear hts
      repeat (with_reducible first|(first|refine pO ?_|refine pP ?_|refine pQ ?_|refine pR (by omega) ?_);intros|refine pS ?_|first|refine qA ?_|refine qB ?_|refine qC ?_|refine qD ?_|refine qE ?_|refine qF ?_|refine qG ?_|refine qH ?_|refine qI ?_|refine qJ ?_|refine qK ?_|refine qL ?_|refine qM rfl ?_|refine qN ?_|refine qO ?_|refine qP ?_|refine qQ ?_|refine qR ?_|refine qS ?_|refine qT ?_|refine qU ?_|refine qV ?_|refine qW ?_|refine qX ?_|refine qY ?_|refine qZ ?_|refine pA ?_|refine pB ?_|refine pC ?_|(first|refine pD ?_|refine pE ?_|refine pF ?_|refine pT ?_|refine pG ?_|refine pH ?_|refine pI ?_|refine pJ ?_|refine pK ?_|refine pL ?_|refine pM ?_|refine pN ?_);simp (disch := first | with_reducible assumption | omega) only [go_sem, *, reduceCtorEq, ↓reduceIte, Nat.reduceLT, Nat.reduceBEq, Nat.reduceAdd, Nat.reduceSub, Nat.reduceMul, Nat.reduceDiv, Nat.reduceMod, Nat.reducePow, Nat.reduceEqDiff, Nat.reduceLeDiff, Int.reduceLT, Int.reduceLE, Int.reduceNeg, Int.reduceToNat, Int.reduceAdd, Int.reduceSub, Int.reduceMul, Int.reduceEq, Int.reduceNe, Int.reduceBEq, Int.reduceBNe, Int.reducePow])
      with_reducible rfl
    have fin3 := fun (A : Prop) (h : _ → A) => h hts
    clear hts
    obtain ⟨hb1, hb2⟩ := hb
    repeat (with_reducible first|(first|refine pO ?_|refine pP ?_|refine pQ ?_|refine pR (by omega) ?_);intros|refine pS ?_|first|refine qA ?_|refine qB ?_|refine qC ?_|refine qD ?_|refine qE ?_|refine qF ?_|refine qG ?_|refine qH ?_|refine qI ?_|refine qJ ?_|refine qK ?_|refine qL ?_|refine qM rfl ?_|refine qN ?_|refine qO ?_|refine qP ?_|refine qQ ?_|refine qR ?_|refine qS ?_|refine qT ?_|refine qU ?_|refine qV ?_|refine qW ?_|refine qX ?_|refine qY ?_|refine qZ ?_|refine pA ?_|refine pB ?_|refine pC ?_|(first|refine pD ?_|refine pE ?_|refine pF ?_|refine pT ?_|refine pG ?_|refine pH ?_|refine pI ?_|refine pJ ?_|refine pK ?_|refine pL ?_|refine pM ?_|refine pN ?_);simp (disch := first | with_reducible assumption | omega) only [go_sem, *, reduceCtorEq, ↓reduceIte, Nat.reduceLT, Nat.reduceBEq, Nat.reduceAdd, Nat.reduceSub, Nat.reduceMul, Nat.reduceDiv, Nat.reduceMod, Nat.reducePow, Nat.reduceEqDiff, Nat.reduceLeDiff, Int.reduceLT, Int.reduceLE, Int.reduceNeg, Int.reduceToNat, Int.reduceAdd, Int.reduceSub, Int.reduceMul, Int.reduceEq, Int.reduceNe, Int.reduceBEq, Int.reduceBNe, Int.reducePow])
    rename_i b5 H5 p5 g5 x5
    refine fin2 _ fun hsm hg xk => ?_
    have hg5 := hg.keepX (H' := H5) fun b hb => x5 b (by omega)
    refine outM_appG (ys := [.int .i64 (v + b)]) hg5 (by omega) (Sl.blk g5 rfl) (by omega) (by omega) ?_
    intro a6 H6 hg6 l6 x6 y6 z6
    have hg7 : Gr H1.length H6 1 a6 (i + 1) true (ints (sh b (ws.take (i + 1)))) := by
      rw [fin3 _ fun h => h, ints_app]
      exact hg6
    have hsm' : ∀ j, j < i + 1 → small (gi ws j) := fun j hj => by
      by_cases e : j = i
      · subst e; rw [hgv]; exact ⟨by omega, by omega⟩
      · exact hsm j (by omega)
    have hx6 : Xt H1 H6 := ⟨by omega, fun d hd => by rw [x6 d hd, x5 d (by omega)]; exact xk d hd⟩
    have fin5 := fun (A : Prop) (h : _ → _ → _ → A) => h hsm' hg7 hx6
    clear fin2 hg hg5 hg6 hg7 x5 x6 y6 z6 g5 hldi hsm hsm' hx6 xk
    repeat (with_reducible first|(first|refine pO ?_|refine pP ?_|refine pQ ?_|refine pR (by omega) ?_);intros|refine pS ?_|first|refine qA ?_|refine qB ?_|refine qC ?_|refine qD ?_|refine qE ?_|refine qF ?_|refine qG ?_|refine qH ?_|refine qI ?_|refine qJ ?_|refine qK ?_|refine qL ?_|refine qM rfl ?_|refine qN ?_|refine qO ?_|refine qP ?_|refine qQ ?_|refine qR ?_|refine qS ?_|refine qT ?_|refine qU ?_|refine qV ?_|refine qW ?_|refine qX ?_|refine qY ?_|refine qZ ?_|refine pA ?_|refine pB ?_|refine pC ?_|(first|refine pD ?_|refine pE ?_|refine pF ?_|refine pT ?_|refine pG ?_|refine pH ?_|refine pI ?_|refine pJ ?_|refine pK ?_|refine pL ?_|refine pM ?_|refine pN ?_);simp (disch := first | with_reducible assumption | omega) only [go_sem, *, reduceCtorEq, ↓reduceIte, Nat.reduceLT, Nat.reduceBEq, Nat.reduceAdd, Nat.reduceSub, Nat.reduceMul, Nat.reduceDiv, Nat.reduceMod, Nat.reducePow, Nat.reduceEqDiff, Nat.reduceLeDiff, Int.reduceLT, Int.reduceLE, Int.reduceNeg, Int.reduceToNat, Int.reduceAdd, Int.reduceSub, Int.reduceMul, Int.reduceEq, Int.reduceNe, Int.reduceBEq, Int.reduceBNe, Int.reducePow])
    refine fin5 _ fun hsm' hg7 hx6 => ?_
    exact loopQ_n (n - (i + 1)) (by omega) ⟨_, i + 1, H6, a6, true, rfl, rfl, by omega, (by simp (disch := first | with_reducible assumption | omega) only [go_sem, *, reduceCtorEq, ↓reduceIte, Nat.reduceLT, Nat.reduceBEq, Nat.reduceAdd, Nat.reduceSub, Nat.reduceMul, Nat.reduceDiv, Nat.reduceMod, Nat.reducePow, Nat.reduceEqDiff, Nat.reduceLeDiff, Int.reduceLT, Int.reduceLE, Int.reduceNeg, Int.reduceToNat, Int.reduceAdd, Int.reduceSub, Int.reduceMul, Int.reduceEq, Int.reduceNe, Int.reduceBEq, Int.reduceBNe, Int.reducePow]; first | done | rfl), (by simp (disch := first | with_reducible assumption | omega) only [go_sem, *, reduceCtorEq, ↓reduceIte, Nat.reduceLT, Nat.reduceBEq, Nat.reduceAdd, Nat.reduceSub, Nat.reduceMul, Nat.reduceDiv, Nat.reduceMod, Nat.reducePow, Nat.reduceEqDiff, Nat.reduceLeDiff, Int.reduceLT, Int.reduceLE, Int.reduceNeg, Int.reduceToNat, Int.reduceAdd, Int.reduceSub, Int.reduceMul, Int.reduceEq, Int.reduceNe, Int.reduceBEq, Int.reduceBNe, Int.reducePow]; first | done | rfl), (by simp (disch := first | with_reducible assumption | omega) only [go_sem, *, reduceCtorEq, ↓reduceIte, Nat.reduceLT, Nat.reduceBEq, Nat.reduceAdd, Nat.reduceSub, Nat.reduceMul, Nat.reduceDiv, Nat.reduceMod, Nat.reducePow, Nat.reduceEqDiff, Nat.reduceLeDiff, Int.reduceLT, Int.reduceLE, Int.reduceNeg, Int.reduceToNat, Int.reduceAdd, Int.reduceSub, Int.reduceMul, Int.reduceEq, Int.reduceNe, Int.reduceBEq, Int.reduceBNe, Int.reducePow]; first | done | rfl), (by simp (disch := first | with_reducible assumption | omega) only [go_sem, *, reduceCtorEq, ↓reduceIte, Nat.reduceLT, Nat.reduceBEq, Nat.reduceAdd, Nat.reduceSub, Nat.reduceMul, Nat.reduceDiv, Nat.reduceMod, Nat.reducePow, Nat.reduceEqDiff, Nat.reduceLeDiff, Int.reduceLT, Int.reduceLE, Int.reduceNeg, Int.reduceToNat, Int.reduceAdd, Int.reduceSub, Int.reduceMul, Int.reduceEq, Int.reduceNe, Int.reduceBEq, Int.reduceBNe, Int.reducePow]; first | done | rfl), (by simp (disch := first | with_reducible assumption | omega) only [go_sem, *, reduceCtorEq, ↓reduceIte, Nat.reduceLT, Nat.reduceBEq, Nat.reduceAdd, Nat.reduceSub, Nat.reduceMul, Nat.reduceDiv, Nat.reduceMod, Nat.reducePow, Nat.reduceEqDiff, Nat.reduceLeDiff, Int.reduceLT, Int.reduceLE, Int.reduceNeg, Int.reduceToNat, Int.reduceAdd, Int.reduceSub, Int.reduceMul, Int.reduceEq, Int.reduceNe, Int.reduceBEq, Int.reduceBNe, Int.reducePow]; first | done | rfl), (by simp (disch := first | with_reducible assumption | omega) only [go_sem, *, reduceCtorEq, ↓reduceIte, Nat.reduceLT, Nat.reduceBEq, Nat.reduceAdd, Nat.reduceSub, Nat.reduceMul, Nat.reduceDiv, Nat.reduceMod, Nat.reducePow, Nat.reduceEqDiff, Nat.reduceLeDiff, Int.reduceLT, Int.reduceLE, Int.reduceNeg, Int.reduceToNat, Int.reduceAdd, Int.reduceSub, Int.reduceMul, Int.reduceEq, Int.reduceNe, Int.reduceBEq, Int.reduceBNe, Int.reducePow]; first | done | rfl), (by simp (disch := first | with_reducible assumption | omega) only [go_sem, *, reduceCtorEq, ↓reduceIte, Nat.reduceLT, Nat.reduceBEq, Nat.reduceAdd, Nat.reduceSub, Nat.reduceMul, Nat.reduceDiv, Nat.reduceMod, Nat.reducePow, Nat.reduceEqDiff, Nat.reduceLeDiff, Int.reduceLT, Int.reduceLE, Int.reduceNeg, Int.reduceToNat, Int.reduceAdd, Int.reduceSub, Int.reduceMul, Int.reduceEq, Int.reduceNe, Int.reduceBEq, Int.reduceBNe, Int.reducePow]; first | done | rfl), hsm', hg7, hx6⟩
  · obtain rfl : i = n := by omega
    have hxt : ¬ (i : Int) < (i : Int) := by omega
    have htk : ws.take i = ws := by rw [← hl, List.take_length]
    rw [htk] at hg
    clear htk fin2
    have hws : ∀ x ∈ ws, small x := fun x hx => by
      obtain ⟨j, hj, rfl⟩ := List.mem_iff_getElem.1 hx
      have e : gi ws j = ws[j] := by simp [gi, hj]
      rw [← e]; exact hsm j (by omega)
    have hwm : ∀ x ∈ sh b ws, i64 x := fun x hx => by
      obtain ⟨y, hy, rfl⟩ := List.mem_map.1 hx
      have := hws y hy
      unfold small at this
      exact ⟨by omega, by omega⟩
    have hlm : (sh b ws).length = i := by simp [hl]
    have hne : ws ≠ [] := fun e => by rw [e] at hl; simp at hl; omega
    have hsa : Sl Hk 1 (some (la, y)) i (ints ws) := fin1 _ fun h _ => h.to xk
    have hsb : Sl Hk 1 a' i (ints (sh b ws)) := hg.sl
    have hw := fin1 _ fun _ h => h
    have keep : ∀ Hx, Xt Hk Hx → Sl Hx 1 (some (la, y)) i (ints ws) ∧ Sl Hx 1 a' i (ints (sh b ws)) := fun Hx hx => ⟨hsa.to hx.2, hsb.to hx.2⟩
    have hn : i ≤ 100000 := by omega
    have cD : ∀ Hx, Xt Hk Hx → _ := fun Hx hx => s_Median (c := c) (o := false) hn hl (keep Hx hx).1
    have cD' : ∀ Hx, Xt Hk Hx → _ := fun Hx hx => s_Median (c := i) (o := o') hn hlm (keep Hx hx).2
    have cM : ∀ Hx, Xt Hk Hx → _ := fun Hx hx => s_Middle (c := c) (o := false) (f := f) hn hl (keep Hx hx).1 hw
    have cM' : ∀ Hx, Xt Hk Hx → _ := fun Hx hx => s_Middle (c := i) (o := o') (f := f) hn hlm (keep Hx hx).2 hwm
    have cP : ∀ Hx, Xt Hk Hx → _ := fun Hx hx => s_Plural (c := c) (o := false) hn hl (keep Hx hx).1
    have cP' : ∀ Hx, Xt Hk Hx → _ := fun Hx hx => s_Plural (c := i) (o := o') hn hlm (keep Hx hx).2
    have cA : ∀ Hx, Xt Hk Hx → _ := fun Hx hx => s_Agree (t := t) (c := c) (o := false) hn hl (keep Hx hx).1 hw ht
    have cA' : ∀ Hx, Xt Hk Hx → _ := fun Hx hx => s_Agree (t := t) (c := i) (o := o') hn hlm (keep Hx hx).2 hwm ht
    have hag : (if t < 0 then [] else ag t (sh b ws) (runsL (sorted (sh b ws)))) = (if t < 0 then [] else ag t ws (runsL (sorted ws))) := by
      split
      · rfl
      · exact ag_sh ws (by omega)
    have hpb : (if t < 0 then [] else ag t ws (runsL (sorted ws))).length ≤ 100000 := by
      split
      · simp
      · rw [← ra_ag (by omega)]
        have := ra_le t ws ws.length
        omega
    rw [hag] at cA'
    rw [pl_sh hne] at cP'
    rw [sorted_sh, gi_sh (by rw [sorted_length, hl]; omega)] at cD'
    have hss : ∀ x ∈ sorted ws, small x := fun x hx => hws x ((sorted_perm ws).mem_iff.1 hx)
    have hsg := gi_small hss ((i - 1) / 2)
    have hps : small (pl (runsL (sorted ws))).1 := by
      rcases pl_PS ws with ⟨_, h, _⟩ | ⟨h, _⟩
      · rw [h]; simp [small]
      · exact hws _ h
    obtain ⟨x, z, w, ht1, hx, hz, ht2⟩ := trim_sh (b := b) (f := f) hl hws
    rw [ht1] at cM
    dsimp only at cM cP'
    obtain ⟨m1, m2, hm1, hm2⟩ : ∃ m1 m2, (m1 = mid x z ∧ m2 = w) ∧ ((w = true ∧ -1099511627777 ≤ m1 ∧ m1 ≤ 1099511627777 ∧ mid (trimV (sh b ws) i f).1 (trimV (sh b ws) i f).2.1 = m1 + b ∧ (trimV (sh b ws) i f).2.2 = true) ∨ (w = false ∧ m1 = 0 ∧ mid (trimV (sh b ws) i f).1 (trimV (sh b ws) i f).2.1 = 0 ∧ (trimV (sh b ws) i f).2.2 = false)) := by
      refine ⟨_, _, ⟨rfl, rfl⟩, ?_⟩
      rcases ht2 with ⟨rfl, e⟩ | ⟨rfl, rfl, rfl, e⟩
      · left
        rw [e]
        refine ⟨rfl, ?_, ?_, mid_sh x z b, rfl⟩
        · unfold mid; have := bb_le x z; unfold small at hx hz; omega
        · unfold mid; have := bb_le x z; unfold small at hx hz; omega
      · right
        rw [e]
        exact ⟨rfl, rfl, rfl, rfl⟩
    obtain ⟨rfl, rfl⟩ := hm1
    clear ht1 ht2 hx hz
    generalize mid (trimV (sh b ws) i f).1 (trimV (sh b ws) i f).2.1 = m3 at *
    generalize (trimV (sh b ws) i f).2.2 = m4 at *
    generalize mid x z = m1 at *
    generalize pl (runsL (sorted ws)) = s at *
    obtain ⟨pv, pn⟩ := s
    dsimp only at *
    generalize gi (sorted ws) ((i - 1) / 2) = g at *
    generalize (if t < 0 then [] else ag t ws (runsL (sorted ws))) = p at *
    obtain ⟨hg1, hg2⟩ := hsg
    obtain ⟨hp1, hp2⟩ := hps
    obtain ⟨hb1, hb2⟩ := hb
    have x0 : Xt Hk Hk := ⟨Nat.le_refl _, fun _ _ => rfl⟩
    have tr : ∀ A B, Xt Hk A → Xt A B → Xt Hk B := fun A B h1 h2 => ⟨Nat.le_trans h1.1 h2.1, fun d hd => by rw [h2.2 d (Nat.lt_of_lt_of_le hd h1.1)]; exact h1.2 d hd⟩
    have fin3 := fun (A : Prop) (h : _ → _ → _ → _ → _ → _ → _ → _ → _ → _ → A) => h cD cD' cM cM' cP cP' cA cA' tr hm2
    have fin4 := fun (A : Prop) (h : _ → A) => h x0
    clear cD cD' cM cM' cP cP' cA cA' hag hss hm2 x0 tr keep hsa hsb hw hwm hws hsm hg xk hlm hl hne fin1 ht
    repeat (with_reducible first|(first|refine pO ?_|refine pP ?_|refine pQ ?_|refine pR (by omega) ?_);intros|refine pS ?_|first|refine qA ?_|refine qB ?_|refine qC ?_|refine qD ?_|refine qE ?_|refine qF ?_|refine qG ?_|refine qH ?_|refine qI ?_|refine qJ ?_|refine qK ?_|refine qL ?_|refine qM rfl ?_|refine qN ?_|refine qO ?_|refine qP ?_|refine qQ ?_|refine qR ?_|refine qS ?_|refine qT ?_|refine qU ?_|refine qV ?_|refine qW ?_|refine qX ?_|refine qY ?_|refine qZ ?_|refine pA ?_|refine pB ?_|refine pC ?_|(first|refine pD ?_|refine pE ?_|refine pF ?_|refine pT ?_|refine pG ?_|refine pH ?_|refine pI ?_|refine pJ ?_|refine pK ?_|refine pL ?_|refine pM ?_|refine pN ?_);simp (disch := first | with_reducible assumption | omega) only [go_sem, *, reduceCtorEq, ↓reduceIte, Nat.reduceLT, Nat.reduceBEq, Nat.reduceAdd, Nat.reduceSub, Nat.reduceMul, Nat.reduceDiv, Nat.reduceMod, Nat.reducePow, Nat.reduceEqDiff, Nat.reduceLeDiff, Int.reduceLT, Int.reduceLE, Int.reduceNeg, Int.reduceToNat, Int.reduceAdd, Int.reduceSub, Int.reduceMul, Int.reduceEq, Int.reduceNe, Int.reduceBEq, Int.reduceBNe, Int.reducePow])
    refine fin3 _ fun cD cD' cM cM' cP cP' cA cA' tr hm2 => fin4 _ fun xt => ?_
    refine outM_call (cD _ xt) ?_
    rintro v H3 ⟨hv, x3⟩
    rw [if_neg h0] at hv
    subst hv
    have fin5 := fun (A : Prop) (h : _ → A) => h (tr _ _ xt x3)
    clear cD cD' cM cM' cP cP' cA cA' tr hm2 xt x3 fin4
    repeat (with_reducible first|(first|refine pO ?_|refine pP ?_|refine pQ ?_|refine pR (by omega) ?_);intros|refine pS ?_|first|refine qA ?_|refine qB ?_|refine qC ?_|refine qD ?_|refine qE ?_|refine qF ?_|refine qG ?_|refine qH ?_|refine qI ?_|refine qJ ?_|refine qK ?_|refine qL ?_|refine qM rfl ?_|refine qN ?_|refine qO ?_|refine qP ?_|refine qQ ?_|refine qR ?_|refine qS ?_|refine qT ?_|refine qU ?_|refine qV ?_|refine qW ?_|refine qX ?_|refine qY ?_|refine qZ ?_|refine pA ?_|refine pB ?_|refine pC ?_|(first|refine pD ?_|refine pE ?_|refine pF ?_|refine pT ?_|refine pG ?_|refine pH ?_|refine pI ?_|refine pJ ?_|refine pK ?_|refine pL ?_|refine pM ?_|refine pN ?_);simp (disch := first | with_reducible assumption | omega) only [go_sem, *, reduceCtorEq, ↓reduceIte, Nat.reduceLT, Nat.reduceBEq, Nat.reduceAdd, Nat.reduceSub, Nat.reduceMul, Nat.reduceDiv, Nat.reduceMod, Nat.reducePow, Nat.reduceEqDiff, Nat.reduceLeDiff, Int.reduceLT, Int.reduceLE, Int.reduceNeg, Int.reduceToNat, Int.reduceAdd, Int.reduceSub, Int.reduceMul, Int.reduceEq, Int.reduceNe, Int.reduceBEq, Int.reduceBNe, Int.reducePow])
    refine fin3 _ fun cD cD' cM cM' cP cP' cA cA' tr hm2 => fin5 _ fun xt => ?_
    refine outM_call (cD' _ xt) ?_
    rintro v H4 ⟨hv, x3⟩
    rw [if_neg h0] at hv
    subst hv
    have fin6 := fun (A : Prop) (h : _ → A) => h (tr _ _ xt x3)
    clear cD cD' cM cM' cP cP' cA cA' tr hm2 xt x3 fin5
    repeat (with_reducible first|(first|refine pO ?_|refine pP ?_|refine pQ ?_|refine pR (by omega) ?_);intros|refine pS ?_|first|refine qA ?_|refine qB ?_|refine qC ?_|refine qD ?_|refine qE ?_|refine qF ?_|refine qG ?_|refine qH ?_|refine qI ?_|refine qJ ?_|refine qK ?_|refine qL ?_|refine qM rfl ?_|refine qN ?_|refine qO ?_|refine qP ?_|refine qQ ?_|refine qR ?_|refine qS ?_|refine qT ?_|refine qU ?_|refine qV ?_|refine qW ?_|refine qX ?_|refine qY ?_|refine qZ ?_|refine pA ?_|refine pB ?_|refine pC ?_|(first|refine pD ?_|refine pE ?_|refine pF ?_|refine pT ?_|refine pG ?_|refine pH ?_|refine pI ?_|refine pJ ?_|refine pK ?_|refine pL ?_|refine pM ?_|refine pN ?_);simp (disch := first | with_reducible assumption | omega) only [go_sem, *, reduceCtorEq, ↓reduceIte, Nat.reduceLT, Nat.reduceBEq, Nat.reduceAdd, Nat.reduceSub, Nat.reduceMul, Nat.reduceDiv, Nat.reduceMod, Nat.reducePow, Nat.reduceEqDiff, Nat.reduceLeDiff, Int.reduceLT, Int.reduceLE, Int.reduceNeg, Int.reduceToNat, Int.reduceAdd, Int.reduceSub, Int.reduceMul, Int.reduceEq, Int.reduceNe, Int.reduceBEq, Int.reduceBNe, Int.reducePow])
    refine fin3 _ fun cD cD' cM cM' cP cP' cA cA' tr hm2 => fin6 _ fun xt => ?_
    refine outM_call (cM _ xt) ?_
    rintro _ H5 ⟨rfl, x3⟩
    have fin7 := fun (A : Prop) (h : _ → A) => h (tr _ _ xt x3)
    clear cD cD' cM cM' cP cP' cA cA' tr hm2 xt x3 fin6
    repeat (with_reducible first|(first|refine pO ?_|refine pP ?_|refine pQ ?_|refine pR (by omega) ?_);intros|refine pS ?_|first|refine qA ?_|refine qB ?_|refine qC ?_|refine qD ?_|refine qE ?_|refine qF ?_|refine qG ?_|refine qH ?_|refine qI ?_|refine qJ ?_|refine qK ?_|refine qL ?_|refine qM rfl ?_|refine qN ?_|refine qO ?_|refine qP ?_|refine qQ ?_|refine qR ?_|refine qS ?_|refine qT ?_|refine qU ?_|refine qV ?_|refine qW ?_|refine qX ?_|refine qY ?_|refine qZ ?_|refine pA ?_|refine pB ?_|refine pC ?_|(first|refine pD ?_|refine pE ?_|refine pF ?_|refine pT ?_|refine pG ?_|refine pH ?_|refine pI ?_|refine pJ ?_|refine pK ?_|refine pL ?_|refine pM ?_|refine pN ?_);simp (disch := first | with_reducible assumption | omega) only [go_sem, *, reduceCtorEq, ↓reduceIte, Nat.reduceLT, Nat.reduceBEq, Nat.reduceAdd, Nat.reduceSub, Nat.reduceMul, Nat.reduceDiv, Nat.reduceMod, Nat.reducePow, Nat.reduceEqDiff, Nat.reduceLeDiff, Int.reduceLT, Int.reduceLE, Int.reduceNeg, Int.reduceToNat, Int.reduceAdd, Int.reduceSub, Int.reduceMul, Int.reduceEq, Int.reduceNe, Int.reduceBEq, Int.reduceBNe, Int.reducePow])
    refine fin3 _ fun cD cD' cM cM' cP cP' cA cA' tr hm2 => fin7 _ fun xt => ?_
    refine outM_call (cM' _ xt) ?_
    rintro _ H6 ⟨rfl, x3⟩
    have fin8 := fun (A : Prop) (h : _ → A) => h (tr _ _ xt x3)
    clear cD cD' cM cM' cP cP' cA cA' tr hm2 xt x3 fin7
    repeat (with_reducible first|(first|refine pO ?_|refine pP ?_|refine pQ ?_|refine pR (by omega) ?_);intros|refine pS ?_|first|refine qA ?_|refine qB ?_|refine qC ?_|refine qD ?_|refine qE ?_|refine qF ?_|refine qG ?_|refine qH ?_|refine qI ?_|refine qJ ?_|refine qK ?_|refine qL ?_|refine qM rfl ?_|refine qN ?_|refine qO ?_|refine qP ?_|refine qQ ?_|refine qR ?_|refine qS ?_|refine qT ?_|refine qU ?_|refine qV ?_|refine qW ?_|refine qX ?_|refine qY ?_|refine qZ ?_|refine pA ?_|refine pB ?_|refine pC ?_|(first|refine pD ?_|refine pE ?_|refine pF ?_|refine pT ?_|refine pG ?_|refine pH ?_|refine pI ?_|refine pJ ?_|refine pK ?_|refine pL ?_|refine pM ?_|refine pN ?_);simp (disch := first | with_reducible assumption | omega) only [go_sem, *, reduceCtorEq, ↓reduceIte, Nat.reduceLT, Nat.reduceBEq, Nat.reduceAdd, Nat.reduceSub, Nat.reduceMul, Nat.reduceDiv, Nat.reduceMod, Nat.reducePow, Nat.reduceEqDiff, Nat.reduceLeDiff, Int.reduceLT, Int.reduceLE, Int.reduceNeg, Int.reduceToNat, Int.reduceAdd, Int.reduceSub, Int.reduceMul, Int.reduceEq, Int.reduceNe, Int.reduceBEq, Int.reduceBNe, Int.reducePow])
    refine fin3 _ fun cD cD' cM cM' cP cP' cA cA' tr hm2 => fin8 _ fun xt => ?_
    refine outM_call (cP _ xt) ?_
    rintro _ H7 ⟨rfl, x3⟩
    have fin9 := fun (A : Prop) (h : _ → A) => h (tr _ _ xt x3)
    clear cD cD' cM cM' cP cP' cA cA' tr hm2 xt x3 fin8
    repeat (with_reducible first|(first|refine pO ?_|refine pP ?_|refine pQ ?_|refine pR (by omega) ?_);intros|refine pS ?_|first|refine qA ?_|refine qB ?_|refine qC ?_|refine qD ?_|refine qE ?_|refine qF ?_|refine qG ?_|refine qH ?_|refine qI ?_|refine qJ ?_|refine qK ?_|refine qL ?_|refine qM rfl ?_|refine qN ?_|refine qO ?_|refine qP ?_|refine qQ ?_|refine qR ?_|refine qS ?_|refine qT ?_|refine qU ?_|refine qV ?_|refine qW ?_|refine qX ?_|refine qY ?_|refine qZ ?_|refine pA ?_|refine pB ?_|refine pC ?_|(first|refine pD ?_|refine pE ?_|refine pF ?_|refine pT ?_|refine pG ?_|refine pH ?_|refine pI ?_|refine pJ ?_|refine pK ?_|refine pL ?_|refine pM ?_|refine pN ?_);simp (disch := first | with_reducible assumption | omega) only [go_sem, *, reduceCtorEq, ↓reduceIte, Nat.reduceLT, Nat.reduceBEq, Nat.reduceAdd, Nat.reduceSub, Nat.reduceMul, Nat.reduceDiv, Nat.reduceMod, Nat.reducePow, Nat.reduceEqDiff, Nat.reduceLeDiff, Int.reduceLT, Int.reduceLE, Int.reduceNeg, Int.reduceToNat, Int.reduceAdd, Int.reduceSub, Int.reduceMul, Int.reduceEq, Int.reduceNe, Int.reduceBEq, Int.reduceBNe, Int.reducePow])
    refine fin3 _ fun cD cD' cM cM' cP cP' cA cA' tr hm2 => fin9 _ fun xt => ?_
    refine outM_call (cP' _ xt) ?_
    rintro _ H8 ⟨rfl, x3⟩
    have fina := fun (A : Prop) (h : _ → A) => h (tr _ _ xt x3)
    clear cD cD' cM cM' cP cP' cA cA' tr hm2 xt x3 fin9
    repeat (with_reducible first|(first|refine pO ?_|refine pP ?_|refine pQ ?_|refine pR (by omega) ?_);intros|refine pS ?_|first|refine qA ?_|refine qB ?_|refine qC ?_|refine qD ?_|refine qE ?_|refine qF ?_|refine qG ?_|refine qH ?_|refine qI ?_|refine qJ ?_|refine qK ?_|refine qL ?_|refine qM rfl ?_|refine qN ?_|refine qO ?_|refine qP ?_|refine qQ ?_|refine qR ?_|refine qS ?_|refine qT ?_|refine qU ?_|refine qV ?_|refine qW ?_|refine qX ?_|refine qY ?_|refine qZ ?_|refine pA ?_|refine pB ?_|refine pC ?_|(first|refine pD ?_|refine pE ?_|refine pF ?_|refine pT ?_|refine pG ?_|refine pH ?_|refine pI ?_|refine pJ ?_|refine pK ?_|refine pL ?_|refine pM ?_|refine pN ?_);simp (disch := first | with_reducible assumption | omega) only [go_sem, *, reduceCtorEq, ↓reduceIte, Nat.reduceLT, Nat.reduceBEq, Nat.reduceAdd, Nat.reduceSub, Nat.reduceMul, Nat.reduceDiv, Nat.reduceMod, Nat.reducePow, Nat.reduceEqDiff, Nat.reduceLeDiff, Int.reduceLT, Int.reduceLE, Int.reduceNeg, Int.reduceToNat, Int.reduceAdd, Int.reduceSub, Int.reduceMul, Int.reduceEq, Int.reduceNe, Int.reduceBEq, Int.reduceBNe, Int.reducePow])
    refine fin3 _ fun cD cD' cM cM' cP cP' cA cA' tr hm2 => fina _ fun xt => ?_
    refine outM_call (cA _ xt) ?_
    rintro _ H9 ⟨⟨a9, o9, rfl, hg9⟩, x3⟩
    have finb := fun (A : Prop) (h : _ → _ → A) => h (tr _ _ xt x3) hg9.sl
    clear cD cD' cM cM' cP cP' cA cA' tr hm2 xt x3 hg9 fina
    repeat (with_reducible first|(first|refine pO ?_|refine pP ?_|refine pQ ?_|refine pR (by omega) ?_);intros|refine pS ?_|first|refine qA ?_|refine qB ?_|refine qC ?_|refine qD ?_|refine qE ?_|refine qF ?_|refine qG ?_|refine qH ?_|refine qI ?_|refine qJ ?_|refine qK ?_|refine qL ?_|refine qM rfl ?_|refine qN ?_|refine qO ?_|refine qP ?_|refine qQ ?_|refine qR ?_|refine qS ?_|refine qT ?_|refine qU ?_|refine qV ?_|refine qW ?_|refine qX ?_|refine qY ?_|refine qZ ?_|refine pA ?_|refine pB ?_|refine pC ?_|(first|refine pD ?_|refine pE ?_|refine pF ?_|refine pT ?_|refine pG ?_|refine pH ?_|refine pI ?_|refine pJ ?_|refine pK ?_|refine pL ?_|refine pM ?_|refine pN ?_);simp (disch := first | with_reducible assumption | omega) only [go_sem, *, reduceCtorEq, ↓reduceIte, Nat.reduceLT, Nat.reduceBEq, Nat.reduceAdd, Nat.reduceSub, Nat.reduceMul, Nat.reduceDiv, Nat.reduceMod, Nat.reducePow, Nat.reduceEqDiff, Nat.reduceLeDiff, Int.reduceLT, Int.reduceLE, Int.reduceNeg, Int.reduceToNat, Int.reduceAdd, Int.reduceSub, Int.reduceMul, Int.reduceEq, Int.reduceNe, Int.reduceBEq, Int.reduceBNe, Int.reducePow])
    refine fin3 _ fun cD cD' cM cM' cP cP' cA cA' tr hm2 => finb _ fun xt hs9 => ?_
    refine outM_call (cA' _ xt) ?_
    rintro _ Ha ⟨⟨aa, oa, rfl, hga⟩, x3⟩
    have finc := fun (A : Prop) (h : _ → _ → A) => h (hs9.to x3.2) hga.sl
    clear cD cD' cM cM' cP cP' cA cA' tr xt x3 hga hs9 finb fin3
    have key : ∀ ρ : Env, ρ 9 = .c (.bool true) → ρ 24 = .c (.sl a9 p.length p.length o9) → ρ 25 = .c (.sl aa p.length p.length oa) → ρ 26 = .c (.int .i64 0) →
        W F none (.loop b_rotalaw22_VoteShifts_27) ⟨L 166 ρ, [], Ha⟩ (blockQ 2 (thenQ F none (.seq (.ops o_rotalaw22_VoteShifts_28) .ret) (callQ [(8, none)] fun v _ => v = .c (.bool true)))) := by
      intro ρ e9 e24 e25 e26
      clear hm2
      refine W_loop (fun q st => ∃ ρ j, st = ⟨L 166 ρ, [], Ha⟩ ∧ q = p.length - j ∧ j ≤ p.length ∧ ρ 9 = .c (.bool true) ∧ ρ 24 = .c (.sl a9 p.length p.length o9) ∧ ρ 25 = .c (.sl aa p.length p.length oa) ∧ ρ 26 = .c (.int .i64 (j : Nat))) p.length ⟨_, 0, rfl, by omega, by omega, (by simp (disch := first | with_reducible assumption | omega) only [go_sem, *, reduceCtorEq, ↓reduceIte, Nat.reduceLT, Nat.reduceBEq, Nat.reduceAdd, Nat.reduceSub, Nat.reduceMul, Nat.reduceDiv, Nat.reduceMod, Nat.reducePow, Nat.reduceEqDiff, Nat.reduceLeDiff, Int.reduceLT, Int.reduceLE, Int.reduceNeg, Int.reduceToNat, Int.reduceAdd, Int.reduceSub, Int.reduceMul, Int.reduceEq, Int.reduceNe, Int.reduceBEq, Int.reduceBNe, Int.reducePow]; first | done | rfl), (by simp (disch := first | with_reducible assumption | omega) only [go_sem, *, reduceCtorEq, ↓reduceIte, Nat.reduceLT, Nat.reduceBEq, Nat.reduceAdd, Nat.reduceSub, Nat.reduceMul, Nat.reduceDiv, Nat.reduceMod, Nat.reducePow, Nat.reduceEqDiff, Nat.reduceLeDiff, Int.reduceLT, Int.reduceLE, Int.reduceNeg, Int.reduceToNat, Int.reduceAdd, Int.reduceSub, Int.reduceMul, Int.reduceEq, Int.reduceNe, Int.reduceBEq, Int.reduceBNe, Int.reducePow]; first | done | rfl), (by simp (disch := first | with_reducible assumption | omega) only [go_sem, *, reduceCtorEq, ↓reduceIte, Nat.reduceLT, Nat.reduceBEq, Nat.reduceAdd, Nat.reduceSub, Nat.reduceMul, Nat.reduceDiv, Nat.reduceMod, Nat.reducePow, Nat.reduceEqDiff, Nat.reduceLeDiff, Int.reduceLT, Int.reduceLE, Int.reduceNeg, Int.reduceToNat, Int.reduceAdd, Int.reduceSub, Int.reduceMul, Int.reduceEq, Int.reduceNe, Int.reduceBEq, Int.reduceBNe, Int.reducePow]; first | done | rfl), (by simp (disch := first | with_reducible assumption | omega) only [go_sem, *, reduceCtorEq, ↓reduceIte, Nat.reduceLT, Nat.reduceBEq, Nat.reduceAdd, Nat.reduceSub, Nat.reduceMul, Nat.reduceDiv, Nat.reduceMod, Nat.reducePow, Nat.reduceEqDiff, Nat.reduceLeDiff, Int.reduceLT, Int.reduceLE, Int.reduceNeg, Int.reduceToNat, Int.reduceAdd, Int.reduceSub, Int.reduceMul, Int.reduceEq, Int.reduceNe, Int.reduceBEq, Int.reduceBNe, Int.reducePow]; first | done | rfl)⟩ ?_
      clear e9 e24 e25 e26
      rintro q st ⟨ρ, j, rfl, rfl, hj, e9, e24, e25, e26⟩
      unfold b_rotalaw22_VoteShifts_27
      by_cases hjp : j < p.length
      · refine finc _ fun hs9 hsa => ?_
        obtain ⟨⟨l9, y9⟩, rfl⟩ := hs9.is_some (by omega)
        obtain ⟨⟨l8, y8⟩, rfl⟩ := hsa.is_some (by omega)
        have hldA := Sl.gi hs9 (natI_len p) hjp
        have hldB := Sl.gi hsa (natI_len p) hjp
        dsimp only at hldA hldB
        have hxt : (j : Int) < (p.length : Int) := by omega
        clear hs9 hsa finc
        generalize gi (natI p) j = u at *
        repeat (with_reducible first|(first|refine pO ?_|refine pP ?_|refine pQ ?_|refine pR (by omega) ?_);intros|refine pS ?_|first|refine qA ?_|refine qB ?_|refine qC ?_|refine qD ?_|refine qE ?_|refine qF ?_|refine qG ?_|refine qH ?_|refine qI ?_|refine qJ ?_|refine qK ?_|refine qL ?_|refine qM rfl ?_|refine qN ?_|refine qO ?_|refine qP ?_|refine qQ ?_|refine qR ?_|refine qS ?_|refine qT ?_|refine qU ?_|refine qV ?_|refine qW ?_|refine qX ?_|refine qY ?_|refine qZ ?_|refine pA ?_|refine pB ?_|refine pC ?_|(first|refine pD ?_|refine pE ?_|refine pF ?_|refine pT ?_|refine pG ?_|refine pH ?_|refine pI ?_|refine pJ ?_|refine pK ?_|refine pL ?_|refine pM ?_|refine pN ?_);simp (disch := first | with_reducible assumption | omega) only [go_sem, *, reduceCtorEq, ↓reduceIte, Nat.reduceLT, Nat.reduceBEq, Nat.reduceAdd, Nat.reduceSub, Nat.reduceMul, Nat.reduceDiv, Nat.reduceMod, Nat.reducePow, Nat.reduceEqDiff, Nat.reduceLeDiff, Int.reduceLT, Int.reduceLE, Int.reduceNeg, Int.reduceToNat, Int.reduceAdd, Int.reduceSub, Int.reduceMul, Int.reduceEq, Int.reduceNe, Int.reduceBEq, Int.reduceBNe, Int.reducePow])
        exact loopQ_n (p.length - (j + 1)) (by omega) ⟨_, j + 1, rfl, rfl, by omega, (by simp (disch := first | with_reducible assumption | omega) only [go_sem, *, reduceCtorEq, ↓reduceIte, Nat.reduceLT, Nat.reduceBEq, Nat.reduceAdd, Nat.reduceSub, Nat.reduceMul, Nat.reduceDiv, Nat.reduceMod, Nat.reducePow, Nat.reduceEqDiff, Nat.reduceLeDiff, Int.reduceLT, Int.reduceLE, Int.reduceNeg, Int.reduceToNat, Int.reduceAdd, Int.reduceSub, Int.reduceMul, Int.reduceEq, Int.reduceNe, Int.reduceBEq, Int.reduceBNe, Int.reducePow]; first | done | rfl), (by simp (disch := first | with_reducible assumption | omega) only [go_sem, *, reduceCtorEq, ↓reduceIte, Nat.reduceLT, Nat.reduceBEq, Nat.reduceAdd, Nat.reduceSub, Nat.reduceMul, Nat.reduceDiv, Nat.reduceMod, Nat.reducePow, Nat.reduceEqDiff, Nat.reduceLeDiff, Int.reduceLT, Int.reduceLE, Int.reduceNeg, Int.reduceToNat, Int.reduceAdd, Int.reduceSub, Int.reduceMul, Int.reduceEq, Int.reduceNe, Int.reduceBEq, Int.reduceBNe, Int.reducePow]; first | done | rfl), (by simp (disch := first | with_reducible assumption | omega) only [go_sem, *, reduceCtorEq, ↓reduceIte, Nat.reduceLT, Nat.reduceBEq, Nat.reduceAdd, Nat.reduceSub, Nat.reduceMul, Nat.reduceDiv, Nat.reduceMod, Nat.reducePow, Nat.reduceEqDiff, Nat.reduceLeDiff, Int.reduceLT, Int.reduceLE, Int.reduceNeg, Int.reduceToNat, Int.reduceAdd, Int.reduceSub, Int.reduceMul, Int.reduceEq, Int.reduceNe, Int.reduceBEq, Int.reduceBNe, Int.reducePow]; first | done | rfl), (by simp (disch := first | with_reducible assumption | omega) only [go_sem, *, reduceCtorEq, ↓reduceIte, Nat.reduceLT, Nat.reduceBEq, Nat.reduceAdd, Nat.reduceSub, Nat.reduceMul, Nat.reduceDiv, Nat.reduceMod, Nat.reducePow, Nat.reduceEqDiff, Nat.reduceLeDiff, Int.reduceLT, Int.reduceLE, Int.reduceNeg, Int.reduceToNat, Int.reduceAdd, Int.reduceSub, Int.reduceMul, Int.reduceEq, Int.reduceNe, Int.reduceBEq, Int.reduceBNe, Int.reducePow]; first | done | rfl)⟩
      · obtain rfl : j = p.length := by omega
        have hxt : ¬ (p.length : Int) < (p.length : Int) := by omega
        clear finc
        repeat (with_reducible first|(first|refine pO ?_|refine pP ?_|refine pQ ?_|refine pR (by omega) ?_);intros|refine pS ?_|first|refine qA ?_|refine qB ?_|refine qC ?_|refine qD ?_|refine qE ?_|refine qF ?_|refine qG ?_|refine qH ?_|refine qI ?_|refine qJ ?_|refine qK ?_|refine qL ?_|refine qM rfl ?_|refine qN ?_|refine qO ?_|refine qP ?_|refine qQ ?_|refine qR ?_|refine qS ?_|refine qT ?_|refine qU ?_|refine qV ?_|refine qW ?_|refine qX ?_|refine qY ?_|refine qZ ?_|refine pA ?_|refine pB ?_|refine pC ?_|(first|refine pD ?_|refine pE ?_|refine pF ?_|refine pT ?_|refine pG ?_|refine pH ?_|refine pI ?_|refine pJ ?_|refine pK ?_|refine pL ?_|refine pM ?_|refine pN ?_);simp (disch := first | with_reducible assumption | omega) only [go_sem, *, reduceCtorEq, ↓reduceIte, Nat.reduceLT, Nat.reduceBEq, Nat.reduceAdd, Nat.reduceSub, Nat.reduceMul, Nat.reduceDiv, Nat.reduceMod, Nat.reducePow, Nat.reduceEqDiff, Nat.reduceLeDiff, Int.reduceLT, Int.reduceLE, Int.reduceNeg, Int.reduceToNat, Int.reduceAdd, Int.reduceSub, Int.reduceMul, Int.reduceEq, Int.reduceNe, Int.reduceBEq, Int.reduceBNe, Int.reducePow])
        with_reducible rfl
    rcases hm2 with ⟨rfl, hm3, hm4, rfl, rfl⟩ | ⟨rfl, rfl, rfl, rfl⟩
    · have fink := fun (A : Prop) (h : _ → A) => h key
      clear key finc
      repeat (with_reducible first|(first|refine pO ?_|refine pP ?_|refine pQ ?_|refine pR (by omega) ?_);intros|refine pS ?_|first|refine qA ?_|refine qB ?_|refine qC ?_|refine qD ?_|refine qE ?_|refine qF ?_|refine qG ?_|refine qH ?_|refine qI ?_|refine qJ ?_|refine qK ?_|refine qL ?_|refine qM rfl ?_|refine qN ?_|refine qO ?_|refine qP ?_|refine qQ ?_|refine qR ?_|refine qS ?_|refine qT ?_|refine qU ?_|refine qV ?_|refine qW ?_|refine qX ?_|refine qY ?_|refine qZ ?_|refine pA ?_|refine pB ?_|refine pC ?_|(first|refine pD ?_|refine pE ?_|refine pF ?_|refine pT ?_|refine pG ?_|refine pH ?_|refine pI ?_|refine pJ ?_|refine pK ?_|refine pL ?_|refine pM ?_|refine pN ?_);simp (disch := first | with_reducible assumption | omega) only [go_sem, *, reduceCtorEq, ↓reduceIte, Nat.reduceLT, Nat.reduceBEq, Nat.reduceAdd, Nat.reduceSub, Nat.reduceMul, Nat.reduceDiv, Nat.reduceMod, Nat.reducePow, Nat.reduceEqDiff, Nat.reduceLeDiff, Int.reduceLT, Int.reduceLE, Int.reduceNeg, Int.reduceToNat, Int.reduceAdd, Int.reduceSub, Int.reduceMul, Int.reduceEq, Int.reduceNe, Int.reduceBEq, Int.reduceBNe, Int.reducePow])
      exact fink _ fun key => key _ (by simp (disch := first | with_reducible assumption | omega) only [go_sem, *, reduceCtorEq, ↓reduceIte, Nat.reduceLT, Nat.reduceBEq, Nat.reduceAdd, Nat.reduceSub, Nat.reduceMul, Nat.reduceDiv, Nat.reduceMod, Nat.reducePow, Nat.reduceEqDiff, Nat.reduceLeDiff, Int.reduceLT, Int.reduceLE, Int.reduceNeg, Int.reduceToNat, Int.reduceAdd, Int.reduceSub, Int.reduceMul, Int.reduceEq, Int.reduceNe, Int.reduceBEq, Int.reduceBNe, Int.reducePow]; first | done | rfl) (by simp (disch := first | with_reducible assumption | omega) only [go_sem, *, reduceCtorEq, ↓reduceIte, Nat.reduceLT, Nat.reduceBEq, Nat.reduceAdd, Nat.reduceSub, Nat.reduceMul, Nat.reduceDiv, Nat.reduceMod, Nat.reducePow, Nat.reduceEqDiff, Nat.reduceLeDiff, Int.reduceLT, Int.reduceLE, Int.reduceNeg, Int.reduceToNat, Int.reduceAdd, Int.reduceSub, Int.reduceMul, Int.reduceEq, Int.reduceNe, Int.reduceBEq, Int.reduceBNe, Int.reducePow]; first | done | rfl) (by simp (disch := first | with_reducible assumption | omega) only [go_sem, *, reduceCtorEq, ↓reduceIte, Nat.reduceLT, Nat.reduceBEq, Nat.reduceAdd, Nat.reduceSub, Nat.reduceMul, Nat.reduceDiv, Nat.reduceMod, Nat.reducePow, Nat.reduceEqDiff, Nat.reduceLeDiff, Int.reduceLT, Int.reduceLE, Int.reduceNeg, Int.reduceToNat, Int.reduceAdd, Int.reduceSub, Int.reduceMul, Int.reduceEq, Int.reduceNe, Int.reduceBEq, Int.reduceBNe, Int.reducePow]; first | done | rfl) (by simp (disch := first | with_reducible assumption | omega) only [go_sem, *, reduceCtorEq, ↓reduceIte, Nat.reduceLT, Nat.reduceBEq, Nat.reduceAdd, Nat.reduceSub, Nat.reduceMul, Nat.reduceDiv, Nat.reduceMod, Nat.reducePow, Nat.reduceEqDiff, Nat.reduceLeDiff, Int.reduceLT, Int.reduceLE, Int.reduceNeg, Int.reduceToNat, Int.reduceAdd, Int.reduceSub, Int.reduceMul, Int.reduceEq, Int.reduceNe, Int.reduceBEq, Int.reduceBNe, Int.reducePow]; first | done | rfl)
    · have fink := fun (A : Prop) (h : _ → A) => h key
      clear key finc
      repeat (with_reducible first|(first|refine pO ?_|refine pP ?_|refine pQ ?_|refine pR (by omega) ?_);intros|refine pS ?_|first|refine qA ?_|refine qB ?_|refine qC ?_|refine qD ?_|refine qE ?_|refine qF ?_|refine qG ?_|refine qH ?_|refine qI ?_|refine qJ ?_|refine qK ?_|refine qL ?_|refine qM rfl ?_|refine qN ?_|refine qO ?_|refine qP ?_|refine qQ ?_|refine qR ?_|refine qS ?_|refine qT ?_|refine qU ?_|refine qV ?_|refine qW ?_|refine qX ?_|refine qY ?_|refine qZ ?_|refine pA ?_|refine pB ?_|refine pC ?_|(first|refine pD ?_|refine pE ?_|refine pF ?_|refine pT ?_|refine pG ?_|refine pH ?_|refine pI ?_|refine pJ ?_|refine pK ?_|refine pL ?_|refine pM ?_|refine pN ?_);simp (disch := first | with_reducible assumption | omega) only [go_sem, *, reduceCtorEq, ↓reduceIte, Nat.reduceLT, Nat.reduceBEq, Nat.reduceAdd, Nat.reduceSub, Nat.reduceMul, Nat.reduceDiv, Nat.reduceMod, Nat.reducePow, Nat.reduceEqDiff, Nat.reduceLeDiff, Int.reduceLT, Int.reduceLE, Int.reduceNeg, Int.reduceToNat, Int.reduceAdd, Int.reduceSub, Int.reduceMul, Int.reduceEq, Int.reduceNe, Int.reduceBEq, Int.reduceBNe, Int.reducePow])
      exact fink _ fun key => key _ (by simp (disch := first | with_reducible assumption | omega) only [go_sem, *, reduceCtorEq, ↓reduceIte, Nat.reduceLT, Nat.reduceBEq, Nat.reduceAdd, Nat.reduceSub, Nat.reduceMul, Nat.reduceDiv, Nat.reduceMod, Nat.reducePow, Nat.reduceEqDiff, Nat.reduceLeDiff, Int.reduceLT, Int.reduceLE, Int.reduceNeg, Int.reduceToNat, Int.reduceAdd, Int.reduceSub, Int.reduceMul, Int.reduceEq, Int.reduceNe, Int.reduceBEq, Int.reduceBNe, Int.reducePow]; first | done | rfl) (by simp (disch := first | with_reducible assumption | omega) only [go_sem, *, reduceCtorEq, ↓reduceIte, Nat.reduceLT, Nat.reduceBEq, Nat.reduceAdd, Nat.reduceSub, Nat.reduceMul, Nat.reduceDiv, Nat.reduceMod, Nat.reducePow, Nat.reduceEqDiff, Nat.reduceLeDiff, Int.reduceLT, Int.reduceLE, Int.reduceNeg, Int.reduceToNat, Int.reduceAdd, Int.reduceSub, Int.reduceMul, Int.reduceEq, Int.reduceNe, Int.reduceBEq, Int.reduceBNe, Int.reducePow]; first | done | rfl) (by simp (disch := first | with_reducible assumption | omega) only [go_sem, *, reduceCtorEq, ↓reduceIte, Nat.reduceLT, Nat.reduceBEq, Nat.reduceAdd, Nat.reduceSub, Nat.reduceMul, Nat.reduceDiv, Nat.reduceMod, Nat.reducePow, Nat.reduceEqDiff, Nat.reduceLeDiff, Int.reduceLT, Int.reduceLE, Int.reduceNeg, Int.reduceToNat, Int.reduceAdd, Int.reduceSub, Int.reduceMul, Int.reduceEq, Int.reduceNe, Int.reduceBEq, Int.reduceBNe, Int.reducePow]; first | done | rfl) (by simp (disch := first | with_reducible assumption | omega) only [go_sem, *, reduceCtorEq, ↓reduceIte, Nat.reduceLT, Nat.reduceBEq, Nat.reduceAdd, Nat.reduceSub, Nat.reduceMul, Nat.reduceDiv, Nat.reduceMod, Nat.reducePow, Nat.reduceEqDiff, Nat.reduceLeDiff, Int.reduceLT, Int.reduceLE, Int.reduceNeg, Int.reduceToNat, Int.reduceAdd, Int.reduceSub, Int.reduceMul, Int.reduceEq, Int.reduceNe, Int.reduceBEq, Int.reduceBNe, Int.reducePow]; first | done | rfl)
theorem shifts_wc (H : Heap) (_ : Begins [] H) {x1 : List Int} {x2 x3 x4 : Int} {a1 a2 a3 a4 : V} (h1 : VwV (.sl (.int .i64)) H x1 a1) (h2 : VwV (.int .i32) H x2 a2) (h3 : VwV (.int .i64) H x3 a3) (h4 : VwV (.int .i64) H x4 a4) : WC F fn_rotalaw22_VoteShifts [a1, a2, a3, a4] H fun v _ => v = .c (.bool true) := by
  obtain ⟨a, c, rfl, hs, hw⟩ := VwV.ints h1
  obtain ⟨rfl, hb⟩ := VwV.i32 h2
  obtain ⟨rfl, -, -⟩ := h3.i64
  obtain ⟨rfl, h5, h6⟩ := h4.i64
  exact shifts_law hs hw hb ⟨h5, h6⟩
end Go.Proofs.Ytcjonjncekcfhaa.AM.D22
