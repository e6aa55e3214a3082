/- The law VoteSame. -/
import Derived.Test.YtcjonjncekcfhaaD22j
set_option linter.unusedVariables false
set_option linter.unusedSimpArgs false
set_option linter.unusedSectionVars false
namespace Go.Proofs.Ytcjonjncekcfhaa.AM.D22
open Go Go.Proofs.Ytcjonjncekcfhaa.AM
set_option maxHeartbeats 2000000
set_option maxRecDepth 100000
attribute [local go_sem] ev_L k_ev Env.up_app Env.of_app aop_mv aop_pick aop_bin aop_eq aop_eqagg aop_un aop_cv aop_nilck aop_ld aop_st aop_iaS aop_iaA aop_fa aop_fld aop_ix aop_ext aop_len aop_lenK aop_box aop_new aop_build aop_bsl aop_mkfn aop_call callO_fn callO_yld aop_app aop_appT aop_cpy aop_clr aop_ins aop_look aop_mksl aop_mkmap aop_s2b s2bO_str mkslO_int aop_slS aop_same aop_b2s fillB_nil outO outS Option.map_none List.length_cons List.length_nil List.length_append List.length_set List.length_replicate List.set_cons_zero List.set_cons_succ pickO_true pickO_false binO_c eqO_c eqaO_agg unO_c cvO_int nilckO_ptr nilckO_fn ldO_one ldO_row stO_one stO_if okA_some oa_some iaSO_sl iaSO_some iaAO_ptr faO_ptr fldO_agg ixO_agg extO_tup lenO_sl lenO_str V.cells_c V.cells_agg Option.map_some Option.bind_some Option.getD_some List.getElem?_cons_zero List.getElem?_cons_succ List.map_cons List.map_nil V.pc Pc.v asI adsOf adOf Int.toNat_natCast Nat.mul_one Nat.zero_mul Int.ofNat_lt lss_int leq_int gtr_int geq_int eql_int neq_int and_int or_int xor_int andNot_int shr_u8_i shr_u16_i shr_u32_i shr_u64_i shr_i64_i and_u8_i and_u16_i and_u32_i and_u64_i or_u8_i or_u16_i or_u32_i or_u64_i xor_u8_i xor_u16_i xor_u32_i xor_u64_i wrap_u8_i wrap_u16_i wrap_u32_i wrap_u64_i wr_i64 and15 and1 and7 addA_mk Nat.zero_add Nat.add_zero beq_self_eq_true dec_t dec_f decide_true decide_false not_true_eq_false Int.natCast_inj Bool.not_true Bool.not_false Bool.false_eq_true if_true if_false Int.cast_ofNat_Int ne_eq not_false_eq_true Ex.exit.injEq resOf resV L_get? List.mapM_cons List.mapM_nil shutAll_nil shutAll_one ld_blk ldn_blk st_blk ldB_some ldnB_some stB_some put_nil put_cons rdK_ld rdK_b2s List.append_nil List.nil_append List.cons_append List.zip_cons_cons List.zip_nil_left List.zip_nil_right List.foldl_cons List.foldl_nil L_set L_set' rd_one rd_row Option.pure_def Option.bind_eq_bind and_self and_true true_and bne_t bne_f Option.isNone_some Option.isNone_none eqC_bb eqC_pn eqC_ps eqC_sn eqC_ss eqC_fn1 eqC_fn2 eqC_fn3 eqC_mn eqC_ms nats_len nats_get aop_slA slAO_all fillB_cons sameO eq_self add_u8_i add_u16_i add_u32_i add_u64_i mul_u8_i mul_u16_i mul_u32_i mul_u64_i sub_u8_i sub_u16_i sub_u32_i sub_u64_i quo_u8_i quo_u16_i quo_u32_i quo_u64_i rem_u8_i rem_u16_i rem_u32_i rem_u64_i shl_u8_i shl_u16_i shl_u32_i shl_u64_i quo_i64_i rem_i64_i shl_i64_i or_i64_i and_i64_i and_i64_15 and_i64_31 or256 str_eql str_add str_neq bstr_append bstr_size b2sO_ld b2sO_nil strOf_nats sub_nats un_xor_u8 un_xor_u16 un_xor_u32 un_xor_u64 un_neg un_not not_dec beq_int bne_int pickO_dec ld_addA ldn_addA st_addA slSO_lohi slSO_hi Nat.mod_eq_of_lt if_pos if_neg
attribute [local go_sem 500] wrap_u8_z wrap_u16_z wrap_u32_z wrap_u64_z add_int sub_int mul_int
attribute [local go_sem] tn_add1 tn_sub1 put_all' ints_len
theorem tmod_b {x : Int} {n : Nat} (h : 0 < n) : -(n : Int) < x.tmod n ∧ x.tmod n < n := by
  have h1 := Int.tmod_lt_of_pos x (show (0 : Int) < (n : Int) by omega)
  have h2 := Int.tmod_lt_of_pos (-x) (show (0 : Int) < (n : Int) by omega)
  rw [Int.neg_tmod] at h2
  omega
theorem slSO_fromG {a : Ad} {n c : Nat} {o : Bool} {i : IntKind} {l : Int} (hh : 0 ≤ l ∧ l < n ∧ n ≤ c) : slSO 1 (.c (.sl (some a) n c o)) (some (.c (.int i l))) none none = some (.c (.sl (some (addA a l.toNat)) (n - l.toNat) (c - l.toNat) o)) := by
  rw [slSO_from hh.1 (by omega) hh.2.2]
  rw [if_neg (by omega)]; simp
attribute [local go_sem] slSO_fromG
theorem s_turned {H : Heap} {n c : Nat} {a : Option Ad} {o : Bool} {ws : List Int} {by_ : Int} (hn : n ≤ 100000) (h0 : 0 < n) (hc : n ≤ c) (hl : ws.length = n) (hs : Sl H 1 a n (ints ws)) :
    WC F fn_rotalaw22_turned [.c (.sl a n c o), .c (.int .i64 by_)] H fun v H' => ∃ a' o' ws', v = .c (.sl a' n n o') ∧ ws.Perm ws' ∧ Sl H' 1 a' n (ints ws') ∧ Xt H H' := by
  refine WC_start e_rotalaw22_turned (by simp) ?_
  unfold c_rotalaw22_turned
  obtain ⟨a, rfl⟩ := hs.is_some h0
  have hr := tmod_b (x := by_) h0
  have q1 : binC .rem (.int .i64 by_) (.int .i64 (n : Nat)) = some (.int .i64 (by_.tmod n)) := rem_int _ (by omega)
  generalize by_.tmod (n : Int) = r at *
  obtain ⟨hr1, hr2⟩ := hr
  obtain ⟨j, hj, hjn⟩ : ∃ j : Nat, (r + n) % (n : Int) = (j : Nat) ∧ j < n := by
    have h1 := Int.emod_nonneg (r + n) (show (n : Int) ≠ 0 by omega)
    have h2 := Int.emod_lt_of_pos (r + n) (show (0 : Int) < (n : Int) by omega)
    exact ⟨((r + n) % (n : Int)).toNat, by omega, by omega⟩
  have hw : IntKind.i64.wrap (r + n) = r + n := wr_i64 ⟨by omega, by omega⟩
  have hA := hs.sub1 (l := j) (h := n) (by omega) (Nat.le_refl _)
  have hB := hs.sub1 (l := 0) (h := j) (by omega) (by omega)
  have eA : ((ints ws).drop j).take (n - j) = ints (ws.drop j) := by
    rw [List.take_of_length_le (by simp [ints, hl])]; simp [ints]
  have eB : ((ints ws).drop 0).take (j - 0) = ints (ws.take j) := by simp [ints, List.map_take]
  rw [eA] at hA
  rw [eB, addA_zero, Nat.sub_zero] at hB
  have hp : ws.Perm (ws.drop j ++ ws.take j) := by
    have h1 : ws.Perm (ws.take j ++ ws.drop j) := by rw [List.take_append_drop]
    exact h1.trans List.perm_append_comm
  have hlt : (ws.take j).length = j := by simp; omega
  have hld : (ws.drop j).length = n - j := by simp [hl]
  generalize ws.take j = wt at *
  generalize ws.drop j = wd at *
  have fin0 := fun (A : Prop) (h : _ → _ → _ → A) => h hA hB hp
  clear hA hB hp hs eA eB
  obtain ⟨ab, ao⟩ := a
  repeat (with_reducible first|(first|refine pO ?_|refine pP ?_|refine pQ ?_|refine pR (by omega) ?_);intros|refine pS ?_|first|refine qA ?_|refine qB ?_|refine qC ?_|refine qD ?_|refine qE ?_|refine qF ?_|refine qG ?_|refine qH ?_|refine qI ?_|refine qJ ?_|refine qK ?_|refine qL ?_|refine qM rfl ?_|refine qN ?_|refine qO ?_|refine qP ?_|refine qQ ?_|refine qR ?_|refine qS ?_|refine qT ?_|refine qU ?_|refine qV ?_|refine qW ?_|refine qX ?_|refine qY ?_|refine qZ ?_|refine pA ?_|refine pB ?_|refine pC ?_|(first|refine pD ?_|refine pE ?_|refine pF ?_|refine pT ?_|refine pG ?_|refine pH ?_|refine pI ?_|refine pJ ?_|refine pK ?_|refine pL ?_|refine pM ?_|refine pN ?_);simp (disch := first | with_reducible assumption | omega) only [go_sem, *, reduceCtorEq, ↓reduceIte, Nat.reduceLT, Nat.reduceBEq, Nat.reduceAdd, Nat.reduceSub, Nat.reduceMul, Nat.reduceDiv, Nat.reduceMod, Nat.reducePow, Nat.reduceEqDiff, Nat.reduceLeDiff, Int.reduceLT, Int.reduceLE, Int.reduceNeg, Int.reduceToNat, Int.reduceAdd, Int.reduceSub, Int.reduceMul, Int.reduceEq, Int.reduceNe, Int.reduceBEq, Int.reduceBNe, Int.reducePow])
  refine fin0 _ fun hA hB hp => ?_
  refine outM_appG (n := 0) (ys := ints wd) (Gr.none H.length H 1) (Nat.le_refl _) hA (by omega) (by omega) ?_
  intro a2 H2 hg2 l2 x2 y2 z2
  rw [List.nil_append, Nat.zero_add] at hg2
  rw [Nat.zero_add]
  have hB2 : Sl H2 1 (some (ab, ao)) j (ints wt) := hB.to x2
  clear hA hB y2 z2
  by_cases hj0 : j = 0
  · subst hj0
    obtain rfl : wt = [] := List.length_eq_zero_iff.1 hlt
    rw [List.append_nil] at hp
    obtain ⟨b2, rfl, -, -, -, gb2⟩ := hg2.blk (by omega)
    have e0 : ∀ q p, appO 1 8 (.c (.sl (some (b2, 0)) n n true)) (.c (.sl (some (ab, ao)) 0 q p)) H2 = some (.v (.c (.sl (some (b2, 0)) n n true)), H2) := fun q p => appO_nothing (fun a e => by
      cases e
      have := hB2.rd (ab, ao) rfl
      rw [Nat.zero_mul] at this
      exact ⟨_, this⟩) (Nat.le_refl _)
    have hfs : Sl H2 1 (some (b2, 0)) n (ints wd) := hg2.sl
    have fin1 := fun (A : Prop) (h : _ → _ → _ → A) => h hfs hp x2
    clear hg2 hB2 fin0 hfs hp x2 gb2
    rw [Nat.sub_zero]
    repeat (with_reducible first|(first|refine pO ?_|refine pP ?_|refine pQ ?_|refine pR (by omega) ?_);intros|refine pS ?_|first|refine qA ?_|refine qB ?_|refine qC ?_|refine qD ?_|refine qE ?_|refine qF ?_|refine qG ?_|refine qH ?_|refine qI ?_|refine qJ ?_|refine qK ?_|refine qL ?_|refine qM rfl ?_|refine qN ?_|refine qO ?_|refine qP ?_|refine qQ ?_|refine qR ?_|refine qS ?_|refine qT ?_|refine qU ?_|refine qV ?_|refine qW ?_|refine qX ?_|refine qY ?_|refine qZ ?_|refine pA ?_|refine pB ?_|refine pC ?_|(first|refine pD ?_|refine pE ?_|refine pF ?_|refine pT ?_|refine pG ?_|refine pH ?_|refine pI ?_|refine pJ ?_|refine pK ?_|refine pL ?_|refine pM ?_|refine pN ?_);simp (disch := first | with_reducible assumption | omega) only [go_sem, *, reduceCtorEq, ↓reduceIte, Nat.reduceLT, Nat.reduceBEq, Nat.reduceAdd, Nat.reduceSub, Nat.reduceMul, Nat.reduceDiv, Nat.reduceMod, Nat.reducePow, Nat.reduceEqDiff, Nat.reduceLeDiff, Int.reduceLT, Int.reduceLE, Int.reduceNeg, Int.reduceToNat, Int.reduceAdd, Int.reduceSub, Int.reduceMul, Int.reduceEq, Int.reduceNe, Int.reduceBEq, Int.reduceBNe, Int.reducePow])
    exact fin1 _ fun hfs hp x2 => ⟨some (b2, 0), true, wd, rfl, hp, hfs, by omega, x2⟩
  · have hgg : ∃ lo, lo = H.length ∧ Gr lo H2 1 a2 (n - j) true (ints wd) := ⟨_, rfl, hg2⟩
    obtain ⟨lo, hlo, hgg⟩ := hgg
    have fin1 := fun (A : Prop) (h : _ → _ → _ → _ → A) => h hgg hB2 hp x2
    clear hg2 hgg hB2 fin0 hp x2
    repeat (with_reducible first|(first|refine pO ?_|refine pP ?_|refine pQ ?_|refine pR (by omega) ?_);intros|refine pS ?_|first|refine qA ?_|refine qB ?_|refine qC ?_|refine qD ?_|refine qE ?_|refine qF ?_|refine qG ?_|refine qH ?_|refine qI ?_|refine qJ ?_|refine qK ?_|refine qL ?_|refine qM rfl ?_|refine qN ?_|refine qO ?_|refine qP ?_|refine qQ ?_|refine qR ?_|refine qS ?_|refine qT ?_|refine qU ?_|refine qV ?_|refine qW ?_|refine qX ?_|refine qY ?_|refine qZ ?_|refine pA ?_|refine pB ?_|refine pC ?_|(first|refine pD ?_|refine pE ?_|refine pF ?_|refine pT ?_|refine pG ?_|refine pH ?_|refine pI ?_|refine pJ ?_|refine pK ?_|refine pL ?_|refine pM ?_|refine pN ?_);simp (disch := first | with_reducible assumption | omega) only [go_sem, *, reduceCtorEq, ↓reduceIte, Nat.reduceLT, Nat.reduceBEq, Nat.reduceAdd, Nat.reduceSub, Nat.reduceMul, Nat.reduceDiv, Nat.reduceMod, Nat.reducePow, Nat.reduceEqDiff, Nat.reduceLeDiff, Int.reduceLT, Int.reduceLE, Int.reduceNeg, Int.reduceToNat, Int.reduceAdd, Int.reduceSub, Int.reduceMul, Int.reduceEq, Int.reduceNe, Int.reduceBEq, Int.reduceBNe, Int.reducePow])
    refine fin1 _ fun hgg hB2 hp x2 => ?_
    refine outM_appG (n := n - j) (ys := ints wt) hgg (by omega) hB2 (by omega) (by omega) ?_
    intro a3 H3 hg3 l3 x3 y3 z3
    rw [← ints_app, show n - j + j = n by omega] at hg3
    rw [show n - j + j = n by omega]
    have hfs : Sl H3 1 a3 n (ints (wd ++ wt)) := hg3.sl
    have fin2 := fun (A : Prop) (h : _ → _ → A) => h hfs (fun b (hb : b < H.length) => (x3 b (by omega)).trans (x2 b hb))
    clear hg3 fin1 hgg hB2 x2 x3 y3 z3 hfs
    repeat (with_reducible first|(first|refine pO ?_|refine pP ?_|refine pQ ?_|refine pR (by omega) ?_);intros|refine pS ?_|first|refine qA ?_|refine qB ?_|refine qC ?_|refine qD ?_|refine qE ?_|refine qF ?_|refine qG ?_|refine qH ?_|refine qI ?_|refine qJ ?_|refine qK ?_|refine qL ?_|refine qM rfl ?_|refine qN ?_|refine qO ?_|refine qP ?_|refine qQ ?_|refine qR ?_|refine qS ?_|refine qT ?_|refine qU ?_|refine qV ?_|refine qW ?_|refine qX ?_|refine qY ?_|refine qZ ?_|refine pA ?_|refine pB ?_|refine pC ?_|(first|refine pD ?_|refine pE ?_|refine pF ?_|refine pT ?_|refine pG ?_|refine pH ?_|refine pI ?_|refine pJ ?_|refine pK ?_|refine pL ?_|refine pM ?_|refine pN ?_);simp (disch := first | with_reducible assumption | omega) only [go_sem, *, reduceCtorEq, ↓reduceIte, Nat.reduceLT, Nat.reduceBEq, Nat.reduceAdd, Nat.reduceSub, Nat.reduceMul, Nat.reduceDiv, Nat.reduceMod, Nat.reducePow, Nat.reduceEqDiff, Nat.reduceLeDiff, Int.reduceLT, Int.reduceLE, Int.reduceNeg, Int.reduceToNat, Int.reduceAdd, Int.reduceSub, Int.reduceMul, Int.reduceEq, Int.reduceNe, Int.reduceBEq, Int.reduceBNe, Int.reducePow])
    exact fin2 _ fun hfs hx => ⟨a3, true, _, rfl, hp, hfs, by omega, hx⟩
theorem sorted_121 : sorted [1, 2, 1] = [1, 1, 2] := sorted_unique ((sorted_perm _).trans (by decide)) (sorted_pw _) (by decide)
theorem sorted_519 : sorted [5, 1, 9] = [1, 5, 9] := sorted_unique ((sorted_perm _).trans (by decide)) (sorted_pw _) (by decide)
theorem s_alive {H : Heap} : WC F fn_rotalaw22_alive [] H fun v H' => v = .c (.bool true) ∧ Xt H H' := by
  refine WC_start e_rotalaw22_alive (by simp) ?_
  unfold c_rotalaw22_alive
  repeat (with_reducible first|(first|refine pO ?_|refine pP ?_|refine pQ ?_|refine pR (by omega) ?_);intros|refine pS ?_|first|refine qA ?_|refine qB ?_|refine qC ?_|refine qD ?_|refine qE ?_|refine qF ?_|refine qG ?_|refine qH ?_|refine qI ?_|refine qJ ?_|refine qK ?_|refine qL ?_|refine qM rfl ?_|refine qN ?_|refine qO ?_|refine qP ?_|refine qQ ?_|refine qR ?_|refine qS ?_|refine qT ?_|refine qU ?_|refine qV ?_|refine qW ?_|refine qX ?_|refine qY ?_|refine qZ ?_|refine pA ?_|refine pB ?_|refine pC ?_|(first|refine pD ?_|refine pE ?_|refine pF ?_|refine pT ?_|refine pG ?_|refine pH ?_|refine pI ?_|refine pJ ?_|refine pK ?_|refine pL ?_|refine pM ?_|refine pN ?_);simp (disch := first | with_reducible assumption | omega) only [go_sem, *, reduceCtorEq, ↓reduceIte, Nat.reduceLT, Nat.reduceBEq, Nat.reduceAdd, Nat.reduceSub, Nat.reduceMul, Nat.reduceDiv, Nat.reduceMod, Nat.reducePow, Nat.reduceEqDiff, Nat.reduceLeDiff, Int.reduceLT, Int.reduceLE, Int.reduceNeg, Int.reduceToNat, Int.reduceAdd, Int.reduceSub, Int.reduceMul, Int.reduceEq, Int.reduceNe, Int.reduceBEq, Int.reduceBNe, Int.reducePow])
  rename_i b1 H1 p1 g1 x1
  have h1 := s_Majority (c := 3) (o := false) (n := 3) (ws := [1, 2, 1]) (by omega) rfl (Sl.blk (show H1[b1]? = some (.cells (ints [1, 2, 1]) false none) from g1) rfl)
  rw [sorted_121, show pl (runsL [1, 1, 2]) = (1, 2) by simp [runsL, tw, pl, plS, List.takeWhile]] at h1
  refine outM_call h1 ?_
  clear h1
  rintro v H2 ⟨hv, l2, x2⟩
  rw [if_pos (by decide)] at hv
  subst hv
  repeat (with_reducible first|(first|refine pO ?_|refine pP ?_|refine pQ ?_|refine pR (by omega) ?_);intros|refine pS ?_|first|refine qA ?_|refine qB ?_|refine qC ?_|refine qD ?_|refine qE ?_|refine qF ?_|refine qG ?_|refine qH ?_|refine qI ?_|refine qJ ?_|refine qK ?_|refine qL ?_|refine qM rfl ?_|refine qN ?_|refine qO ?_|refine qP ?_|refine qQ ?_|refine qR ?_|refine qS ?_|refine qT ?_|refine qU ?_|refine qV ?_|refine qW ?_|refine qX ?_|refine qY ?_|refine qZ ?_|refine pA ?_|refine pB ?_|refine pC ?_|(first|refine pD ?_|refine pE ?_|refine pF ?_|refine pT ?_|refine pG ?_|refine pH ?_|refine pI ?_|refine pJ ?_|refine pK ?_|refine pL ?_|refine pM ?_|refine pN ?_);simp (disch := first | with_reducible assumption | omega) only [go_sem, *, reduceCtorEq, ↓reduceIte, Nat.reduceLT, Nat.reduceBEq, Nat.reduceAdd, Nat.reduceSub, Nat.reduceMul, Nat.reduceDiv, Nat.reduceMod, Nat.reducePow, Nat.reduceEqDiff, Nat.reduceLeDiff, Int.reduceLT, Int.reduceLE, Int.reduceNeg, Int.reduceToNat, Int.reduceAdd, Int.reduceSub, Int.reduceMul, Int.reduceEq, Int.reduceNe, Int.reduceBEq, Int.reduceBNe, Int.reducePow])
  rename_i b3 H3 p3 g3 x3
  have h1 := s_Median (c := 3) (o := false) (n := 3) (ws := [5, 1, 9]) (by omega) rfl (Sl.blk (show H3[b3]? = some (.cells (ints [5, 1, 9]) false none) from g3) rfl)
  rw [sorted_519] at h1
  refine outM_call h1 ?_
  clear h1
  rintro v H4 ⟨hv, l4, x4⟩
  rw [if_neg (by decide)] at hv
  have hv : v = .tup [.c (.int .i64 5), .c (.bool true)] := hv
  subst hv
  repeat (with_reducible first|(first|refine pO ?_|refine pP ?_|refine pQ ?_|refine pR (by omega) ?_);intros|refine pS ?_|first|refine qA ?_|refine qB ?_|refine qC ?_|refine qD ?_|refine qE ?_|refine qF ?_|refine qG ?_|refine qH ?_|refine qI ?_|refine qJ ?_|refine qK ?_|refine qL ?_|refine qM rfl ?_|refine qN ?_|refine qO ?_|refine qP ?_|refine qQ ?_|refine qR ?_|refine qS ?_|refine qT ?_|refine qU ?_|refine qV ?_|refine qW ?_|refine qX ?_|refine qY ?_|refine qZ ?_|refine pA ?_|refine pB ?_|refine pC ?_|(first|refine pD ?_|refine pE ?_|refine pF ?_|refine pT ?_|refine pG ?_|refine pH ?_|refine pI ?_|refine pJ ?_|refine pK ?_|refine pL ?_|refine pM ?_|refine pN ?_);simp (disch := first | with_reducible assumption | omega) only [go_sem, *, reduceCtorEq, ↓reduceIte, Nat.reduceLT, Nat.reduceBEq, Nat.reduceAdd, Nat.reduceSub, Nat.reduceMul, Nat.reduceDiv, Nat.reduceMod, Nat.reducePow, Nat.reduceEqDiff, Nat.reduceLeDiff, Int.reduceLT, Int.reduceLE, Int.reduceNeg, Int.reduceToNat, Int.reduceAdd, Int.reduceSub, Int.reduceMul, Int.reduceEq, Int.reduceNe, Int.reduceBEq, Int.reduceBNe, Int.reducePow])
  exact ⟨rfl, by omega, fun b hb => by rw [x4 b (by omega), x3 b (by omega), x2 b (by omega), x1 b (by omega)]⟩
theorem part_len (t : Int) (ws : List Int) (v : Int) : (part t ws v).length = ws.countP (agr t v) := by
  unfold part
  have key : ∀ k, k ≤ ws.length → (partK t ws v k).length = (ws.take k).countP (agr t v) := by
    intro k
    induction k with
    | zero => intro _; rfl
    | succ k ih =>
      intro hk
      rw [partK_s, List.length_append, ih (by omega), cp_take (by omega)]
      split <;> rfl
  have := key ws.length (Nat.le_refl _)
  rwa [List.take_length] at this
theorem AS.len_perm {t : Int} {ws ws' : List Int} {p p' : List Nat} (hp : ws.Perm ws') (h : AS t ws p) (h' : AS t ws' p') : p.length = p'.length := by
  have hl : ∀ v, (part t ws v).length = (part t ws' v).length := fun v => by rw [part_len, part_len, hp.countP_eq]
  rcases h with ⟨rfl, rfl⟩ | ⟨v, h1, h2, h3⟩
  · rcases h' with ⟨_, rfl⟩ | ⟨v', h1, _⟩
    · rfl
    · have := hp.mem_iff.2 h1; simp at this
  · rcases h' with ⟨rfl, _⟩ | ⟨v', k1, k2, k3⟩
    · have := hp.mem_iff.1 h1; simp at this
    · have a := h3 v' (hp.mem_iff.2 k1)
      have b := k3 v (hp.mem_iff.1 h1)
      have e1 := congrArg List.length h2
      have e2 := congrArg List.length k2
      rw [hl] at a e1
      omega
theorem maj_med {ws : List Int} {n : Nat} (hl : ws.length = n) (h : n < 2 * (pl (runsL (sorted ws))).2) : gi (sorted ws) ((n - 1) / 2) = (pl (runsL (sorted ws))).1 := by
  rcases pl_PS ws with ⟨rfl, h1, h2⟩ | ⟨h1, h2, h3⟩
  · rw [h2] at h; simp at hl; omega
  · refine at_eq ?_ ?_
    all_goals
      have : le_ (pl (runsL (sorted ws))).1 ws ≤ ws.length := List.countP_le_length
      rw [le_cn] at this
      omega
theorem VwV.intsC {H : Heap} {x : List Int} {v : V} (h : VwV (.sl (.int .i64)) H x v) : ∃ (a : Option Ad) (c : Nat), v = .c (.sl a x.length c false) ∧ Sl H 1 a x.length (AM.ints x) ∧ (∀ y ∈ x, i64 y) ∧ x.length ≤ c := by
  have h' := h
  obtain ⟨a, c, rfl, h1, h2⟩ := VwV.ints h
  obtain ⟨cs, ⟨a', c', rfl, k1, k2, k3⟩, ⟨h, _⟩ | ⟨_, c'', h, e⟩⟩ := h'
  · cases h
  · cases h
    cases e
    exact ⟨a, c, rfl, h1, h2, k1⟩
theorem same_law {H : Heap} {a : Option Ad} {c : Nat} {ws : List Int} {by_ t : Int} (hc : ws.length ≤ c) (hs : Sl H 1 a ws.length (ints ws)) (hw : ∀ x ∈ ws, i64 x) (ht : i64 t) :
    WC F fn_rotalaw22_VoteSame [.c (.sl a ws.length c false), .c (.int .i64 by_), .c (.int .i64 t)] H fun v _ => v = .c (.bool true) := by
  refine WC_start e_rotalaw22_VoteSame (by simp) ?_
  unfold c_rotalaw22_VoteSame
  obtain ⟨n, hl⟩ : ∃ n, ws.length = n := ⟨_, rfl⟩
  rw [hl] at hs hc ⊢
  have fin0 := fun (A : Prop) (h : _ → _ → _ → A) => h hs hw ht
  clear hs hw ht
  repeat (with_reducible first|(first|refine pO ?_|refine pP ?_|refine pQ ?_|refine pR (by omega) ?_);intros|refine pS ?_|first|refine qA ?_|refine qB ?_|refine qC ?_|refine qD ?_|refine qE ?_|refine qF ?_|refine qG ?_|refine qH ?_|refine qI ?_|refine qJ ?_|refine qK ?_|refine qL ?_|refine qM rfl ?_|refine qN ?_|refine qO ?_|refine qP ?_|refine qQ ?_|refine qR ?_|refine qS ?_|refine qT ?_|refine qU ?_|refine qV ?_|refine qW ?_|refine qX ?_|refine qY ?_|refine qZ ?_|refine pA ?_|refine pB ?_|refine pC ?_|(first|refine pD ?_|refine pE ?_|refine pF ?_|refine pT ?_|refine pG ?_|refine pH ?_|refine pI ?_|refine pJ ?_|refine pK ?_|refine pL ?_|refine pM ?_|refine pN ?_);simp (disch := first | with_reducible assumption | omega) only [go_sem, *, reduceCtorEq, ↓reduceIte, Nat.reduceLT, Nat.reduceBEq, Nat.reduceAdd, Nat.reduceSub, Nat.reduceMul, Nat.reduceDiv, Nat.reduceMod, Nat.reducePow, Nat.reduceEqDiff, Nat.reduceLeDiff, Int.reduceLT, Int.reduceLE, Int.reduceNeg, Int.reduceToNat, Int.reduceAdd, Int.reduceSub, Int.reduceMul, Int.reduceEq, Int.reduceNe, Int.reduceBEq, Int.reduceBNe, Int.reducePow])
  refine outM_call s_alive ?_
  rintro _ H1 ⟨rfl, xt1⟩
  by_cases hbig : 200 < (n : Int)
  · repeat (with_reducible first|(first|refine pO ?_|refine pP ?_|refine pQ ?_|refine pR (by omega) ?_);intros|refine pS ?_|first|refine qA ?_|refine qB ?_|refine qC ?_|refine qD ?_|refine qE ?_|refine qF ?_|refine qG ?_|refine qH ?_|refine qI ?_|refine qJ ?_|refine qK ?_|refine qL ?_|refine qM rfl ?_|refine qN ?_|refine qO ?_|refine qP ?_|refine qQ ?_|refine qR ?_|refine qS ?_|refine qT ?_|refine qU ?_|refine qV ?_|refine qW ?_|refine qX ?_|refine qY ?_|refine qZ ?_|refine pA ?_|refine pB ?_|refine pC ?_|(first|refine pD ?_|refine pE ?_|refine pF ?_|refine pT ?_|refine pG ?_|refine pH ?_|refine pI ?_|refine pJ ?_|refine pK ?_|refine pL ?_|refine pM ?_|refine pN ?_);simp (disch := first | with_reducible assumption | omega) only [go_sem, *, reduceCtorEq, ↓reduceIte, Nat.reduceLT, Nat.reduceBEq, Nat.reduceAdd, Nat.reduceSub, Nat.reduceMul, Nat.reduceDiv, Nat.reduceMod, Nat.reducePow, Nat.reduceEqDiff, Nat.reduceLeDiff, Int.reduceLT, Int.reduceLE, Int.reduceNeg, Int.reduceToNat, Int.reduceAdd, Int.reduceSub, Int.reduceMul, Int.reduceEq, Int.reduceNe, Int.reduceBEq, Int.reduceBNe, Int.reducePow])
    with_reducible rfl
  by_cases h0 : n = 0
  · have h0' : (n : Int) = 0 := by omega
    repeat (with_reducible first|(first|refine pO ?_|refine pP ?_|refine pQ ?_|refine pR (by omega) ?_);intros|refine pS ?_|first|refine qA ?_|refine qB ?_|refine qC ?_|refine qD ?_|refine qE ?_|refine qF ?_|refine qG ?_|refine qH ?_|refine qI ?_|refine qJ ?_|refine qK ?_|refine qL ?_|refine qM rfl ?_|refine qN ?_|refine qO ?_|refine qP ?_|refine qQ ?_|refine qR ?_|refine qS ?_|refine qT ?_|refine qU ?_|refine qV ?_|refine qW ?_|refine qX ?_|refine qY ?_|refine qZ ?_|refine pA ?_|refine pB ?_|refine pC ?_|(first|refine pD ?_|refine pE ?_|refine pF ?_|refine pT ?_|refine pG ?_|refine pH ?_|refine pI ?_|refine pJ ?_|refine pK ?_|refine pL ?_|refine pM ?_|refine pN ?_);simp (disch := first | with_reducible assumption | omega) only [go_sem, *, reduceCtorEq, ↓reduceIte, Nat.reduceLT, Nat.reduceBEq, Nat.reduceAdd, Nat.reduceSub, Nat.reduceMul, Nat.reduceDiv, Nat.reduceMod, Nat.reducePow, Nat.reduceEqDiff, Nat.reduceLeDiff, Int.reduceLT, Int.reduceLE, Int.reduceNeg, Int.reduceToNat, Int.reduceAdd, Int.reduceSub, Int.reduceMul, Int.reduceEq, Int.reduceNe, Int.reduceBEq, Int.reduceBNe, Int.reducePow])
    with_reducible rfl
  have h0' : ¬ (n : Int) = 0 := by omega
  have hn : n ≤ 100000 := by omega
  refine fin0 _ fun hs hw ht => ?_
  have hs1 : Sl H1 1 a n (ints ws) := hs.to xt1.2
  have hT := s_turned (by_ := by_) (o := false) hn (by omega) hc hl hs1
  clear fin0 hs xt1
  repeat (with_reducible first|(first|refine pO ?_|refine pP ?_|refine pQ ?_|refine pR (by omega) ?_);intros|refine pS ?_|first|refine qA ?_|refine qB ?_|refine qC ?_|refine qD ?_|refine qE ?_|refine qF ?_|refine qG ?_|refine qH ?_|refine qI ?_|refine qJ ?_|refine qK ?_|refine qL ?_|refine qM rfl ?_|refine qN ?_|refine qO ?_|refine qP ?_|refine qQ ?_|refine qR ?_|refine qS ?_|refine qT ?_|refine qU ?_|refine qV ?_|refine qW ?_|refine qX ?_|refine qY ?_|refine qZ ?_|refine pA ?_|refine pB ?_|refine pC ?_|(first|refine pD ?_|refine pE ?_|refine pF ?_|refine pT ?_|refine pG ?_|refine pH ?_|refine pI ?_|refine pJ ?_|refine pK ?_|refine pL ?_|refine pM ?_|refine pN ?_);simp (disch := first | with_reducible assumption | omega) only [go_sem, *, reduceCtorEq, ↓reduceIte, Nat.reduceLT, Nat.reduceBEq, Nat.reduceAdd, Nat.reduceSub, Nat.reduceMul, Nat.reduceDiv, Nat.reduceMod, Nat.reducePow, Nat.reduceEqDiff, Nat.reduceLeDiff, Int.reduceLT, Int.reduceLE, Int.reduceNeg, Int.reduceToNat, Int.reduceAdd, Int.reduceSub, Int.reduceMul, Int.reduceEq, Int.reduceNe, Int.reduceBEq, Int.reduceBNe, Int.reducePow])
  refine outM_call hT ?_
  clear hT
  rintro _ H2 ⟨b, o, ws', rfl, hp, hsb2, xt2⟩
  have hl' : ws'.length = n := by rw [← hp.length_eq]; exact hl
  have hso : sorted ws' = sorted ws := (sorted_of_perm hp).symm
  have hw' : ∀ x ∈ ws', i64 x := fun x hx => hw x (hp.mem_iff.2 hx)
  have hsa2 := hs1.to xt2.2
  have keep : ∀ Hx, Xt H2 Hx → Sl Hx 1 a n (ints ws) ∧ Sl Hx 1 b n (ints ws') := fun Hx hx => ⟨hsa2.to hx.2, hsb2.to hx.2⟩
  have cP : ∀ Hx, Xt H2 Hx → _ := fun Hx hx => s_Plural (c := c) (o := false) hn hl (keep Hx hx).1
  have cP' : ∀ Hx, Xt H2 Hx → _ := fun Hx hx => s_Plural (c := n) (o := o) hn hl' (keep Hx hx).2
  have cM : ∀ Hx, Xt H2 Hx → _ := fun Hx hx => s_Majority (c := c) (o := false) hn hl (keep Hx hx).1
  have cM' : ∀ Hx, Xt H2 Hx → _ := fun Hx hx => s_Majority (c := n) (o := o) hn hl' (keep Hx hx).2
  have cD : ∀ Hx, Xt H2 Hx → _ := fun Hx hx => s_Median (c := c) (o := false) hn hl (keep Hx hx).1
  have cD' : ∀ Hx, Xt H2 Hx → _ := fun Hx hx => s_Median (c := n) (o := o) hn hl' (keep Hx hx).2
  have cA : ∀ Hx, Xt H2 Hx → _ := fun Hx hx => s_Agree (t := t) (c := c) (o := false) hn hl (keep Hx hx).1 hw ht
  have cA' : ∀ Hx, Xt H2 Hx → _ := fun Hx hx => s_Agree (t := t) (c := n) (o := o) hn hl' (keep Hx hx).2 hw' ht
  have hlen : (if t < 0 then [] else ag t ws' (runsL (sorted ws'))).length = (if t < 0 then [] else ag t ws (runsL (sorted ws))).length := by
    split
    · rfl
    · exact (AS.len_perm hp (ag_AS ws (by omega)) (ag_AS ws' (by omega))).symm
  have hmm := maj_med hl
  rw [hso] at cP' cM' cD'
  generalize (if t < 0 then [] else ag t ws' (runsL (sorted ws'))) = p' at *
  generalize (if t < 0 then [] else ag t ws (runsL (sorted ws))) = p at *
  generalize pl (runsL (sorted ws)) = s at *
  obtain ⟨pv, pn⟩ := s
  dsimp only at *
  generalize gi (sorted ws) ((n - 1) / 2) = g at *
  have hmm' : ((n : Int) < 2 * (pn : Int)) → g = pv := fun h => hmm (by omega)
  have fin1 := fun (A : Prop) (h : _ → _ → _ → _ → _ → _ → _ → _ → _ → _ → A) => h cP cP' cM cM' cD cD' cA cA' hlen hmm'
  clear cP cP' cM cM' cD cD' cA cA' hlen hmm hmm' keep hsa2 hsb2 hw hw' ht hp hso hs1 xt2 hl hl'
  repeat (with_reducible first|(first|refine pO ?_|refine pP ?_|refine pQ ?_|refine pR (by omega) ?_);intros|refine pS ?_|first|refine qA ?_|refine qB ?_|refine qC ?_|refine qD ?_|refine qE ?_|refine qF ?_|refine qG ?_|refine qH ?_|refine qI ?_|refine qJ ?_|refine qK ?_|refine qL ?_|refine qM rfl ?_|refine qN ?_|refine qO ?_|refine qP ?_|refine qQ ?_|refine qR ?_|refine qS ?_|refine qT ?_|refine qU ?_|refine qV ?_|refine qW ?_|refine qX ?_|refine qY ?_|refine qZ ?_|refine pA ?_|refine pB ?_|refine pC ?_|(first|refine pD ?_|refine pE ?_|refine pF ?_|refine pT ?_|refine pG ?_|refine pH ?_|refine pI ?_|refine pJ ?_|refine pK ?_|refine pL ?_|refine pM ?_|refine pN ?_);simp (disch := first | with_reducible assumption | omega) only [go_sem, *, reduceCtorEq, ↓reduceIte, Nat.reduceLT, Nat.reduceBEq, Nat.reduceAdd, Nat.reduceSub, Nat.reduceMul, Nat.reduceDiv, Nat.reduceMod, Nat.reducePow, Nat.reduceEqDiff, Nat.reduceLeDiff, Int.reduceLT, Int.reduceLE, Int.reduceNeg, Int.reduceToNat, Int.reduceAdd, Int.reduceSub, Int.reduceMul, Int.reduceEq, Int.reduceNe, Int.reduceBEq, Int.reduceBNe, Int.reducePow])
  refine fin1 _ fun cP cP' cM cM' cD cD' cA cA' hlen hmm => ?_
  refine outM_call (cP H2 ⟨Nat.le_refl _, fun _ _ => rfl⟩) ?_
  clear cP cP' cM cM' cD cD' cA cA' hlen hmm
  rintro _ H3 ⟨rfl, xt3⟩
  have fin3 := fun (A : Prop) (h : _ → A) => h xt3
  clear xt3
  repeat (with_reducible first|(first|refine pO ?_|refine pP ?_|refine pQ ?_|refine pR (by omega) ?_);intros|refine pS ?_|first|refine qA ?_|refine qB ?_|refine qC ?_|refine qD ?_|refine qE ?_|refine qF ?_|refine qG ?_|refine qH ?_|refine qI ?_|refine qJ ?_|refine qK ?_|refine qL ?_|refine qM rfl ?_|refine qN ?_|refine qO ?_|refine qP ?_|refine qQ ?_|refine qR ?_|refine qS ?_|refine qT ?_|refine qU ?_|refine qV ?_|refine qW ?_|refine qX ?_|refine qY ?_|refine qZ ?_|refine pA ?_|refine pB ?_|refine pC ?_|(first|refine pD ?_|refine pE ?_|refine pF ?_|refine pT ?_|refine pG ?_|refine pH ?_|refine pI ?_|refine pJ ?_|refine pK ?_|refine pL ?_|refine pM ?_|refine pN ?_);simp (disch := first | with_reducible assumption | omega) only [go_sem, *, reduceCtorEq, ↓reduceIte, Nat.reduceLT, Nat.reduceBEq, Nat.reduceAdd, Nat.reduceSub, Nat.reduceMul, Nat.reduceDiv, Nat.reduceMod, Nat.reducePow, Nat.reduceEqDiff, Nat.reduceLeDiff, Int.reduceLT, Int.reduceLE, Int.reduceNeg, Int.reduceToNat, Int.reduceAdd, Int.reduceSub, Int.reduceMul, Int.reduceEq, Int.reduceNe, Int.reduceBEq, Int.reduceBNe, Int.reducePow])
  refine fin1 _ fun cP cP' cM cM' cD cD' cA cA' hlen hmm => fin3 _ fun xt3 => ?_
  refine outM_call (cP' H3 xt3) ?_
  clear cP cP' cM cM' cD cD' cA cA' hlen hmm
  rintro _ H4 ⟨rfl, xt4⟩
  have fin4 := fun (A : Prop) (h : _ → A) => h (show Xt H2 H4 from ⟨by omega, fun b hb => by rw [xt4.2 b (by omega)]; exact xt3.2 b hb⟩)
  clear xt3 xt4 fin3
  repeat (with_reducible first|(first|refine pO ?_|refine pP ?_|refine pQ ?_|refine pR (by omega) ?_);intros|refine pS ?_|first|refine qA ?_|refine qB ?_|refine qC ?_|refine qD ?_|refine qE ?_|refine qF ?_|refine qG ?_|refine qH ?_|refine qI ?_|refine qJ ?_|refine qK ?_|refine qL ?_|refine qM rfl ?_|refine qN ?_|refine qO ?_|refine qP ?_|refine qQ ?_|refine qR ?_|refine qS ?_|refine qT ?_|refine qU ?_|refine qV ?_|refine qW ?_|refine qX ?_|refine qY ?_|refine qZ ?_|refine pA ?_|refine pB ?_|refine pC ?_|(first|refine pD ?_|refine pE ?_|refine pF ?_|refine pT ?_|refine pG ?_|refine pH ?_|refine pI ?_|refine pJ ?_|refine pK ?_|refine pL ?_|refine pM ?_|refine pN ?_);simp (disch := first | with_reducible assumption | omega) only [go_sem, *, reduceCtorEq, ↓reduceIte, Nat.reduceLT, Nat.reduceBEq, Nat.reduceAdd, Nat.reduceSub, Nat.reduceMul, Nat.reduceDiv, Nat.reduceMod, Nat.reducePow, Nat.reduceEqDiff, Nat.reduceLeDiff, Int.reduceLT, Int.reduceLE, Int.reduceNeg, Int.reduceToNat, Int.reduceAdd, Int.reduceSub, Int.reduceMul, Int.reduceEq, Int.reduceNe, Int.reduceBEq, Int.reduceBNe, Int.reducePow])
  refine fin1 _ fun cP cP' cM cM' cD cD' cA cA' hlen hmm => fin4 _ fun xt3 => ?_
  refine outM_call (cM H4 xt3) ?_
  clear cP cP' cM cM' cD cD' cA cA' hlen hmm
  rintro v5 H5 ⟨hv5, xt4⟩
  have fin5 := fun (A : Prop) (h : _ → A) => h (show Xt H2 H5 from ⟨by omega, fun b hb => by rw [xt4.2 b (by omega)]; exact xt3.2 b hb⟩)
  clear xt3 xt4 fin4
  obtain ⟨m1, m2, rfl, hmaj⟩ : ∃ m1 m2, v5 = .tup [.c (.int .i64 m1), .c (.bool m2)] ∧ (((n : Int) < 2 * (pn : Int) ∧ m1 = pv ∧ m2 = true) ∨ (¬ (n : Int) < 2 * (pn : Int) ∧ m1 = 0 ∧ m2 = false)) := by
    split at hv5
    · rename_i h; exact ⟨_, _, hv5, .inl ⟨h, rfl, rfl⟩⟩
    · rename_i h; exact ⟨_, _, hv5, .inr ⟨h, rfl, rfl⟩⟩
  clear hv5
  have fin6 := fun (A : Prop) (h : _ → A) => h hmaj
  clear hmaj
  repeat (with_reducible first|(first|refine pO ?_|refine pP ?_|refine pQ ?_|refine pR (by omega) ?_);intros|refine pS ?_|first|refine qA ?_|refine qB ?_|refine qC ?_|refine qD ?_|refine qE ?_|refine qF ?_|refine qG ?_|refine qH ?_|refine qI ?_|refine qJ ?_|refine qK ?_|refine qL ?_|refine qM rfl ?_|refine qN ?_|refine qO ?_|refine qP ?_|refine qQ ?_|refine qR ?_|refine qS ?_|refine qT ?_|refine qU ?_|refine qV ?_|refine qW ?_|refine qX ?_|refine qY ?_|refine qZ ?_|refine pA ?_|refine pB ?_|refine pC ?_|(first|refine pD ?_|refine pE ?_|refine pF ?_|refine pT ?_|refine pG ?_|refine pH ?_|refine pI ?_|refine pJ ?_|refine pK ?_|refine pL ?_|refine pM ?_|refine pN ?_);simp (disch := first | with_reducible assumption | omega) only [go_sem, *, reduceCtorEq, ↓reduceIte, Nat.reduceLT, Nat.reduceBEq, Nat.reduceAdd, Nat.reduceSub, Nat.reduceMul, Nat.reduceDiv, Nat.reduceMod, Nat.reducePow, Nat.reduceEqDiff, Nat.reduceLeDiff, Int.reduceLT, Int.reduceLE, Int.reduceNeg, Int.reduceToNat, Int.reduceAdd, Int.reduceSub, Int.reduceMul, Int.reduceEq, Int.reduceNe, Int.reduceBEq, Int.reduceBNe, Int.reducePow])
  refine fin1 _ fun cP cP' cM cM' cD cD' cA cA' hlen hmm => fin5 _ fun xt3 => ?_
  refine outM_call (cM' H5 xt3) ?_
  clear cP cP' cM cM' cD cD' cA cA' hlen hmm
  rintro v6 H6 ⟨hv6, xt4⟩
  have fin7 := fun (A : Prop) (h : _ → A) => h (show Xt H2 H6 from ⟨by omega, fun b hb => by rw [xt4.2 b (by omega)]; exact xt3.2 b hb⟩)
  clear xt3 xt4 fin5
  obtain rfl : v6 = .tup [.c (.int .i64 m1), .c (.bool m2)] := fin6 _ fun hmaj => by
    rcases hmaj with ⟨h, rfl, rfl⟩ | ⟨h, rfl, rfl⟩
    · rw [if_pos h] at hv6; exact hv6
    · rw [if_neg h] at hv6; exact hv6
  clear hv6
  repeat (with_reducible first|(first|refine pO ?_|refine pP ?_|refine pQ ?_|refine pR (by omega) ?_);intros|refine pS ?_|first|refine qA ?_|refine qB ?_|refine qC ?_|refine qD ?_|refine qE ?_|refine qF ?_|refine qG ?_|refine qH ?_|refine qI ?_|refine qJ ?_|refine qK ?_|refine qL ?_|refine qM rfl ?_|refine qN ?_|refine qO ?_|refine qP ?_|refine qQ ?_|refine qR ?_|refine qS ?_|refine qT ?_|refine qU ?_|refine qV ?_|refine qW ?_|refine qX ?_|refine qY ?_|refine qZ ?_|refine pA ?_|refine pB ?_|refine pC ?_|(first|refine pD ?_|refine pE ?_|refine pF ?_|refine pT ?_|refine pG ?_|refine pH ?_|refine pI ?_|refine pJ ?_|refine pK ?_|refine pL ?_|refine pM ?_|refine pN ?_);simp (disch := first | with_reducible assumption | omega) only [go_sem, *, reduceCtorEq, ↓reduceIte, Nat.reduceLT, Nat.reduceBEq, Nat.reduceAdd, Nat.reduceSub, Nat.reduceMul, Nat.reduceDiv, Nat.reduceMod, Nat.reducePow, Nat.reduceEqDiff, Nat.reduceLeDiff, Int.reduceLT, Int.reduceLE, Int.reduceNeg, Int.reduceToNat, Int.reduceAdd, Int.reduceSub, Int.reduceMul, Int.reduceEq, Int.reduceNe, Int.reduceBEq, Int.reduceBNe, Int.reducePow])
  refine fin1 _ fun cP cP' cM cM' cD cD' cA cA' hlen hmm => fin7 _ fun xt3 => ?_
  refine outM_call (cD H6 xt3) ?_
  clear cP cP' cM cM' cD cD' cA cA' hlen hmm
  rintro v7 H7 ⟨hv7, xt4⟩
  rw [if_neg h0] at hv7
  subst hv7
  have fin8 := fun (A : Prop) (h : _ → A) => h (show Xt H2 H7 from ⟨by omega, fun b hb => by rw [xt4.2 b (by omega)]; exact xt3.2 b hb⟩)
  clear xt3 xt4 fin7
  repeat (with_reducible first|(first|refine pO ?_|refine pP ?_|refine pQ ?_|refine pR (by omega) ?_);intros|refine pS ?_|first|refine qA ?_|refine qB ?_|refine qC ?_|refine qD ?_|refine qE ?_|refine qF ?_|refine qG ?_|refine qH ?_|refine qI ?_|refine qJ ?_|refine qK ?_|refine qL ?_|refine qM rfl ?_|refine qN ?_|refine qO ?_|refine qP ?_|refine qQ ?_|refine qR ?_|refine qS ?_|refine qT ?_|refine qU ?_|refine qV ?_|refine qW ?_|refine qX ?_|refine qY ?_|refine qZ ?_|refine pA ?_|refine pB ?_|refine pC ?_|(first|refine pD ?_|refine pE ?_|refine pF ?_|refine pT ?_|refine pG ?_|refine pH ?_|refine pI ?_|refine pJ ?_|refine pK ?_|refine pL ?_|refine pM ?_|refine pN ?_);simp (disch := first | with_reducible assumption | omega) only [go_sem, *, reduceCtorEq, ↓reduceIte, Nat.reduceLT, Nat.reduceBEq, Nat.reduceAdd, Nat.reduceSub, Nat.reduceMul, Nat.reduceDiv, Nat.reduceMod, Nat.reducePow, Nat.reduceEqDiff, Nat.reduceLeDiff, Int.reduceLT, Int.reduceLE, Int.reduceNeg, Int.reduceToNat, Int.reduceAdd, Int.reduceSub, Int.reduceMul, Int.reduceEq, Int.reduceNe, Int.reduceBEq, Int.reduceBNe, Int.reducePow])
  refine fin1 _ fun cP cP' cM cM' cD cD' cA cA' hlen hmm => fin8 _ fun xt3 => ?_
  refine outM_call (cD' H7 xt3) ?_
  clear cP cP' cM cM' cD cD' cA cA' hlen hmm
  rintro v8 H8 ⟨hv8, xt4⟩
  rw [if_neg h0] at hv8
  subst hv8
  have fin9 := fun (A : Prop) (h : _ → A) => h (show Xt H2 H8 from ⟨by omega, fun b hb => by rw [xt4.2 b (by omega)]; exact xt3.2 b hb⟩)
  clear xt3 xt4 fin8
  repeat (with_reducible first|(first|refine pO ?_|refine pP ?_|refine pQ ?_|refine pR (by omega) ?_);intros|refine pS ?_|first|refine qA ?_|refine qB ?_|refine qC ?_|refine qD ?_|refine qE ?_|refine qF ?_|refine qG ?_|refine qH ?_|refine qI ?_|refine qJ ?_|refine qK ?_|refine qL ?_|refine qM rfl ?_|refine qN ?_|refine qO ?_|refine qP ?_|refine qQ ?_|refine qR ?_|refine qS ?_|refine qT ?_|refine qU ?_|refine qV ?_|refine qW ?_|refine qX ?_|refine qY ?_|refine qZ ?_|refine pA ?_|refine pB ?_|refine pC ?_|(first|refine pD ?_|refine pE ?_|refine pF ?_|refine pT ?_|refine pG ?_|refine pH ?_|refine pI ?_|refine pJ ?_|refine pK ?_|refine pL ?_|refine pM ?_|refine pN ?_);simp (disch := first | with_reducible assumption | omega) only [go_sem, *, reduceCtorEq, ↓reduceIte, Nat.reduceLT, Nat.reduceBEq, Nat.reduceAdd, Nat.reduceSub, Nat.reduceMul, Nat.reduceDiv, Nat.reduceMod, Nat.reducePow, Nat.reduceEqDiff, Nat.reduceLeDiff, Int.reduceLT, Int.reduceLE, Int.reduceNeg, Int.reduceToNat, Int.reduceAdd, Int.reduceSub, Int.reduceMul, Int.reduceEq, Int.reduceNe, Int.reduceBEq, Int.reduceBNe, Int.reducePow])
  refine fin1 _ fun cP cP' cM cM' cD cD' cA cA' hlen hmm => fin9 _ fun xt3 => ?_
  refine outM_call (cA H8 xt3) ?_
  clear cP cP' cM cM' cD cD' cA cA' hlen hmm
  rintro v9 H9 ⟨⟨a9, o9, rfl, -⟩, xt4⟩
  have fina := fun (A : Prop) (h : _ → A) => h (show Xt H2 H9 from ⟨by omega, fun b hb => by rw [xt4.2 b (by omega)]; exact xt3.2 b hb⟩)
  clear xt3 xt4 fin9
  repeat (with_reducible first|(first|refine pO ?_|refine pP ?_|refine pQ ?_|refine pR (by omega) ?_);intros|refine pS ?_|first|refine qA ?_|refine qB ?_|refine qC ?_|refine qD ?_|refine qE ?_|refine qF ?_|refine qG ?_|refine qH ?_|refine qI ?_|refine qJ ?_|refine qK ?_|refine qL ?_|refine qM rfl ?_|refine qN ?_|refine qO ?_|refine qP ?_|refine qQ ?_|refine qR ?_|refine qS ?_|refine qT ?_|refine qU ?_|refine qV ?_|refine qW ?_|refine qX ?_|refine qY ?_|refine qZ ?_|refine pA ?_|refine pB ?_|refine pC ?_|(first|refine pD ?_|refine pE ?_|refine pF ?_|refine pT ?_|refine pG ?_|refine pH ?_|refine pI ?_|refine pJ ?_|refine pK ?_|refine pL ?_|refine pM ?_|refine pN ?_);simp (disch := first | with_reducible assumption | omega) only [go_sem, *, reduceCtorEq, ↓reduceIte, Nat.reduceLT, Nat.reduceBEq, Nat.reduceAdd, Nat.reduceSub, Nat.reduceMul, Nat.reduceDiv, Nat.reduceMod, Nat.reducePow, Nat.reduceEqDiff, Nat.reduceLeDiff, Int.reduceLT, Int.reduceLE, Int.reduceNeg, Int.reduceToNat, Int.reduceAdd, Int.reduceSub, Int.reduceMul, Int.reduceEq, Int.reduceNe, Int.reduceBEq, Int.reduceBNe, Int.reducePow])
  refine fin1 _ fun cP cP' cM cM' cD cD' cA cA' hlen hmm => fina _ fun xt3 => ?_
  refine outM_call (cA' H9 xt3) ?_
  clear cP cP' cM cM' cD cD' cA cA' xt3 fina fin1
  rintro v9 Ha ⟨⟨aa, oa, rfl, -⟩, -⟩
  rw [hlen]
  clear hlen
  refine fin6 _ fun hmaj => ?_
  clear fin6
  rcases hmaj with ⟨h, rfl, rfl⟩ | ⟨h, rfl, rfl⟩
  · obtain rfl := hmm h
    clear hmm
    repeat (with_reducible first|(first|refine pO ?_|refine pP ?_|refine pQ ?_|refine pR (by omega) ?_);intros|refine pS ?_|first|refine qA ?_|refine qB ?_|refine qC ?_|refine qD ?_|refine qE ?_|refine qF ?_|refine qG ?_|refine qH ?_|refine qI ?_|refine qJ ?_|refine qK ?_|refine qL ?_|refine qM rfl ?_|refine qN ?_|refine qO ?_|refine qP ?_|refine qQ ?_|refine qR ?_|refine qS ?_|refine qT ?_|refine qU ?_|refine qV ?_|refine qW ?_|refine qX ?_|refine qY ?_|refine qZ ?_|refine pA ?_|refine pB ?_|refine pC ?_|(first|refine pD ?_|refine pE ?_|refine pF ?_|refine pT ?_|refine pG ?_|refine pH ?_|refine pI ?_|refine pJ ?_|refine pK ?_|refine pL ?_|refine pM ?_|refine pN ?_);simp (disch := first | with_reducible assumption | omega) only [go_sem, *, reduceCtorEq, ↓reduceIte, Nat.reduceLT, Nat.reduceBEq, Nat.reduceAdd, Nat.reduceSub, Nat.reduceMul, Nat.reduceDiv, Nat.reduceMod, Nat.reducePow, Nat.reduceEqDiff, Nat.reduceLeDiff, Int.reduceLT, Int.reduceLE, Int.reduceNeg, Int.reduceToNat, Int.reduceAdd, Int.reduceSub, Int.reduceMul, Int.reduceEq, Int.reduceNe, Int.reduceBEq, Int.reduceBNe, Int.reducePow])
    with_reducible rfl
  · clear hmm
    repeat (with_reducible first|(first|refine pO ?_|refine pP ?_|refine pQ ?_|refine pR (by omega) ?_);intros|refine pS ?_|first|refine qA ?_|refine qB ?_|refine qC ?_|refine qD ?_|refine qE ?_|refine qF ?_|refine qG ?_|refine qH ?_|refine qI ?_|refine qJ ?_|refine qK ?_|refine qL ?_|refine qM rfl ?_|refine qN ?_|refine qO ?_|refine qP ?_|refine qQ ?_|refine qR ?_|refine qS ?_|refine qT ?_|refine qU ?_|refine qV ?_|refine qW ?_|refine qX ?_|refine qY ?_|refine qZ ?_|refine pA ?_|refine pB ?_|refine pC ?_|(first|refine pD ?_|refine pE ?_|refine pF ?_|refine pT ?_|refine pG ?_|refine pH ?_|refine pI ?_|refine pJ ?_|refine pK ?_|refine pL ?_|refine pM ?_|refine pN ?_);simp (disch := first | with_reducible assumption | omega) only [go_sem, *, reduceCtorEq, ↓reduceIte, Nat.reduceLT, Nat.reduceBEq, Nat.reduceAdd, Nat.reduceSub, Nat.reduceMul, Nat.reduceDiv, Nat.reduceMod, Nat.reducePow, Nat.reduceEqDiff, Nat.reduceLeDiff, Int.reduceLT, Int.reduceLE, Int.reduceNeg, Int.reduceToNat, Int.reduceAdd, Int.reduceSub, Int.reduceMul, Int.reduceEq, Int.reduceNe, Int.reduceBEq, Int.reduceBNe, Int.reducePow])
    with_reducible rfl
theorem same_wc (H : Heap) (_ : Begins [] H) {x1 : List Int} {x2 x3 : Int} {a1 a2 a3 : V} (h1 : VwV (.sl (.int .i64)) H x1 a1) (h2 : VwV (.int .i64) H x2 a2) (h3 : VwV (.int .i64) H x3 a3) : WC F fn_rotalaw22_VoteSame [a1, a2, a3] H fun v _ => v = .c (.bool true) := by
  obtain ⟨a, c, rfl, hs, hw, hc⟩ := VwV.intsC h1
  obtain ⟨rfl, -, -⟩ := h2.i64
  obtain ⟨rfl, h5, h6⟩ := h3.i64
  exact same_law hc hs hw ⟨h5, h6⟩
end Go.Proofs.Ytcjonjncekcfhaa.AM.D22
