/- The law PortLast. -/
import Derived.Test.YtdekplnphbjgbaaD04j
set_option linter.unusedVariables false
set_option linter.unusedSimpArgs false
set_option linter.unusedSectionVars false
namespace Go.Proofs.Ytdekplnphbjgbaa.AM.D04
open Go Go.Proofs.Ytdekplnphbjgbaa.AM
set_option maxHeartbeats 2000000
set_option maxRecDepth 100000
attribute [local go_sem] ev_L k_ev Env.up_app Env.of_app aop_mv aop_pick aop_bin aop_eq aop_eqagg aop_un aop_cv aop_nilck aop_ld aop_st aop_iaS aop_iaA aop_fa aop_fld aop_ix aop_ext aop_len aop_lenK aop_box aop_new aop_build aop_bsl aop_mkfn aop_call callO_fn callO_yld aop_app aop_appT aop_cpy aop_clr aop_ins aop_look aop_mksl aop_mkmap aop_s2b s2bO_str mkslO_int aop_slS aop_same aop_b2s fillB_nil outO outS Option.map_none List.length_cons List.length_nil List.length_append List.length_set List.length_replicate List.set_cons_zero List.set_cons_succ pickO_true pickO_false binO_c eqO_c eqaO_agg unO_c cvO_int nilckO_ptr nilckO_fn ldO_one ldO_row stO_one stO_if okA_some oa_some iaSO_sl iaSO_some iaAO_ptr faO_ptr fldO_agg ixO_agg extO_tup lenO_sl lenO_str V.cells_c V.cells_agg Option.map_some Option.bind_some Option.getD_some List.getElem?_cons_zero List.getElem?_cons_succ List.map_cons List.map_nil V.pc Pc.v asI adsOf adOf Int.toNat_natCast Nat.mul_one Nat.zero_mul Int.ofNat_lt lss_int leq_int gtr_int geq_int eql_int neq_int and_int or_int xor_int andNot_int shr_u8_i shr_u16_i shr_u32_i shr_u64_i shr_i64_i and_u8_i and_u16_i and_u32_i and_u64_i or_u8_i or_u16_i or_u32_i or_u64_i xor_u8_i xor_u16_i xor_u32_i xor_u64_i wrap_u8_i wrap_u16_i wrap_u32_i wrap_u64_i wr_i64 and15 and1 and7 addA_mk Nat.zero_add Nat.add_zero beq_self_eq_true dec_t dec_f decide_true decide_false not_true_eq_false Int.natCast_inj Bool.not_true Bool.not_false Bool.false_eq_true if_true if_false Int.cast_ofNat_Int ne_eq not_false_eq_true Ex.exit.injEq resOf resV L_get? List.mapM_cons List.mapM_nil shutAll_nil shutAll_one ld_blk ldn_blk st_blk ldB_some ldnB_some stB_some put_nil put_cons rdK_ld rdK_b2s List.append_nil List.nil_append List.cons_append List.zip_cons_cons List.zip_nil_left List.zip_nil_right List.foldl_cons List.foldl_nil L_set L_set' rd_one rd_row Option.pure_def Option.bind_eq_bind and_self and_true true_and bne_t bne_f Option.isNone_some Option.isNone_none eqC_bb eqC_pn eqC_ps eqC_sn eqC_ss eqC_fn1 eqC_fn2 eqC_fn3 eqC_mn eqC_ms nats_len nats_get aop_slA slAO_all fillB_cons sameO eq_self add_u8_i add_u16_i add_u32_i add_u64_i mul_u8_i mul_u16_i mul_u32_i mul_u64_i sub_u8_i sub_u16_i sub_u32_i sub_u64_i quo_u8_i quo_u16_i quo_u32_i quo_u64_i rem_u8_i rem_u16_i rem_u32_i rem_u64_i shl_u8_i shl_u16_i shl_u32_i shl_u64_i quo_i64_i rem_i64_i shl_i64_i or_i64_i and_i64_i and_i64_15 and_i64_31 or256 str_eql str_add str_neq bstr_append bstr_size b2sO_ld b2sO_nil strOf_nats sub_nats un_xor_u8 un_xor_u16 un_xor_u32 un_xor_u64 un_neg un_not not_dec beq_int bne_int pickO_dec ld_addA ldn_addA st_addA slSO_lohi slSO_hi Nat.mod_eq_of_lt if_pos if_neg
attribute [local go_sem 500] wrap_u8_z wrap_u16_z wrap_u32_z wrap_u64_z add_int sub_int mul_int
theorem rep6 (c : Cell) : List.replicate 6 c = [c, c, c, c, c, c] := rfl
attribute [-go_sem] b2sO_ld
attribute [local go_sem] tn_add1 tn_sub1 put_all' rep6 Option.isSome_none Option.isSome_some
theorem s_most {H : Heap} {n : Nat} {m : Int} (hn : n < 256) (hm : 0 < m ∧ m < 100) : WC F fn_rotalaw04_most [.c (.int .u8 (n : Nat)), .c (.int .i64 m)] H fun v H' => v = .c (.int .i64 (1 + (n : Int) % m)) ∧ H' = H := by
  have h1 : 0 ≤ (n : Int) % m := Int.emod_nonneg _ (by omega)
  have h2 : (n : Int) % m < m := Int.emod_lt_of_pos _ hm.1
  refine WC_start e_rotalaw04_most (by simp) ?_
  unfold c_rotalaw04_most
  have hr : binC .rem (.int .i64 (n : Int)) (.int .i64 m) = some (.int .i64 ((n : Int) % m)) := rem_i64_i (by omega)
  generalize (n : Int) % m = q at *
  repeat (with_reducible first|(first|refine pO ?_|refine pP ?_|refine pQ ?_|refine pR (by omega) ?_);intros|refine pS ?_|first|refine qA ?_|refine qB ?_|refine qC ?_|refine qD ?_|refine qE ?_|refine qF ?_|refine qG ?_|refine qH ?_|refine qI ?_|refine qJ ?_|refine qK ?_|refine qL ?_|refine qM rfl ?_|refine qN ?_|refine qO ?_|refine qP ?_|refine qQ ?_|refine qR ?_|refine qS ?_|refine qT ?_|refine qU ?_|refine qV ?_|refine qW ?_|refine qX ?_|refine qY ?_|refine qZ ?_|refine pA ?_|refine pB ?_|refine pC ?_|(first|refine pD ?_|refine pE ?_|refine pF ?_|refine pG ?_|refine pH ?_|refine pI ?_|refine pJ ?_|refine pK ?_|refine pL ?_|refine pM ?_|refine pN ?_);simp (disch := first | with_reducible assumption | omega) only [go_sem, *, reduceCtorEq, ↓reduceIte, Nat.reduceLT, Nat.reduceBEq, Nat.reduceAdd, Nat.reduceSub, Nat.reduceMul, Nat.reduceDiv, Nat.reduceMod, Nat.reducePow, Nat.reduceEqDiff, Nat.reduceLeDiff, Int.reduceLT, Int.reduceLE, Int.reduceNeg, Int.reduceToNat, Int.reduceAdd, Int.reduceSub, Int.reduceMul, Int.reduceEq, Int.reduceNe, Int.reduceBEq, Int.reduceBNe, Int.reducePow])
  exact ⟨rfl, rfl⟩
/-- A message of the law's. -/
def two (n v : Nat) : List Nat := ((List.replicate n 0).set 0 v).set (n - 1) v
theorem two_len (n v : Nat) : (two n v).length = n := by simp [two]
theorem two_by {n v : Nat} (hv : v < 256) : ∀ b ∈ two n v, b < 256 := by
  intro b hb
  unfold two at hb
  rcases List.mem_or_eq_of_mem_set hb with hb | rfl
  · rcases List.mem_or_eq_of_mem_set hb with hb | rfl
    · have := List.eq_of_mem_replicate hb; omega
    · exact hv
  · exact hv
theorem nats_set (k : IntKind) (l : List Nat) (i v : Nat) : (nats k l).set i (.int k (v : Nat)) = nats k (l.set i v) := by
  unfold nats; rw [List.map_set]
theorem grows_zero (n : Nat) : grows [Cell.int .u8 0] n = nats .u8 (List.replicate n 0) := by
  unfold grows nats
  induction n with
  | zero => rfl
  | succ n ih => rw [List.replicate_succ, List.flatten_cons, ih, List.replicate_succ, List.map_cons]; rfl
theorem mk_zero {n : Nat} (hn : n ≤ 100000) (H : Heap) : mkslO 1 1 [Cell.int .u8 0] (.c (.int .i64 (n : Nat))) (.c (.int .i64 (n : Nat))) H = some (.v (.c (.sl (some (H.length, 0)) n n false)), H ++ [.cells (nats .u8 (List.replicate n 0)) false none]) := by
  rw [mkslO_int (sz := 1) (by omega) rfl, Int.toNat_natCast, grows_zero]
theorem last_law {H : Heap} {n0 : Nat} {x2 : List Int} {a2 : V} (hn0 : n0 < 256) (h2 : VwV (.sl (.int .u8)) H x2 a2) :
    WC F fn_rotalaw04_PortLast [.c (.int .u8 (n0 : Nat)), a2] H fun v _ => v = .c (.bool true) := by
  refine WC_start e_rotalaw04_PortLast (by simp) ?_
  unfold c_rotalaw04_PortLast
  repeat (with_reducible first|(first|refine pO ?_|refine pP ?_|refine pQ ?_|refine pR (by omega) ?_);intros|refine pS ?_|first|refine qA ?_|refine qB ?_|refine qC ?_|refine qD ?_|refine qE ?_|refine qF ?_|refine qG ?_|refine qH ?_|refine qI ?_|refine qJ ?_|refine qK ?_|refine qL ?_|refine qM rfl ?_|refine qN ?_|refine qO ?_|refine qP ?_|refine qQ ?_|refine qR ?_|refine qS ?_|refine qT ?_|refine qU ?_|refine qV ?_|refine qW ?_|refine qX ?_|refine qY ?_|refine qZ ?_|refine pA ?_|refine pB ?_|refine pC ?_|(first|refine pD ?_|refine pE ?_|refine pF ?_|refine pG ?_|refine pH ?_|refine pI ?_|refine pJ ?_|refine pK ?_|refine pL ?_|refine pM ?_|refine pN ?_);simp (disch := first | with_reducible assumption | omega) only [go_sem, *, reduceCtorEq, ↓reduceIte, Nat.reduceLT, Nat.reduceBEq, Nat.reduceAdd, Nat.reduceSub, Nat.reduceMul, Nat.reduceDiv, Nat.reduceMod, Nat.reducePow, Nat.reduceEqDiff, Nat.reduceLeDiff, Int.reduceLT, Int.reduceLE, Int.reduceNeg, Int.reduceToNat, Int.reduceAdd, Int.reduceSub, Int.reduceMul, Int.reduceEq, Int.reduceNe, Int.reduceBEq, Int.reduceBNe, Int.reducePow])
  refine outM_call s_alive ?_
  rintro _ H1 ⟨rfl, k1⟩
  obtain ⟨a, c, l, rfl, hs, hc, -, hby⟩ := (h2.keep k1.ro).nats rfl
  replace hby : ∀ x ∈ l, x < 256 := by simpa [IntKind.bits] using hby
  clear k1 h2
  by_cases hbig : 500 < (l.length : Int)
  · repeat (with_reducible first|(first|refine pO ?_|refine pP ?_|refine pQ ?_|refine pR (by omega) ?_);intros|refine pS ?_|first|refine qA ?_|refine qB ?_|refine qC ?_|refine qD ?_|refine qE ?_|refine qF ?_|refine qG ?_|refine qH ?_|refine qI ?_|refine qJ ?_|refine qK ?_|refine qL ?_|refine qM rfl ?_|refine qN ?_|refine qO ?_|refine qP ?_|refine qQ ?_|refine qR ?_|refine qS ?_|refine qT ?_|refine qU ?_|refine qV ?_|refine qW ?_|refine qX ?_|refine qY ?_|refine qZ ?_|refine pA ?_|refine pB ?_|refine pC ?_|(first|refine pD ?_|refine pE ?_|refine pF ?_|refine pG ?_|refine pH ?_|refine pI ?_|refine pJ ?_|refine pK ?_|refine pL ?_|refine pM ?_|refine pN ?_);simp (disch := first | with_reducible assumption | omega) only [go_sem, *, reduceCtorEq, ↓reduceIte, Nat.reduceLT, Nat.reduceBEq, Nat.reduceAdd, Nat.reduceSub, Nat.reduceMul, Nat.reduceDiv, Nat.reduceMod, Nat.reducePow, Nat.reduceEqDiff, Nat.reduceLeDiff, Int.reduceLT, Int.reduceLE, Int.reduceNeg, Int.reduceToNat, Int.reduceAdd, Int.reduceSub, Int.reduceMul, Int.reduceEq, Int.reduceNe, Int.reduceBEq, Int.reduceBNe, Int.reducePow])
    with_reducible rfl
  repeat (with_reducible first|(first|refine pO ?_|refine pP ?_|refine pQ ?_|refine pR (by omega) ?_);intros|refine pS ?_|first|refine qA ?_|refine qB ?_|refine qC ?_|refine qD ?_|refine qE ?_|refine qF ?_|refine qG ?_|refine qH ?_|refine qI ?_|refine qJ ?_|refine qK ?_|refine qL ?_|refine qM rfl ?_|refine qN ?_|refine qO ?_|refine qP ?_|refine qQ ?_|refine qR ?_|refine qS ?_|refine qT ?_|refine qU ?_|refine qV ?_|refine qW ?_|refine qX ?_|refine qY ?_|refine qZ ?_|refine pA ?_|refine pB ?_|refine pC ?_|(first|refine pD ?_|refine pE ?_|refine pF ?_|refine pG ?_|refine pH ?_|refine pI ?_|refine pJ ?_|refine pK ?_|refine pL ?_|refine pM ?_|refine pN ?_);simp (disch := first | with_reducible assumption | omega) only [go_sem, *, reduceCtorEq, ↓reduceIte, Nat.reduceLT, Nat.reduceBEq, Nat.reduceAdd, Nat.reduceSub, Nat.reduceMul, Nat.reduceDiv, Nat.reduceMod, Nat.reducePow, Nat.reduceEqDiff, Nat.reduceLeDiff, Int.reduceLT, Int.reduceLE, Int.reduceNeg, Int.reduceToNat, Int.reduceAdd, Int.reduceSub, Int.reduceMul, Int.reduceEq, Int.reduceNe, Int.reduceBEq, Int.reduceBNe, Int.reducePow])
  refine outM_call (s_most (m := 32) hn0 (by omega)) ?_
  rintro _ H1 ⟨rfl, rfl⟩
  obtain ⟨n, hn, hn1, hn2⟩ : ∃ n : Nat, 1 + (n0 : Int) % 32 = n ∧ 1 ≤ n ∧ n ≤ 32 := ⟨1 + n0 % 32, by omega, by omega, by omega⟩
  rw [hn]
  clear hn
  have hpok : (⟨0, 1, 1, n, 0, 0⟩ : Pt).ok := by unfold Pt.ok; dsimp only; omega
  have hnew := s_NewX (H := H1) hpok (fun c => c < H1.length) (fun c hc => hc)
  clear hpok
  repeat (with_reducible first|(first|refine pO ?_|refine pP ?_|refine pQ ?_|refine pR (by omega) ?_);intros|refine pS ?_|first|refine qA ?_|refine qB ?_|refine qC ?_|refine qD ?_|refine qE ?_|refine qF ?_|refine qG ?_|refine qH ?_|refine qI ?_|refine qJ ?_|refine qK ?_|refine qL ?_|refine qM rfl ?_|refine qN ?_|refine qO ?_|refine qP ?_|refine qQ ?_|refine qR ?_|refine qS ?_|refine qT ?_|refine qU ?_|refine qV ?_|refine qW ?_|refine qX ?_|refine qY ?_|refine qZ ?_|refine pA ?_|refine pB ?_|refine pC ?_|(first|refine pD ?_|refine pE ?_|refine pF ?_|refine pG ?_|refine pH ?_|refine pI ?_|refine pJ ?_|refine pK ?_|refine pL ?_|refine pM ?_|refine pN ?_);simp (disch := first | with_reducible assumption | omega) only [go_sem, *, reduceCtorEq, ↓reduceIte, Nat.reduceLT, Nat.reduceBEq, Nat.reduceAdd, Nat.reduceSub, Nat.reduceMul, Nat.reduceDiv, Nat.reduceMod, Nat.reducePow, Nat.reduceEqDiff, Nat.reduceLeDiff, Int.reduceLT, Int.reduceLE, Int.reduceNeg, Int.reduceToNat, Int.reduceAdd, Int.reduceSub, Int.reduceMul, Int.reduceEq, Int.reduceNe, Int.reduceBEq, Int.reduceBNe, Int.reducePow])
  refine outM_call hnew ?_
  rintro _ H2 ⟨bb, kp, rfl, hb, ⟨l2, x2⟩, hkp⟩
  clear hnew
  have htk := s_TakeX hb
  have e : (⟨⟨0, 1, 1, n, 0, 0⟩, [], 0, false⟩ : Bx).take = (none, ⟨⟨0, 1, 1, n, 0, 0⟩, [], 0, false⟩) := rfl
  rw [e] at htk
  repeat (with_reducible first|(first|refine pO ?_|refine pP ?_|refine pQ ?_|refine pR (by omega) ?_);intros|refine pS ?_|first|refine qA ?_|refine qB ?_|refine qC ?_|refine qD ?_|refine qE ?_|refine qF ?_|refine qG ?_|refine qH ?_|refine qI ?_|refine qJ ?_|refine qK ?_|refine qL ?_|refine qM rfl ?_|refine qN ?_|refine qO ?_|refine qP ?_|refine qQ ?_|refine qR ?_|refine qS ?_|refine qT ?_|refine qU ?_|refine qV ?_|refine qW ?_|refine qX ?_|refine qY ?_|refine qZ ?_|refine pA ?_|refine pB ?_|refine pC ?_|(first|refine pD ?_|refine pE ?_|refine pF ?_|refine pG ?_|refine pH ?_|refine pI ?_|refine pJ ?_|refine pK ?_|refine pL ?_|refine pM ?_|refine pN ?_);simp (disch := first | with_reducible assumption | omega) only [go_sem, *, reduceCtorEq, ↓reduceIte, Nat.reduceLT, Nat.reduceBEq, Nat.reduceAdd, Nat.reduceSub, Nat.reduceMul, Nat.reduceDiv, Nat.reduceMod, Nat.reducePow, Nat.reduceEqDiff, Nat.reduceLeDiff, Int.reduceLT, Int.reduceLE, Int.reduceNeg, Int.reduceToNat, Int.reduceAdd, Int.reduceSub, Int.reduceMul, Int.reduceEq, Int.reduceNe, Int.reduceBEq, Int.reduceBNe, Int.reducePow])
  refine outM_call htk ?_
  clear htk
  rintro _ H3 ⟨⟨rfl, hb3⟩, l3, x3⟩
  have hln := s_LenX hb3
  repeat (with_reducible first|(first|refine pO ?_|refine pP ?_|refine pQ ?_|refine pR (by omega) ?_);intros|refine pS ?_|first|refine qA ?_|refine qB ?_|refine qC ?_|refine qD ?_|refine qE ?_|refine qF ?_|refine qG ?_|refine qH ?_|refine qI ?_|refine qJ ?_|refine qK ?_|refine qL ?_|refine qM rfl ?_|refine qN ?_|refine qO ?_|refine qP ?_|refine qQ ?_|refine qR ?_|refine qS ?_|refine qT ?_|refine qU ?_|refine qV ?_|refine qW ?_|refine qX ?_|refine qY ?_|refine qZ ?_|refine pA ?_|refine pB ?_|refine pC ?_|(first|refine pD ?_|refine pE ?_|refine pF ?_|refine pG ?_|refine pH ?_|refine pI ?_|refine pJ ?_|refine pK ?_|refine pL ?_|refine pM ?_|refine pN ?_);simp (disch := first | with_reducible assumption | omega) only [go_sem, *, reduceCtorEq, ↓reduceIte, Nat.reduceLT, Nat.reduceBEq, Nat.reduceAdd, Nat.reduceSub, Nat.reduceMul, Nat.reduceDiv, Nat.reduceMod, Nat.reducePow, Nat.reduceEqDiff, Nat.reduceLeDiff, Int.reduceLT, Int.reduceLE, Int.reduceNeg, Int.reduceToNat, Int.reduceAdd, Int.reduceSub, Int.reduceMul, Int.reduceEq, Int.reduceNe, Int.reduceBEq, Int.reduceBNe, Int.reducePow])
  refine outM_call hln ?_
  clear hln
  rintro _ H3 ⟨rfl, rfl⟩
  have hs3 : Sl H3 1 a l.length (nats .u8 l) := hs.to fun b hb => by rw [x3 b (.inl hb)]; exact x2 b hb
  have ll : H1.length ≤ H3.length := by omega
  have hal : ∀ b x, a = some (b, x) → b < H1.length := fun b x e => hs.lt e
  clear hs hb x2 x3 e
  simp only [List.length_nil]
  repeat (with_reducible first|(first|refine pO ?_|refine pP ?_|refine pQ ?_|refine pR (by omega) ?_);intros|refine pS ?_|first|refine qA ?_|refine qB ?_|refine qC ?_|refine qD ?_|refine qE ?_|refine qF ?_|refine qG ?_|refine qH ?_|refine qI ?_|refine qJ ?_|refine qK ?_|refine qL ?_|refine qM rfl ?_|refine qN ?_|refine qO ?_|refine qP ?_|refine qQ ?_|refine qR ?_|refine qS ?_|refine qT ?_|refine qU ?_|refine qV ?_|refine qW ?_|refine qX ?_|refine qY ?_|refine qZ ?_|refine pA ?_|refine pB ?_|refine pC ?_|(first|refine pD ?_|refine pE ?_|refine pF ?_|refine pG ?_|refine pH ?_|refine pI ?_|refine pJ ?_|refine pK ?_|refine pL ?_|refine pM ?_|refine pN ?_);simp (disch := first | with_reducible assumption | omega) only [go_sem, *, reduceCtorEq, ↓reduceIte, Nat.reduceLT, Nat.reduceBEq, Nat.reduceAdd, Nat.reduceSub, Nat.reduceMul, Nat.reduceDiv, Nat.reduceMod, Nat.reducePow, Nat.reduceEqDiff, Nat.reduceLeDiff, Int.reduceLT, Int.reduceLE, Int.reduceNeg, Int.reduceToNat, Int.reduceAdd, Int.reduceSub, Int.reduceMul, Int.reduceEq, Int.reduceNe, Int.reduceBEq, Int.reduceBNe, Int.reducePow])
  refine W_loop (fun m st => ∃ ρ i Hk ms, st = ⟨L 109 ρ, [], Hk⟩ ∧ m = l.length - i ∧ i ≤ l.length ∧ ρ 1 = .c (.sl a l.length c false) ∧ ρ 5 = .c (.bool true) ∧ ρ 6 = .c (.int .i64 (n : Nat)) ∧ ρ 7 = .c (.ptr (some (bb, 0))) ∧ ρ 11 = .c (.int .i64 (i : Nat)) ∧ PBx (fun c => c < H1.length ∨ c = kp) Hk bb kp ⟨⟨0, 1, 1, n, 0, 0⟩, ms, 0, false⟩ ∧ Sl Hk 1 a l.length (nats .u8 l)) l.length ⟨_, 0, H3, [], rfl, rfl, by omega, (by simp (disch := first | with_reducible assumption | omega) only [go_sem, *, reduceCtorEq, ↓reduceIte, Nat.reduceLT, Nat.reduceBEq, Nat.reduceAdd, Nat.reduceSub, Nat.reduceMul, Nat.reduceDiv, Nat.reduceMod, Nat.reducePow, Nat.reduceEqDiff, Nat.reduceLeDiff, Int.reduceLT, Int.reduceLE, Int.reduceNeg, Int.reduceToNat, Int.reduceAdd, Int.reduceSub, Int.reduceMul, Int.reduceEq, Int.reduceNe, Int.reduceBEq, Int.reduceBNe, Int.reducePow]; first | done | rfl), (by simp (disch := first | with_reducible assumption | omega) only [go_sem, *, reduceCtorEq, ↓reduceIte, Nat.reduceLT, Nat.reduceBEq, Nat.reduceAdd, Nat.reduceSub, Nat.reduceMul, Nat.reduceDiv, Nat.reduceMod, Nat.reducePow, Nat.reduceEqDiff, Nat.reduceLeDiff, Int.reduceLT, Int.reduceLE, Int.reduceNeg, Int.reduceToNat, Int.reduceAdd, Int.reduceSub, Int.reduceMul, Int.reduceEq, Int.reduceNe, Int.reduceBEq, Int.reduceBNe, Int.reducePow]; first | done | rfl), (by simp (disch := first | with_reducible assumption | omega) only [go_sem, *, reduceCtorEq, ↓reduceIte, Nat.reduceLT, Nat.reduceBEq, Nat.reduceAdd, Nat.reduceSub, Nat.reduceMul, Nat.reduceDiv, Nat.reduceMod, Nat.reducePow, Nat.reduceEqDiff, Nat.reduceLeDiff, Int.reduceLT, Int.reduceLE, Int.reduceNeg, Int.reduceToNat, Int.reduceAdd, Int.reduceSub, Int.reduceMul, Int.reduceEq, Int.reduceNe, Int.reduceBEq, Int.reduceBNe, Int.reducePow]; first | done | rfl), (by simp (disch := first | with_reducible assumption | omega) only [go_sem, *, reduceCtorEq, ↓reduceIte, Nat.reduceLT, Nat.reduceBEq, Nat.reduceAdd, Nat.reduceSub, Nat.reduceMul, Nat.reduceDiv, Nat.reduceMod, Nat.reducePow, Nat.reduceEqDiff, Nat.reduceLeDiff, Int.reduceLT, Int.reduceLE, Int.reduceNeg, Int.reduceToNat, Int.reduceAdd, Int.reduceSub, Int.reduceMul, Int.reduceEq, Int.reduceNe, Int.reduceBEq, Int.reduceBNe, Int.reducePow]; first | done | rfl), (by simp (disch := first | with_reducible assumption | omega) only [go_sem, *, reduceCtorEq, ↓reduceIte, Nat.reduceLT, Nat.reduceBEq, Nat.reduceAdd, Nat.reduceSub, Nat.reduceMul, Nat.reduceDiv, Nat.reduceMod, Nat.reducePow, Nat.reduceEqDiff, Nat.reduceLeDiff, Int.reduceLT, Int.reduceLE, Int.reduceNeg, Int.reduceToNat, Int.reduceAdd, Int.reduceSub, Int.reduceMul, Int.reduceEq, Int.reduceNe, Int.reduceBEq, Int.reduceBNe, Int.reducePow]; first | done | rfl), hb3, hs3⟩ ?_
  clear hb3 hs3
  rintro m st ⟨ρ, i, Hk, ms, rfl, rfl, hi, e1, e5, e6, e7, e11, hb, hs⟩
  unfold b_rotalaw04_PortLast_22
  by_cases hlt : i < l.length
  · obtain ⟨a, rfl⟩ := hs.is_some (by omega)
    have hld := (hs.ld1 (o := i) (by omega)).trans (nats_get .u8 hlt)
    have hv : gx l i < 256 := by
      have : gx l i = l[i] := by simp [gx, hlt]
      rw [this]; exact hby _ (List.getElem_mem hlt)
    have hlk := hb.lt kp (.inr rfl)
    have hla := hal a.1 a.2 rfl
    have hg := mk_zero (n := n) (by omega)
    generalize hgv : gx l i = v at *
    have hlz : (nats .u8 (List.replicate n 0)).length = n := by rw [nats_len, List.length_replicate]
    repeat (with_reducible first|(first|refine pO ?_|refine pP ?_|refine pQ ?_|refine pR (by omega) ?_);intros|refine pS ?_|first|refine qA ?_|refine qB ?_|refine qC ?_|refine qD ?_|refine qE ?_|refine qF ?_|refine qG ?_|refine qH ?_|refine qI ?_|refine qJ ?_|refine qK ?_|refine qL ?_|refine qM rfl ?_|refine qN ?_|refine qO ?_|refine qP ?_|refine qQ ?_|refine qR ?_|refine qS ?_|refine qT ?_|refine qU ?_|refine qV ?_|refine qW ?_|refine qX ?_|refine qY ?_|refine qZ ?_|refine pA ?_|refine pB ?_|refine pC ?_|(first|refine pD ?_|refine pE ?_|refine pF ?_|refine pG ?_|refine pH ?_|refine pI ?_|refine pJ ?_|refine pK ?_|refine pL ?_|refine pM ?_|refine pN ?_);simp (disch := first | with_reducible assumption | omega) only [go_sem, *, reduceCtorEq, ↓reduceIte, Nat.reduceLT, Nat.reduceBEq, Nat.reduceAdd, Nat.reduceSub, Nat.reduceMul, Nat.reduceDiv, Nat.reduceMod, Nat.reducePow, Nat.reduceEqDiff, Nat.reduceLeDiff, Int.reduceLT, Int.reduceLE, Int.reduceNeg, Int.reduceToNat, Int.reduceAdd, Int.reduceSub, Int.reduceMul, Int.reduceEq, Int.reduceNe, Int.reduceBEq, Int.reduceBNe, Int.reducePow])
    rename_i b5 H5 p5 g5 x5 H6 l6 g6 x6 H7 l7 g7 x7
    have g7' : H7[b5]? = some (.cells (nats .u8 (two n v)) false none) := by rw [g7, nats_set, nats_set]; rfl
    have hx7 : ∀ c, c < Hk.length → H7[c]? = Hk[c]? := fun c hc => by simp (disch := first | with_reducible assumption | omega) only [go_sem, *, reduceCtorEq, ↓reduceIte, Nat.reduceLT, Nat.reduceBEq, Nat.reduceAdd, Nat.reduceSub, Nat.reduceMul, Nat.reduceDiv, Nat.reduceMod, Nat.reducePow, Nat.reduceEqDiff, Nat.reduceLeDiff, Int.reduceLT, Int.reduceLE, Int.reduceNeg, Int.reduceToNat, Int.reduceAdd, Int.reduceSub, Int.reduceMul, Int.reduceEq, Int.reduceNe, Int.reduceBEq, Int.reduceBNe, Int.reducePow]
    have hb7 : PBx (fun c => (c < H1.length ∨ c = kp) ∨ c = b5) H7 bb kp _ := hb.ext (K' := fun c => (c < H1.length ∨ c = kp) ∨ c = b5) (by omega) (fun c hc _ => hx7 c hc) (fun c hc => by rcases hc with hc | hc; exact .inl hc; exact .inr (by omega)) (.inl (.inr rfl))
    have hs7 : Sl H7 1 (some a) l.length (nats .u8 l) := hs.to hx7
    have hsd : Sl H7 1 (some (b5, 0)) (two n v).length (nats .u8 (two n v)) := Sl.blk g7' (by rw [nats_len])
    have hl2 := two_len n v
    have ltb : ∀ b ∈ two n v, b < 256 := two_by hv
    have es : (⟨⟨0, 1, 1, n, 0, 0⟩, ms, 0, false⟩ : Bx).send (two n v) = (0, ⟨⟨0, 1, 1, n, 0, 0⟩, [two n v], 0, false⟩) := by
      simp [Bx.send, Bx.put, hl2]
    have hsend := s_SendX (c := n) (o := false) hb7 hsd ltb
    rw [es, hl2] at hsend
    clear es hb hs hx7 hg hlz g7 x7 g6 x6 g5 x5 hld hby hsd
    generalize two n v = d at *
    refine outM_call hsend ?_
    clear hsend
    rintro _ H8 ⟨rfl, hb8, l8, x8⟩
    have g8 := (x8 b5 (.inr rfl)).trans g7'
    have hs8 : Sl H8 1 (some a) l.length (nats .u8 l) := hs7.keep fun b x e => by cases e; exact x8 _ (.inl (.inl hla))
    have w1 := s_LenX hb8
    have w2 := s_TakeX hb8
    have et : (⟨⟨0, 1, 1, n, 0, 0⟩, [d], 0, false⟩ : Bx).take = (some d, ⟨⟨0, 1, 1, n, 0, 0⟩, [d], 0, false⟩) := rfl
    rw [et] at w2
    clear hb7 hs7 g7' x8
    repeat (with_reducible first|(first|refine pO ?_|refine pP ?_|refine pQ ?_|refine pR (by omega) ?_);intros|refine pS ?_|first|refine qA ?_|refine qB ?_|refine qC ?_|refine qD ?_|refine qE ?_|refine qF ?_|refine qG ?_|refine qH ?_|refine qI ?_|refine qJ ?_|refine qK ?_|refine qL ?_|refine qM rfl ?_|refine qN ?_|refine qO ?_|refine qP ?_|refine qQ ?_|refine qR ?_|refine qS ?_|refine qT ?_|refine qU ?_|refine qV ?_|refine qW ?_|refine qX ?_|refine qY ?_|refine qZ ?_|refine pA ?_|refine pB ?_|refine pC ?_|(first|refine pD ?_|refine pE ?_|refine pF ?_|refine pG ?_|refine pH ?_|refine pI ?_|refine pJ ?_|refine pK ?_|refine pL ?_|refine pM ?_|refine pN ?_);simp (disch := first | with_reducible assumption | omega) only [go_sem, *, reduceCtorEq, ↓reduceIte, Nat.reduceLT, Nat.reduceBEq, Nat.reduceAdd, Nat.reduceSub, Nat.reduceMul, Nat.reduceDiv, Nat.reduceMod, Nat.reducePow, Nat.reduceEqDiff, Nat.reduceLeDiff, Int.reduceLT, Int.reduceLE, Int.reduceNeg, Int.reduceToNat, Int.reduceAdd, Int.reduceSub, Int.reduceMul, Int.reduceEq, Int.reduceNe, Int.reduceBEq, Int.reduceBNe, Int.reducePow])
    refine outM_call w1 ?_
    rintro _ H8 ⟨rfl, rfl⟩
    clear w1 hb8
    simp only [List.length_singleton]
    repeat (with_reducible first|(first|refine pO ?_|refine pP ?_|refine pQ ?_|refine pR (by omega) ?_);intros|refine pS ?_|first|refine qA ?_|refine qB ?_|refine qC ?_|refine qD ?_|refine qE ?_|refine qF ?_|refine qG ?_|refine qH ?_|refine qI ?_|refine qJ ?_|refine qK ?_|refine qL ?_|refine qM rfl ?_|refine qN ?_|refine qO ?_|refine qP ?_|refine qQ ?_|refine qR ?_|refine qS ?_|refine qT ?_|refine qU ?_|refine qV ?_|refine qW ?_|refine qX ?_|refine qY ?_|refine qZ ?_|refine pA ?_|refine pB ?_|refine pC ?_|(first|refine pD ?_|refine pE ?_|refine pF ?_|refine pG ?_|refine pH ?_|refine pI ?_|refine pJ ?_|refine pK ?_|refine pL ?_|refine pM ?_|refine pN ?_);simp (disch := first | with_reducible assumption | omega) only [go_sem, *, reduceCtorEq, ↓reduceIte, Nat.reduceLT, Nat.reduceBEq, Nat.reduceAdd, Nat.reduceSub, Nat.reduceMul, Nat.reduceDiv, Nat.reduceMod, Nat.reducePow, Nat.reduceEqDiff, Nat.reduceLeDiff, Int.reduceLT, Int.reduceLE, Int.reduceNeg, Int.reduceToNat, Int.reduceAdd, Int.reduceSub, Int.reduceMul, Int.reduceEq, Int.reduceNe, Int.reduceBEq, Int.reduceBNe, Int.reducePow])
    refine outM_call w2 ?_
    clear w2
    rintro _ H9 ⟨⟨m1, rfl, gm1, hm1, hb9⟩, l9, x9⟩
    have g9 := (x9 b5 (.inr rfl)).trans g8
    have hs9 : Sl H9 1 (some a) l.length (nats .u8 l) := hs8.keep fun b x e => by cases e; exact x9 _ (.inl (.inl hla))
    have w2 := s_TakeX hb9
    rw [et] at w2
    clear hs8 g8 x9 et
    repeat (with_reducible first|(first|refine pO ?_|refine pP ?_|refine pQ ?_|refine pR (by omega) ?_);intros|refine pS ?_|first|refine qA ?_|refine qB ?_|refine qC ?_|refine qD ?_|refine qE ?_|refine qF ?_|refine qG ?_|refine qH ?_|refine qI ?_|refine qJ ?_|refine qK ?_|refine qL ?_|refine qM rfl ?_|refine qN ?_|refine qO ?_|refine qP ?_|refine qQ ?_|refine qR ?_|refine qS ?_|refine qT ?_|refine qU ?_|refine qV ?_|refine qW ?_|refine qX ?_|refine qY ?_|refine qZ ?_|refine pA ?_|refine pB ?_|refine pC ?_|(first|refine pD ?_|refine pE ?_|refine pF ?_|refine pG ?_|refine pH ?_|refine pI ?_|refine pJ ?_|refine pK ?_|refine pL ?_|refine pM ?_|refine pN ?_);simp (disch := first | with_reducible assumption | omega) only [go_sem, *, reduceCtorEq, ↓reduceIte, Nat.reduceLT, Nat.reduceBEq, Nat.reduceAdd, Nat.reduceSub, Nat.reduceMul, Nat.reduceDiv, Nat.reduceMod, Nat.reducePow, Nat.reduceEqDiff, Nat.reduceLeDiff, Int.reduceLT, Int.reduceLE, Int.reduceNeg, Int.reduceToNat, Int.reduceAdd, Int.reduceSub, Int.reduceMul, Int.reduceEq, Int.reduceNe, Int.reduceBEq, Int.reduceBNe, Int.reducePow])
    refine outM_call w2 ?_
    clear w2
    rintro _ H10 ⟨⟨m2, rfl, gm2, hm2, hb10⟩, l10, x10⟩
    have g10 := (x10 b5 (.inl (.inr rfl))).trans g9
    have gm1' := (x10 m1 (.inr rfl)).trans gm1
    have hs10 : Sl H10 1 (some a) l.length (nats .u8 l) := hs9.keep fun b x e => by cases e; exact x10 _ (.inl (.inl (.inl hla)))
    have hbf := hb10.mono (K' := fun c => c < H1.length ∨ c = kp) (fun c hc => .inl (.inl (.inl hc))) (.inr rfl)
    have f1 : b2sO H10 (.c (msgC m1 d)) = some (.c (.str (bstr d))) := b2sO_of (Sl.blk gm1' (by rw [nats_len]))
    have f2 : b2sO H10 (.c (msgC m2 d)) = some (.c (.str (bstr d))) := b2sO_of (Sl.blk gm2 (by rw [nats_len]))
    have f3 : b2sO H10 (.c (.sl (some (b5, 0)) d.length d.length false)) = some (.c (.str (bstr d))) := b2sO_of (Sl.blk g10 (by rw [nats_len]))
    have f4 : binC .neq (.str (bstr d)) (.str (bstr d)) = some (.bool false) := by rw [str_neq ⟨ltb, ltb⟩]; simp
    rw [hl2] at f3
    clear hb9 hb10 hs9 g9 gm1 gm1' gm2 g10 x10
    repeat (with_reducible first|(first|refine pO ?_|refine pP ?_|refine pQ ?_|refine pR (by omega) ?_);intros|refine pS ?_|first|refine qA ?_|refine qB ?_|refine qC ?_|refine qD ?_|refine qE ?_|refine qF ?_|refine qG ?_|refine qH ?_|refine qI ?_|refine qJ ?_|refine qK ?_|refine qL ?_|refine qM rfl ?_|refine qN ?_|refine qO ?_|refine qP ?_|refine qQ ?_|refine qR ?_|refine qS ?_|refine qT ?_|refine qU ?_|refine qV ?_|refine qW ?_|refine qX ?_|refine qY ?_|refine qZ ?_|refine pA ?_|refine pB ?_|refine pC ?_|(first|refine pD ?_|refine pE ?_|refine pF ?_|refine pG ?_|refine pH ?_|refine pI ?_|refine pJ ?_|refine pK ?_|refine pL ?_|refine pM ?_|refine pN ?_);simp (disch := first | with_reducible assumption | omega) only [go_sem, *, reduceCtorEq, ↓reduceIte, Nat.reduceLT, Nat.reduceBEq, Nat.reduceAdd, Nat.reduceSub, Nat.reduceMul, Nat.reduceDiv, Nat.reduceMod, Nat.reducePow, Nat.reduceEqDiff, Nat.reduceLeDiff, Int.reduceLT, Int.reduceLE, Int.reduceNeg, Int.reduceToNat, Int.reduceAdd, Int.reduceSub, Int.reduceMul, Int.reduceEq, Int.reduceNe, Int.reduceBEq, Int.reduceBNe, Int.reducePow])
    exact loopQ_n (l.length - (i + 1)) (by omega) ⟨_, i + 1, H10, _, rfl, rfl, by omega, (by simp (disch := first | with_reducible assumption | omega) only [go_sem, *, reduceCtorEq, ↓reduceIte, Nat.reduceLT, Nat.reduceBEq, Nat.reduceAdd, Nat.reduceSub, Nat.reduceMul, Nat.reduceDiv, Nat.reduceMod, Nat.reducePow, Nat.reduceEqDiff, Nat.reduceLeDiff, Int.reduceLT, Int.reduceLE, Int.reduceNeg, Int.reduceToNat, Int.reduceAdd, Int.reduceSub, Int.reduceMul, Int.reduceEq, Int.reduceNe, Int.reduceBEq, Int.reduceBNe, Int.reducePow]; first | done | rfl), (by simp (disch := first | with_reducible assumption | omega) only [go_sem, *, reduceCtorEq, ↓reduceIte, Nat.reduceLT, Nat.reduceBEq, Nat.reduceAdd, Nat.reduceSub, Nat.reduceMul, Nat.reduceDiv, Nat.reduceMod, Nat.reducePow, Nat.reduceEqDiff, Nat.reduceLeDiff, Int.reduceLT, Int.reduceLE, Int.reduceNeg, Int.reduceToNat, Int.reduceAdd, Int.reduceSub, Int.reduceMul, Int.reduceEq, Int.reduceNe, Int.reduceBEq, Int.reduceBNe, Int.reducePow]; first | done | rfl), (by simp (disch := first | with_reducible assumption | omega) only [go_sem, *, reduceCtorEq, ↓reduceIte, Nat.reduceLT, Nat.reduceBEq, Nat.reduceAdd, Nat.reduceSub, Nat.reduceMul, Nat.reduceDiv, Nat.reduceMod, Nat.reducePow, Nat.reduceEqDiff, Nat.reduceLeDiff, Int.reduceLT, Int.reduceLE, Int.reduceNeg, Int.reduceToNat, Int.reduceAdd, Int.reduceSub, Int.reduceMul, Int.reduceEq, Int.reduceNe, Int.reduceBEq, Int.reduceBNe, Int.reducePow]; first | done | rfl), (by simp (disch := first | with_reducible assumption | omega) only [go_sem, *, reduceCtorEq, ↓reduceIte, Nat.reduceLT, Nat.reduceBEq, Nat.reduceAdd, Nat.reduceSub, Nat.reduceMul, Nat.reduceDiv, Nat.reduceMod, Nat.reducePow, Nat.reduceEqDiff, Nat.reduceLeDiff, Int.reduceLT, Int.reduceLE, Int.reduceNeg, Int.reduceToNat, Int.reduceAdd, Int.reduceSub, Int.reduceMul, Int.reduceEq, Int.reduceNe, Int.reduceBEq, Int.reduceBNe, Int.reducePow]; first | done | rfl), (by simp (disch := first | with_reducible assumption | omega) only [go_sem, *, reduceCtorEq, ↓reduceIte, Nat.reduceLT, Nat.reduceBEq, Nat.reduceAdd, Nat.reduceSub, Nat.reduceMul, Nat.reduceDiv, Nat.reduceMod, Nat.reducePow, Nat.reduceEqDiff, Nat.reduceLeDiff, Int.reduceLT, Int.reduceLE, Int.reduceNeg, Int.reduceToNat, Int.reduceAdd, Int.reduceSub, Int.reduceMul, Int.reduceEq, Int.reduceNe, Int.reduceBEq, Int.reduceBNe, Int.reducePow]; first | done | rfl), hbf, hs10⟩
  · clear hb hs
    repeat (with_reducible first|(first|refine pO ?_|refine pP ?_|refine pQ ?_|refine pR (by omega) ?_);intros|refine pS ?_|first|refine qA ?_|refine qB ?_|refine qC ?_|refine qD ?_|refine qE ?_|refine qF ?_|refine qG ?_|refine qH ?_|refine qI ?_|refine qJ ?_|refine qK ?_|refine qL ?_|refine qM rfl ?_|refine qN ?_|refine qO ?_|refine qP ?_|refine qQ ?_|refine qR ?_|refine qS ?_|refine qT ?_|refine qU ?_|refine qV ?_|refine qW ?_|refine qX ?_|refine qY ?_|refine qZ ?_|refine pA ?_|refine pB ?_|refine pC ?_|(first|refine pD ?_|refine pE ?_|refine pF ?_|refine pG ?_|refine pH ?_|refine pI ?_|refine pJ ?_|refine pK ?_|refine pL ?_|refine pM ?_|refine pN ?_);simp (disch := first | with_reducible assumption | omega) only [go_sem, *, reduceCtorEq, ↓reduceIte, Nat.reduceLT, Nat.reduceBEq, Nat.reduceAdd, Nat.reduceSub, Nat.reduceMul, Nat.reduceDiv, Nat.reduceMod, Nat.reducePow, Nat.reduceEqDiff, Nat.reduceLeDiff, Int.reduceLT, Int.reduceLE, Int.reduceNeg, Int.reduceToNat, Int.reduceAdd, Int.reduceSub, Int.reduceMul, Int.reduceEq, Int.reduceNe, Int.reduceBEq, Int.reduceBNe, Int.reducePow])
    with_reducible rfl
theorem last_wc (H : Heap) (_ : Begins [] H) {x1 : Int} {x2 : List Int} {a1 a2 : V} (h1 : VwV (.int .u8) H x1 a1) (h2 : VwV (.sl (.int .u8)) H x2 a2) : WC F fn_rotalaw04_PortLast [a1, a2] H fun v _ => v = .c (.bool true) := by
  obtain ⟨n1, rfl, rfl, b1⟩ := h1.unsigned rfl
  exact last_law (by simpa [IntKind.bits] using b1) h2
end Go.Proofs.Ytdekplnphbjgbaa.AM.D04
