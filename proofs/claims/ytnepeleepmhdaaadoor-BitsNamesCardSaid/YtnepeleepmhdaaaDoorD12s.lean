/- What the functions of chapter 12 come to: the next set. -/
import Derived.Test.YtnepeleepmhdaaaDoorD12r
set_option linter.unusedVariables false
set_option linter.unusedSimpArgs false
set_option linter.unusedSectionVars false
namespace Go.Proofs.YtnepeleepmhdaaaDoor.AM.D12
open Go Go.Proofs.YtnepeleepmhdaaaDoor.AM Go.Proofs.YtnepeleepmhdaaaDoor.AM.P12
set_option maxHeartbeats 2000000
set_option maxRecDepth 100000
attribute [local go_sem] ev_L k_ev Env.up_app Env.of_app aop_mv aop_pick aop_bin aop_eq aop_eqagg aop_un aop_cv aop_nilck aop_ld aop_st aop_iaS aop_iaA aop_fa aop_fld aop_ix aop_ext aop_len aop_lenK aop_box aop_new aop_build aop_bsl aop_mkfn aop_call callO_fn callO_yld aop_app aop_appT aop_cpy aop_clr aop_ins aop_look aop_mksl aop_mkmap aop_s2b s2bO_str mkslO_int aop_slS aop_same aop_b2s fillB_nil outO outS Option.map_none List.length_cons List.length_nil List.length_append List.length_set List.length_replicate List.set_cons_zero List.set_cons_succ pickO_true pickO_false binO_c eqO_c eqaO_agg unO_c cvO_int nilckO_ptr nilckO_fn ldO_one ldO_row stO_one stO_if okA_some oa_some iaSO_sl iaSO_some iaAO_ptr faO_ptr fldO_agg ixO_agg extO_tup lenO_sl lenO_str V.cells_c V.cells_agg Option.map_some Option.bind_some Option.getD_some List.getElem?_cons_zero List.getElem?_cons_succ List.map_cons List.map_nil V.pc Pc.v asI adsOf adOf Int.toNat_natCast Nat.mul_one Nat.zero_mul Int.ofNat_lt lss_int leq_int gtr_int geq_int eql_int neq_int and_int or_int xor_int andNot_int shr_u8_i shr_u16_i shr_u32_i shr_u64_i shr_i64_i and_u8_i and_u16_i and_u32_i and_u64_i or_u8_i or_u16_i or_u32_i or_u64_i xor_u8_i xor_u16_i xor_u32_i xor_u64_i wrap_u8_i wrap_u16_i wrap_u32_i wrap_u64_i wr_i64 and15 and1 and7 addA_mk Nat.zero_add Nat.add_zero beq_self_eq_true dec_t dec_f decide_true decide_false not_true_eq_false Int.natCast_inj Bool.not_true Bool.not_false Bool.false_eq_true if_true if_false Int.cast_ofNat_Int ne_eq not_false_eq_true Ex.exit.injEq resOf resV L_get? List.mapM_cons List.mapM_nil shutAll_nil shutAll_one ld_blk ldn_blk st_blk ldB_some ldnB_some stB_some put_nil put_cons rdK_ld rdK_b2s List.append_nil List.nil_append List.cons_append List.zip_cons_cons List.zip_nil_left List.zip_nil_right List.foldl_cons List.foldl_nil L_set L_set' rd_one rd_row Option.pure_def Option.bind_eq_bind and_self and_true true_and bne_t bne_f Option.isNone_some Option.isNone_none eqC_bb eqC_pn eqC_ps eqC_sn eqC_ss eqC_fn1 eqC_fn2 eqC_fn3 eqC_mn eqC_ms nats_len nats_get aop_slA slAO_all fillB_cons sameO eq_self add_u8_i add_u16_i add_u32_i add_u64_i mul_u8_i mul_u16_i mul_u32_i mul_u64_i sub_u8_i sub_u16_i sub_u32_i sub_u64_i quo_u8_i quo_u16_i quo_u32_i quo_u64_i rem_u8_i rem_u16_i rem_u32_i rem_u64_i shl_u8_i shl_u16_i shl_u32_i shl_u64_i quo_i64_i rem_i64_i shl_i64_i or_i64_i and_i64_i and_i64_15 and_i64_31 or256 str_eql str_add str_neq bstr_append bstr_size b2sO_ld b2sO_nil strOf_nats sub_nats un_xor_u8 un_xor_u16 un_xor_u32 un_xor_u64 un_neg un_not not_dec beq_int bne_int pickO_dec ld_addA ldn_addA st_addA slSO_lohi slSO_hi Nat.mod_eq_of_lt if_pos if_neg
attribute [local go_sem 500] wrap_u8_z wrap_u16_z wrap_u32_z wrap_u64_z add_int sub_int mul_int
attribute [-go_sem] un_neg
theorem tz_lo : ∀ (f n q : Nat), f < n → tz n (2 ^ f * (2 * q + 1)) = f
  | 0, n + 1, q, _ => by unfold tz; rw [if_pos (by omega)]
  | f + 1, n + 1, q, h => by
    unfold tz
    have e : 2 ^ (f + 1) * (2 * q + 1) = 2 * (2 ^ f * (2 * q + 1)) := by rw [Nat.pow_succ, Nat.mul_comm (2 ^ f) 2, Nat.mul_assoc]
    rw [e, if_neg (by omega), Nat.mul_div_cancel_left _ (by omega), tz_lo f n q (by omega)]
theorem lo_odd (f : Nat) {r : Nat} (h : Nat) (hr : 0 < r) : ∃ q, lo f r h = 2 ^ f * (2 * q + 1) := by
  obtain ⟨r, rfl⟩ : ∃ r', r = r' + 1 := ⟨r - 1, by omega⟩
  refine ⟨2 ^ r - 1 + 2 ^ (r + 1) * h, ?_⟩
  unfold lo
  congr 1
  have := Nat.two_pow_pos r
  rw [Nat.pow_succ 2 (r + 1), Nat.mul_assoc (2 ^ (r + 1)) 2 h, Nat.mul_left_comm]
  have := Nat.pow_succ 2 r
  omega
/-- The next set, as told. -/
def nxr (f r h : Nat) (n : Int) : Nat × Bool := if n < 0 ∨ 64 < n ∨ f + r = 64 ∨ (n < 64 ∧ 2 ^ n.toNat ≤ nx f r h) then (0, false) else (nx f r h, true)
structure Lo (f r h : Nat) : Prop where
  rp : 0 < r
  lt : lo f r h < 18446744073709551616
  le : f + r ≤ 64
theorem Lo.pos {f r h : Nat} (w : Lo f r h) : 0 < lo f r h := by
  obtain ⟨q, e⟩ := lo_odd f h w.rp
  rw [e]
  exact Nat.mul_pos (Nat.two_pow_pos f) (by omega)
theorem Lo.hi {f r h : Nat} (w : Lo f r h) : if f + r = 64 then 2 ^ (f + r) * (1 + 2 * h) = 18446744073709551616 else 2 ^ (f + r) * (1 + 2 * h) < 18446744073709551616 := by
  have hlt := w.lt
  have hp := Nat.two_pow_pos r
  have e : lo f r h + 2 ^ f = 2 ^ (f + r) * (1 + 2 * h) := (nx_prog h w.rp).1
  split <;> rename_i hfr
  · rw [hfr] at e ⊢
    have h0 : h = 0 := by
      rcases Nat.eq_zero_or_pos h with h0 | h0
      · exact h0
      · have : 2 ^ 64 * 3 ≤ 2 ^ 64 * (1 + 2 * h) := Nat.mul_le_mul_left _ (by omega)
        have : 2 ^ f ≤ 2 ^ 64 := Nat.pow_le_pow_right (by decide) (by omega)
        omega
    subst h0; decide
  · apply Nat.lt_of_le_of_ne
    · have hf : 2 ^ f ≤ 2 ^ 63 := Nat.pow_le_pow_right (by decide) (by have := w.le; have := w.rp; omega)
      have hm : 2 ^ (f + r) * (1 + 2 * h) % 2 ^ f = 0 := by
        rw [Nat.pow_add, Nat.mul_assoc]; exact Nat.mul_mod_right _ _
      have hm2 : (2 : Nat) ^ 64 % 2 ^ f = 0 := by
        rw [show (64 : Nat) = f + (64 - f) by have := w.le; omega, Nat.pow_add]; exact Nat.mul_mod_right _ _
      have h64 : (2 : Nat) ^ 64 = 18446744073709551616 := by decide
      rw [h64] at hm2
      rw [← e] at hm ⊢
      generalize lo f r h = s at *
      have hm3 : s % 2 ^ f = 0 := by simpa using hm
      have d1 := Nat.div_add_mod s (2 ^ f)
      have d2 := Nat.div_add_mod 18446744073709551616 (2 ^ f)
      rw [hm3] at d1; rw [hm2] at d2
      generalize 2 ^ f = p at *
      generalize s / p = a at *
      generalize hb : 18446744073709551616 / p = b at *
      have : a < b := by
        apply Decidable.byContradiction; intro hab
        have : p * b ≤ p * a := Nat.mul_le_mul_left _ (by omega)
        omega
      have : p * (a + 1) ≤ p * b := Nat.mul_le_mul_left _ (by omega)
      rw [Nat.mul_add] at this
      omega
    · intro e2
      have h64 : (18446744073709551616 : Nat) = 2 ^ 64 := by decide
      rw [h64] at e2
      have hk : (64 : Nat) = (f + r) + (64 - (f + r)) := by have := w.le; omega
      have e3 : 1 + 2 * h = 2 ^ (64 - (f + r)) := by
        have e4 : (2 : Nat) ^ 64 = 2 ^ (f + r) * 2 ^ (64 - (f + r)) := by rw [← Nat.pow_add, ← hk]
        rw [e4] at e2
        exact Nat.eq_of_mul_eq_mul_left (Nat.two_pow_pos _) e2
      obtain ⟨d, hd⟩ : ∃ d, 64 - (f + r) = d + 1 := ⟨64 - (f + r) - 1, by have := w.le; omega⟩
      rw [hd, Nat.pow_succ] at e3
      omega
theorem Lo.and {f r h : Nat} (w : Lo f r h) : lo f r h &&& (18446744073709551616 - lo f r h) = 2 ^ f := by
  have hp := w.pos
  have h1 := and_neg (n := 64) (x := lo f r h) (by omega) (by simpa using w.lt)
  obtain ⟨q, e⟩ := lo_odd f h w.rp
  rw [show (2 : Nat) ^ 64 = 18446744073709551616 by decide] at h1
  rw [h1, e, tz_lo f 64 q (by have := w.le; have := w.rp; omega)]
theorem s_Next0 {H : Heap} {n : Int} : WC F fn_bits_Next [.c (.int .u64 0), .c (.int .i64 n)] H fun v H' => v = .tup [.c (.int .u64 0), .c (.bool false)] ∧ H' = H := by
  refine WC_start e_bits_Next (by simp) ?_
  unfold c_bits_Next
  repeat (with_reducible first|(first|refine pO ?_|refine pP ?_|refine pQ ?_|refine pR (by omega) ?_);intros|refine pS ?_|first|refine qA ?_|refine qB ?_|refine qC ?_|refine qD ?_|refine qE ?_|refine qF ?_|refine qG ?_|refine qH ?_|refine qI ?_|refine qJ ?_|refine qK ?_|refine qL ?_|refine qM rfl ?_|refine qN ?_|refine qO ?_|refine qP ?_|refine qQ ?_|refine qR ?_|refine qS ?_|refine qT ?_|refine qU ?_|refine qV ?_|refine qW ?_|refine qX ?_|refine qY ?_|refine qZ ?_|refine pA ?_|refine pB ?_|refine pC ?_|(first|refine pD ?_|refine pE ?_|refine pF ?_|refine pG ?_|refine pH ?_|refine pI ?_|refine pJ ?_|refine pK ?_|refine pL ?_|refine pM ?_|refine pN ?_);simp (disch := first | with_reducible assumption | omega) only [go_sem, *, reduceCtorEq, ↓reduceIte, Nat.reduceLT, Nat.reduceBEq, Nat.reduceAdd, Nat.reduceSub, Nat.reduceMul, Nat.reduceDiv, Nat.reduceMod, Nat.reducePow, Nat.reduceEqDiff, Nat.reduceLeDiff, Int.reduceLT, Int.reduceLE, Int.reduceNeg, Int.reduceToNat, Int.reduceAdd, Int.reduceSub, Int.reduceMul, Int.reduceEq, Int.reduceNe, Int.reduceBEq, Int.reduceBNe, Int.reducePow])
  exact ⟨rfl, rfl⟩
theorem s_Next {H : Heap} {f r h : Nat} {n : Int} (w : Lo f r h) : WC F fn_bits_Next [.c (.int .u64 (lo f r h : Nat)), .c (.int .i64 n)] H fun v H' => v = .tup [.c (.int .u64 ((nxr f r h n).1 : Nat)), .c (.bool (nxr f r h n).2)] ∧ H' = H := by
  refine WC_start e_bits_Next (by simp) ?_
  unfold c_bits_Next nxr
  have hpos := w.pos
  have hlt := w.lt
  have hand := w.and
  have hhi := w.hi
  obtain ⟨q1, q2, q3, q4⟩ := nx_prog (f := f) h w.rp
  have hf : 2 ^ f < 2 ^ 64 := Nat.pow_lt_pow_right (by decide) (by have := w.le; have := w.rp; omega)
  have hf0 := Nat.two_pow_pos f
  have hr1 : 2 ^ (r - 1) ≤ 2 ^ 63 := Nat.pow_le_pow_right (by decide) (by have := w.le; omega)
  have hneg := unneg64 (x := lo f r h) (by omega)
  have hs0 : ¬ ((lo f r h : Nat) : Int) = 0 := by omega
  rw [q1.symm] at q2 q3 hhi
  generalize nx f r h = y at *
  generalize lo f r h = s at *
  generalize 2 ^ f * (2 ^ (r + 1) - 1) = z at *
  generalize 2 ^ f = p at *
  generalize 2 ^ (r - 1) = u at *
  clear w q1
  have hnx : 18446744073709551616 - s < 18446744073709551616 := by omega
  obtain ⟨ns, hns⟩ : ∃ ns, 18446744073709551616 - s = ns := ⟨_, rfl⟩
  rw [hns] at hand hneg hnx
  clear hns
  by_cases h1 : n < 0
  · rw [if_pos (.inl h1)]
    repeat (with_reducible first|(first|refine pO ?_|refine pP ?_|refine pQ ?_|refine pR (by omega) ?_);intros|refine pS ?_|first|refine qA ?_|refine qB ?_|refine qC ?_|refine qD ?_|refine qE ?_|refine qF ?_|refine qG ?_|refine qH ?_|refine qI ?_|refine qJ ?_|refine qK ?_|refine qL ?_|refine qM rfl ?_|refine qN ?_|refine qO ?_|refine qP ?_|refine qQ ?_|refine qR ?_|refine qS ?_|refine qT ?_|refine qU ?_|refine qV ?_|refine qW ?_|refine qX ?_|refine qY ?_|refine qZ ?_|refine pA ?_|refine pB ?_|refine pC ?_|(first|refine pD ?_|refine pE ?_|refine pF ?_|refine pG ?_|refine pH ?_|refine pI ?_|refine pJ ?_|refine pK ?_|refine pL ?_|refine pM ?_|refine pN ?_);simp (disch := first | with_reducible assumption | omega) only [go_sem, *, reduceCtorEq, ↓reduceIte, Nat.reduceLT, Nat.reduceBEq, Nat.reduceAdd, Nat.reduceSub, Nat.reduceMul, Nat.reduceDiv, Nat.reduceMod, Nat.reducePow, Nat.reduceEqDiff, Nat.reduceLeDiff, Int.reduceLT, Int.reduceLE, Int.reduceNeg, Int.reduceToNat, Int.reduceAdd, Int.reduceSub, Int.reduceMul, Int.reduceEq, Int.reduceNe, Int.reduceBEq, Int.reduceBNe, Int.reducePow])
    exact ⟨rfl, rfl⟩
  by_cases h2 : 64 < n
  · rw [if_pos (.inr (.inl h2))]
    repeat (with_reducible first|(first|refine pO ?_|refine pP ?_|refine pQ ?_|refine pR (by omega) ?_);intros|refine pS ?_|first|refine qA ?_|refine qB ?_|refine qC ?_|refine qD ?_|refine qE ?_|refine qF ?_|refine qG ?_|refine qH ?_|refine qI ?_|refine qJ ?_|refine qK ?_|refine qL ?_|refine qM rfl ?_|refine qN ?_|refine qO ?_|refine qP ?_|refine qQ ?_|refine qR ?_|refine qS ?_|refine qT ?_|refine qU ?_|refine qV ?_|refine qW ?_|refine qX ?_|refine qY ?_|refine qZ ?_|refine pA ?_|refine pB ?_|refine pC ?_|(first|refine pD ?_|refine pE ?_|refine pF ?_|refine pG ?_|refine pH ?_|refine pI ?_|refine pJ ?_|refine pK ?_|refine pL ?_|refine pM ?_|refine pN ?_);simp (disch := first | with_reducible assumption | omega) only [go_sem, *, reduceCtorEq, ↓reduceIte, Nat.reduceLT, Nat.reduceBEq, Nat.reduceAdd, Nat.reduceSub, Nat.reduceMul, Nat.reduceDiv, Nat.reduceMod, Nat.reducePow, Nat.reduceEqDiff, Nat.reduceLeDiff, Int.reduceLT, Int.reduceLE, Int.reduceNeg, Int.reduceToNat, Int.reduceAdd, Int.reduceSub, Int.reduceMul, Int.reduceEq, Int.reduceNe, Int.reduceBEq, Int.reduceBNe, Int.reducePow])
    exact ⟨rfl, rfl⟩
  by_cases h3 : f + r = 64
  · rw [if_pos (.inr (.inr (.inl h3)))]
    rw [if_pos h3] at hhi
    clear h3
    repeat (with_reducible first|(first|refine pO ?_|refine pP ?_|refine pQ ?_|refine pR (by omega) ?_);intros|refine pS ?_|first|refine qA ?_|refine qB ?_|refine qC ?_|refine qD ?_|refine qE ?_|refine qF ?_|refine qG ?_|refine qH ?_|refine qI ?_|refine qJ ?_|refine qK ?_|refine qL ?_|refine qM rfl ?_|refine qN ?_|refine qO ?_|refine qP ?_|refine qQ ?_|refine qR ?_|refine qS ?_|refine qT ?_|refine qU ?_|refine qV ?_|refine qW ?_|refine qX ?_|refine qY ?_|refine qZ ?_|refine pA ?_|refine pB ?_|refine pC ?_|(first|refine pD ?_|refine pE ?_|refine pF ?_|refine pG ?_|refine pH ?_|refine pI ?_|refine pJ ?_|refine pK ?_|refine pL ?_|refine pM ?_|refine pN ?_);simp (disch := first | with_reducible assumption | omega) only [go_sem, *, reduceCtorEq, ↓reduceIte, Nat.reduceLT, Nat.reduceBEq, Nat.reduceAdd, Nat.reduceSub, Nat.reduceMul, Nat.reduceDiv, Nat.reduceMod, Nat.reducePow, Nat.reduceEqDiff, Nat.reduceLeDiff, Int.reduceLT, Int.reduceLE, Int.reduceNeg, Int.reduceToNat, Int.reduceAdd, Int.reduceSub, Int.reduceMul, Int.reduceEq, Int.reduceNe, Int.reduceBEq, Int.reduceBNe, Int.reducePow])
    exact ⟨rfl, rfl⟩
  rw [if_neg h3] at hhi
  have hy : y < 18446744073709551616 := by
    rw [← q3]
    exact Nat.or_lt_two_pow (n := 64) (by simpa using hhi) (by omega)
  have hz : z < 18446744073709551616 := by
    rw [← q2]
    exact Nat.xor_lt_two_pow (n := 64) (by simpa using hlt) (by simpa using hhi)
  have hzp : z / p ≤ z := Nat.div_le_self _ _
  generalize hzz : z / p = zp at *
  have hu0 : ¬ s + p = 0 := by omega
  generalize hsp : s + p = sp at *
  have hnn : ∃ m, n = ((m : Nat) : Int) := Int.eq_ofNat_of_zero_le (by omega)
  obtain ⟨m, rfl⟩ := hnn
  simp only [Int.toNat_natCast]
  have hsh : binC .shr (.int .u64 (zp : Nat)) (.int .u64 2) = some (.int .u64 ((u - 1 : Nat) : Int)) := by
    rw [shr_u64_i _ (by omega), Int.toNat_natCast, show (2 : Int).toNat = 2 from rfl, show (2 : Nat) ^ 2 = 4 by decide, q4]
  clear q4
  have hu : u - 1 < 18446744073709551616 := by omega
  generalize u - 1 = u1 at *
  by_cases h4 : (m : Int) < 64
  · have hsm : binC .shr (.int .u64 (y : Nat)) (.int .i64 (m : Int)) = some (.int .u64 ((y / 2 ^ m : Nat) : Int)) := by
      rw [shr_u64_i _ (by omega)]; simp
    by_cases h5 : 2 ^ m ≤ y
    · rw [if_pos (.inr (.inr (.inr ⟨h4, h5⟩)))]
      have : y / 2 ^ m ≠ 0 := by
        have := Nat.div_pos h5 (Nat.two_pow_pos m); omega
      have hne : ¬ ((y / 2 ^ m : Nat) : Int) = 0 := by omega
      generalize y / 2 ^ m = ym at *
      clear h3 h5 this
      repeat (with_reducible first|(first|refine pO ?_|refine pP ?_|refine pQ ?_|refine pR (by omega) ?_);intros|refine pS ?_|first|refine qA ?_|refine qB ?_|refine qC ?_|refine qD ?_|refine qE ?_|refine qF ?_|refine qG ?_|refine qH ?_|refine qI ?_|refine qJ ?_|refine qK ?_|refine qL ?_|refine qM rfl ?_|refine qN ?_|refine qO ?_|refine qP ?_|refine qQ ?_|refine qR ?_|refine qS ?_|refine qT ?_|refine qU ?_|refine qV ?_|refine qW ?_|refine qX ?_|refine qY ?_|refine qZ ?_|refine pA ?_|refine pB ?_|refine pC ?_|(first|refine pD ?_|refine pE ?_|refine pF ?_|refine pG ?_|refine pH ?_|refine pI ?_|refine pJ ?_|refine pK ?_|refine pL ?_|refine pM ?_|refine pN ?_);simp (disch := first | with_reducible assumption | omega) only [go_sem, *, reduceCtorEq, ↓reduceIte, Nat.reduceLT, Nat.reduceBEq, Nat.reduceAdd, Nat.reduceSub, Nat.reduceMul, Nat.reduceDiv, Nat.reduceMod, Nat.reducePow, Nat.reduceEqDiff, Nat.reduceLeDiff, Int.reduceLT, Int.reduceLE, Int.reduceNeg, Int.reduceToNat, Int.reduceAdd, Int.reduceSub, Int.reduceMul, Int.reduceEq, Int.reduceNe, Int.reduceBEq, Int.reduceBNe, Int.reducePow])
      exact ⟨rfl, rfl⟩
    · rw [if_neg (by omega)]
      have : y / 2 ^ m = 0 := Nat.div_eq_of_lt (by omega)
      rw [this] at hsm
      clear h3 h5 this
      repeat (with_reducible first|(first|refine pO ?_|refine pP ?_|refine pQ ?_|refine pR (by omega) ?_);intros|refine pS ?_|first|refine qA ?_|refine qB ?_|refine qC ?_|refine qD ?_|refine qE ?_|refine qF ?_|refine qG ?_|refine qH ?_|refine qI ?_|refine qJ ?_|refine qK ?_|refine qL ?_|refine qM rfl ?_|refine qN ?_|refine qO ?_|refine qP ?_|refine qQ ?_|refine qR ?_|refine qS ?_|refine qT ?_|refine qU ?_|refine qV ?_|refine qW ?_|refine qX ?_|refine qY ?_|refine qZ ?_|refine pA ?_|refine pB ?_|refine pC ?_|(first|refine pD ?_|refine pE ?_|refine pF ?_|refine pG ?_|refine pH ?_|refine pI ?_|refine pJ ?_|refine pK ?_|refine pL ?_|refine pM ?_|refine pN ?_);simp (disch := first | with_reducible assumption | omega) only [go_sem, *, reduceCtorEq, ↓reduceIte, Nat.reduceLT, Nat.reduceBEq, Nat.reduceAdd, Nat.reduceSub, Nat.reduceMul, Nat.reduceDiv, Nat.reduceMod, Nat.reducePow, Nat.reduceEqDiff, Nat.reduceLeDiff, Int.reduceLT, Int.reduceLE, Int.reduceNeg, Int.reduceToNat, Int.reduceAdd, Int.reduceSub, Int.reduceMul, Int.reduceEq, Int.reduceNe, Int.reduceBEq, Int.reduceBNe, Int.reducePow])
      exact ⟨rfl, rfl⟩
  · rw [if_neg (by omega)]
    clear h3
    repeat (with_reducible first|(first|refine pO ?_|refine pP ?_|refine pQ ?_|refine pR (by omega) ?_);intros|refine pS ?_|first|refine qA ?_|refine qB ?_|refine qC ?_|refine qD ?_|refine qE ?_|refine qF ?_|refine qG ?_|refine qH ?_|refine qI ?_|refine qJ ?_|refine qK ?_|refine qL ?_|refine qM rfl ?_|refine qN ?_|refine qO ?_|refine qP ?_|refine qQ ?_|refine qR ?_|refine qS ?_|refine qT ?_|refine qU ?_|refine qV ?_|refine qW ?_|refine qX ?_|refine qY ?_|refine qZ ?_|refine pA ?_|refine pB ?_|refine pC ?_|(first|refine pD ?_|refine pE ?_|refine pF ?_|refine pG ?_|refine pH ?_|refine pI ?_|refine pJ ?_|refine pK ?_|refine pL ?_|refine pM ?_|refine pN ?_);simp (disch := first | with_reducible assumption | omega) only [go_sem, *, reduceCtorEq, ↓reduceIte, Nat.reduceLT, Nat.reduceBEq, Nat.reduceAdd, Nat.reduceSub, Nat.reduceMul, Nat.reduceDiv, Nat.reduceMod, Nat.reducePow, Nat.reduceEqDiff, Nat.reduceLeDiff, Int.reduceLT, Int.reduceLE, Int.reduceNeg, Int.reduceToNat, Int.reduceAdd, Int.reduceSub, Int.reduceMul, Int.reduceEq, Int.reduceNe, Int.reduceBEq, Int.reduceBNe, Int.reducePow])
    exact ⟨rfl, rfl⟩
end Go.Proofs.YtnepeleepmhdaaaDoor.AM.D12
