/- Several boxes. -/
import Derived.Test.YtdekplnphbjgbaaD04o
set_option linter.unusedVariables false
set_option linter.unusedSimpArgs false
set_option linter.unusedSectionVars false
namespace Go.Proofs.Ytdekplnphbjgbaa.AM.D04
open Go Go.Proofs.Ytdekplnphbjgbaa.AM
set_option maxHeartbeats 2000000
set_option maxRecDepth 100000
attribute [local go_sem] ev_L k_ev Env.up_app Env.of_app aop_mv aop_pick aop_bin aop_eq aop_eqagg aop_un aop_cv aop_nilck aop_ld aop_st aop_iaS aop_iaA aop_fa aop_fld aop_ix aop_ext aop_len aop_lenK aop_box aop_new aop_build aop_bsl aop_mkfn aop_call callO_fn callO_yld aop_app aop_appT aop_cpy aop_clr aop_ins aop_look aop_mksl aop_mkmap aop_s2b s2bO_str mkslO_int aop_slS aop_same aop_b2s fillB_nil outO outS Option.map_none List.length_cons List.length_nil List.length_append List.length_set List.length_replicate List.set_cons_zero List.set_cons_succ pickO_true pickO_false binO_c eqO_c eqaO_agg unO_c cvO_int nilckO_ptr nilckO_fn ldO_one ldO_row stO_one stO_if okA_some oa_some iaSO_sl iaSO_some iaAO_ptr faO_ptr fldO_agg ixO_agg extO_tup lenO_sl lenO_str V.cells_c V.cells_agg Option.map_some Option.bind_some Option.getD_some List.getElem?_cons_zero List.getElem?_cons_succ List.map_cons List.map_nil V.pc Pc.v asI adsOf adOf Int.toNat_natCast Nat.mul_one Nat.zero_mul Int.ofNat_lt lss_int leq_int gtr_int geq_int eql_int neq_int and_int or_int xor_int andNot_int shr_u8_i shr_u16_i shr_u32_i shr_u64_i shr_i64_i and_u8_i and_u16_i and_u32_i and_u64_i or_u8_i or_u16_i or_u32_i or_u64_i xor_u8_i xor_u16_i xor_u32_i xor_u64_i wrap_u8_i wrap_u16_i wrap_u32_i wrap_u64_i wr_i64 and15 and1 and7 addA_mk Nat.zero_add Nat.add_zero beq_self_eq_true dec_t dec_f decide_true decide_false not_true_eq_false Int.natCast_inj Bool.not_true Bool.not_false Bool.false_eq_true if_true if_false Int.cast_ofNat_Int ne_eq not_false_eq_true Ex.exit.injEq resOf resV L_get? List.mapM_cons List.mapM_nil shutAll_nil shutAll_one ld_blk ldn_blk st_blk ldB_some ldnB_some stB_some put_nil put_cons rdK_ld rdK_b2s List.append_nil List.nil_append List.cons_append List.zip_cons_cons List.zip_nil_left List.zip_nil_right List.foldl_cons List.foldl_nil L_set L_set' rd_one rd_row Option.pure_def Option.bind_eq_bind and_self and_true true_and bne_t bne_f Option.isNone_some Option.isNone_none eqC_bb eqC_pn eqC_ps eqC_sn eqC_ss eqC_fn1 eqC_fn2 eqC_fn3 eqC_mn eqC_ms nats_len nats_get aop_slA slAO_all fillB_cons sameO eq_self add_u8_i add_u16_i add_u32_i add_u64_i mul_u8_i mul_u16_i mul_u32_i mul_u64_i sub_u8_i sub_u16_i sub_u32_i sub_u64_i quo_u8_i quo_u16_i quo_u32_i quo_u64_i rem_u8_i rem_u16_i rem_u32_i rem_u64_i shl_u8_i shl_u16_i shl_u32_i shl_u64_i quo_i64_i rem_i64_i shl_i64_i or_i64_i and_i64_i and_i64_15 and_i64_31 or256 str_eql str_add str_neq bstr_append bstr_size b2sO_ld b2sO_nil strOf_nats sub_nats un_xor_u8 un_xor_u16 un_xor_u32 un_xor_u64 un_neg un_not not_dec beq_int bne_int pickO_dec ld_addA ldn_addA st_addA slSO_lohi slSO_hi Nat.mod_eq_of_lt if_pos if_neg
attribute [local go_sem 500] wrap_u8_z wrap_u16_z wrap_u32_z wrap_u64_z add_int sub_int mul_int
/-- Boxes, each with blocks of its own. -/
def Bxs (K : Nat → Prop) (kp : Nat) (H : Heap) (l : List (Nat × Bx)) : Prop :=
  ∃ S : Nat → Nat → Prop, (∀ i e, l[i]? = some e → PB H e.1 kp e.2 (S i)) ∧ (∀ i c, i < l.length → S i c → ¬ K c) ∧ (∀ i j c, i < l.length → j < l.length → i ≠ j → S i c → ¬ S j c) ∧ (∀ c, K c → c < H.length) ∧ K kp
section
variable {K : Nat → Prop} {H H' : Heap} {kp : Nat} {l : List (Nat × Bx)}
theorem PBx.one {b : Nat} {x : Bx} (h : PBx K H b kp x) : Bxs K kp H [(b, x)] := by
  obtain ⟨⟨S, h1, h2⟩, h3, h4⟩ := h
  refine ⟨fun _ => S, fun i e he => ?_, fun i c _ hc => h2 c hc, fun i j c hi hj hn => ?_, h3, h4⟩
  · match i, he with
    | 0, he => cases he; exact h1
  · simp at hi hj; omega
theorem Bxs.op (h : Bxs K kp H l) {i b : Nat} {x : Bx} (hi : l[i]? = some (b, x)) : ∃ K1 : Nat → Prop, PBx K1 H b kp x ∧ (∀ c, K c → K1 c) ∧ ∀ H' z, PBx K1 H' b kp z → KK_ K1 H H' → Bxs K kp H' (l.set i (b, z)) := by
  obtain ⟨S, h1, h2, h3, h4, h5⟩ := h
  have hil : i < l.length := (List.getElem?_eq_some_iff.1 hi).1
  have hlt : ∀ j c, j < l.length → S j c → c < H.length := fun j c hj hc => by
    obtain ⟨w, h⟩ := h1 j l[j] (List.getElem?_eq_getElem hj)
    exact h.lt c hc
  refine ⟨fun c => K c ∨ ∃ j, j < l.length ∧ j ≠ i ∧ S j c, ⟨⟨S i, h1 i _ hi, fun c hc hk => ?_⟩, fun c hc => ?_, .inl h5⟩, fun c hc => .inl hc, fun H' z p k => ?_⟩
  · rcases hk with hk | ⟨j, hj, hn, hk⟩
    · exact h2 i c hil hc hk
    · exact h3 i j c hil hj (Ne.symm hn) hc hk
  · rcases hc with hc | ⟨j, hj, hn, hc⟩
    · exact h4 c hc
    · exact hlt j c hj hc
  · obtain ⟨T, p1, p2⟩ := p.box
    refine ⟨fun j => if j = i then T else S j, fun j e he => ?_, fun j c hj hc hk => ?_, fun j j' c hj hj' hn hc hc' => ?_, fun c hc => Nat.lt_of_lt_of_le (h4 c hc) k.1, h5⟩
    · by_cases e' : j = i
      · subst e'
        rw [List.getElem?_set_self hil] at he
        cases he
        simpa using p1
      · rw [List.getElem?_set_ne (Ne.symm e')] at he
        have hj : j < l.length := (List.getElem?_eq_some_iff.1 he).1
        simp only [e', if_false]
        exact (h1 j e he).keep k.1 (fun c hc => k.2 c (.inr ⟨j, hj, e', hc⟩)) (k.2 kp (.inl h5))
    · rw [List.length_set] at hj
      by_cases e' : j = i
      · simp only [e', if_true] at hc; exact p2 c hc (.inl hk)
      · simp only [e', if_false] at hc; exact h2 j c hj hc hk
    · rw [List.length_set] at hj hj'
      by_cases e' : j = i
      · have e2 : j' ≠ i := fun h => hn (e'.trans h.symm)
        simp only [e', if_true] at hc; simp only [e2, if_false] at hc'
        exact p2 c hc (.inr ⟨j', hj', e2, hc'⟩)
      · simp only [e', if_false] at hc
        by_cases e2 : j' = i
        · simp only [e2, if_true] at hc'; exact p2 c hc' (.inr ⟨j, hj, e', hc⟩)
        · simp only [e2, if_false] at hc'; exact h3 j j' c hj hj' hn hc hc'
theorem Bxs.ask (h : Bxs K kp H l) {i b : Nat} {x : Bx} (hi : l[i]? = some (b, x)) {k s : Int} {a : Option Ad} {c : Nat} {o : Bool} {d : List Nat} (hs : Sl H 1 a d.length (nats .u8 d)) (hby : ∀ b ∈ d, b < 256) (h64 : s < 9223372036854775808) :
    WC F fn_rotalaw04_ask [.c (.ptr (some (b, 0))), .agg [.int .i64 k, .sl a d.length c o, .int .i64 s]] H fun v H' => v = .tup [.c (.str (bstr (x.ask k d s).1)), .c (.int .i64 (x.ask k d s).2.1)] ∧ Bxs K kp H' (l.set i (b, (x.ask k d s).2.2)) ∧ KK_ K H H' := by
  obtain ⟨K1, p, hk, q⟩ := h.op hi
  exact (s_ask p hs hby h64).mono (by rintro v H' ⟨rfl, p1, p2⟩; exact ⟨rfl, q _ _ p1 p2, p2.1, fun c hc => p2.2 c (hk c hc)⟩)
theorem Bxs.len (h : Bxs K kp H l) {i b : Nat} {x : Bx} (hi : l[i]? = some (b, x)) : WC F fn_port_Box_Len [.c (.ptr (some (b, 0)))] H fun v H' => v = .c (.int .i64 (x.ms.length : Nat)) ∧ H' = H := by
  obtain ⟨K1, p, -, -⟩ := h.op hi
  exact s_LenX p
theorem Bxs.copy (h : Bxs K kp H l) {i b : Nat} {x : Bx} (hi : l[i]? = some (b, x)) : WC F fn_port_Box_Copy [.c (.ptr (some (b, 0)))] H fun v H' => ∃ cb, v = .c (.ptr (some (cb, 0))) ∧ Bxs K kp H' (l ++ [(cb, x)]) ∧ KK_ K H H' := by
  obtain ⟨S, h1, h2, h3, h4, h5⟩ := h
  have hlt : ∀ j c, j < l.length → S j c → c < H.length := fun j c hj hc => by
    obtain ⟨w, h⟩ := h1 j l[j] (List.getElem?_eq_getElem hj)
    exact h.lt c hc
  refine (s_Copy (h1 i _ hi)).mono ?_
  rintro v H' ⟨⟨hl, hx⟩, cb, rfl, p⟩
  refine ⟨cb, rfl, ⟨fun j => if j = l.length then (fun c => H.length ≤ c ∧ c < H'.length) else S j, fun j e he => ?_, fun j c hj hc hk => ?_, fun j j' c hj hj' hn hc hc' => ?_, fun c hc => Nat.lt_of_lt_of_le (h4 c hc) hl, h5⟩, hl, fun c hc => hx c (h4 c hc)⟩
  · by_cases e' : j = l.length
    · subst e'
      simp at he
      subst he
      simpa using p
    · have hj : j < l.length := by
        have := (List.getElem?_eq_some_iff.1 he).1
        simp at this; omega
      rw [List.getElem?_append_left hj] at he
      simp only [e', if_false]
      exact (h1 j e he).keep hl (fun c hc => hx c (hlt j c hj hc)) (hx kp (h4 kp h5))
  · simp at hj
    by_cases e' : j = l.length
    · simp only [e', if_true] at hc; have := h4 c hk; omega
    · simp only [e', if_false] at hc; exact h2 j c (by omega) hc hk
  · simp at hj hj'
    by_cases e' : j = l.length
    · have e2 : j' ≠ l.length := fun h => hn (e'.trans h.symm)
      simp only [e', if_true] at hc; simp only [e2, if_false] at hc'
      have := hlt j' c (by omega) hc'; omega
    · simp only [e', if_false] at hc
      by_cases e2 : j' = l.length
      · simp only [e2, if_true] at hc'; have := hlt j c (by omega) hc; omega
      · simp only [e2, if_false] at hc'; exact h3 j j' c (by omega) (by omega) hn hc hc'
end
end Go.Proofs.Ytdekplnphbjgbaa.AM.D04
