/- What the functions of chapter 4 come to: lists of messages. -/
import Derived.Test.YtdekplnphbjgbaaD04a
set_option linter.unusedVariables false
set_option linter.unusedSimpArgs false
set_option linter.unusedSectionVars false
namespace Go.Proofs.Ytdekplnphbjgbaa.AM.D04
open Go Go.Proofs.Ytdekplnphbjgbaa.AM
set_option maxHeartbeats 2000000
set_option maxRecDepth 100000
attribute [local go_sem] ev_L k_ev Env.up_app Env.of_app aop_mv aop_pick aop_bin aop_eq aop_eqagg aop_un aop_cv aop_nilck aop_ld aop_st aop_iaS aop_iaA aop_fa aop_fld aop_ix aop_ext aop_len aop_lenK aop_box aop_new aop_build aop_bsl aop_mkfn aop_call callO_fn callO_yld aop_app aop_appT aop_cpy aop_clr aop_ins aop_look aop_mksl aop_mkmap aop_s2b s2bO_str mkslO_int aop_slS aop_same aop_b2s fillB_nil outO outS Option.map_none List.length_cons List.length_nil List.length_append List.length_set List.length_replicate List.set_cons_zero List.set_cons_succ pickO_true pickO_false binO_c eqO_c eqaO_agg unO_c cvO_int nilckO_ptr nilckO_fn ldO_one ldO_row stO_one stO_if okA_some oa_some iaSO_sl iaSO_some iaAO_ptr faO_ptr fldO_agg ixO_agg extO_tup lenO_sl lenO_str V.cells_c V.cells_agg Option.map_some Option.bind_some Option.getD_some List.getElem?_cons_zero List.getElem?_cons_succ List.map_cons List.map_nil V.pc Pc.v asI adsOf adOf Int.toNat_natCast Nat.mul_one Nat.zero_mul Int.ofNat_lt lss_int leq_int gtr_int geq_int eql_int neq_int and_int or_int xor_int andNot_int shr_u8_i shr_u16_i shr_u32_i shr_u64_i shr_i64_i and_u8_i and_u16_i and_u32_i and_u64_i or_u8_i or_u16_i or_u32_i or_u64_i xor_u8_i xor_u16_i xor_u32_i xor_u64_i wrap_u8_i wrap_u16_i wrap_u32_i wrap_u64_i wr_i64 and15 and1 and7 addA_mk Nat.zero_add Nat.add_zero beq_self_eq_true dec_t dec_f decide_true decide_false not_true_eq_false Int.natCast_inj Bool.not_true Bool.not_false Bool.false_eq_true if_true if_false Int.cast_ofNat_Int ne_eq not_false_eq_true Ex.exit.injEq resOf resV L_get? List.mapM_cons List.mapM_nil shutAll_nil shutAll_one ld_blk ldn_blk st_blk ldB_some ldnB_some stB_some put_nil put_cons rdK_ld rdK_b2s List.append_nil List.nil_append List.cons_append List.zip_cons_cons List.zip_nil_left List.zip_nil_right List.foldl_cons List.foldl_nil L_set L_set' rd_one rd_row Option.pure_def Option.bind_eq_bind and_self and_true true_and bne_t bne_f Option.isNone_some Option.isNone_none eqC_bb eqC_pn eqC_ps eqC_sn eqC_ss eqC_fn1 eqC_fn2 eqC_fn3 eqC_mn eqC_ms nats_len nats_get aop_slA slAO_all fillB_cons sameO eq_self add_u8_i add_u16_i add_u32_i add_u64_i mul_u8_i mul_u16_i mul_u32_i mul_u64_i sub_u8_i sub_u16_i sub_u32_i sub_u64_i quo_u8_i quo_u16_i quo_u32_i quo_u64_i rem_u8_i rem_u16_i rem_u32_i rem_u64_i shl_u8_i shl_u16_i shl_u32_i shl_u64_i quo_i64_i rem_i64_i shl_i64_i or_i64_i and_i64_i and_i64_15 and_i64_31 or256 str_eql str_add str_neq bstr_append bstr_size b2sO_ld b2sO_nil strOf_nats sub_nats un_xor_u8 un_xor_u16 un_xor_u32 un_xor_u64 un_neg un_not not_dec beq_int bne_int pickO_dec ld_addA ldn_addA st_addA slSO_lohi slSO_hi Nat.mod_eq_of_lt if_pos if_neg
attribute [local go_sem 500] wrap_u8_z wrap_u16_z wrap_u32_z wrap_u64_z add_int sub_int mul_int
attribute [local go_sem] tn_add1 tn_sub1 clrO_one sub_all put_all'
/-- A message's slice, and what it holds. -/
abbrev msgC (m : Nat) (l : List Nat) : Cell := .sl (some (m, 0)) l.length l.length true
abbrev msgB (l : List Nat) : Blk := .cells (nats .u8 l) false (some 1)
/-- A list of messages of one's own. -/
structure LRs (H : Heap) (b c : Nat) (o gro : Bool) (g : Option Nat) (cs : List Cell) (mb : Nat → Nat) (ms : List (List Nat)) (S : Nat → Prop) : Prop where
  le : ms.length ≤ c
  c9 : c ≤ 100000
  og : (o = true ∧ g = some 1) ∨ (o = false ∧ c = ms.length ∧ gro = false)
  len : cs.length = c
  blk : H[b]? = some (.cells cs false g)
  own : S b
  at_ : ∀ i (h : i < ms.length), cs[i]? = some (msgC (mb i) ms[i]) ∧ 0 < ms[i].length ∧ H[mb i]? = some (msgB ms[i]) ∧ S (mb i) ∧ mb i ≠ b
  inj : ∀ i j, i < j → j < ms.length → mb i ≠ mb j
def LR (H : Heap) (w : Cell) (gro : Bool) (ms : List (List Nat)) (S : Nat → Prop) : Prop :=
  (w = .sl none 0 0 false ∧ ms = []) ∨ ∃ b c o g cs mb, w = .sl (some (b, 0)) ms.length c o ∧ LRs H b c o gro g cs mb ms S
theorem LRs.keep {H H' : Heap} {b c : Nat} {o gro : Bool} {g : Option Nat} {cs : List Cell} {mb : Nat → Nat} {ms : List (List Nat)} {S S' : Nat → Prop} (h : LRs H b c o gro g cs mb ms S) (hk : ∀ c, S c → H'[c]? = H[c]?) (hs : ∀ c, S c → S' c) : LRs H' b c o gro g cs mb ms S' :=
  ⟨h.le, h.c9, h.og, h.len, (hk _ h.own).trans h.blk, hs _ h.own, fun i hi => by
    obtain ⟨h1, h2, h3, h4, h5⟩ := h.at_ i hi
    exact ⟨h1, h2, (hk _ h4).trans h3, hs _ h4, h5⟩, h.inj⟩
theorem LR.keep {H H' : Heap} {w : Cell} {gro : Bool} {ms : List (List Nat)} {S S' : Nat → Prop} (h : LR H w gro ms S) (hk : ∀ c, S c → H'[c]? = H[c]?) (hs : ∀ c, S c → S' c) : LR H' w gro ms S' := by
  rcases h with h | ⟨b, c, o, g, cs, mb, e, h⟩
  · exact .inl h
  · exact .inr ⟨b, c, o, g, cs, mb, e, h.keep hk hs⟩
theorem LR.len {H : Heap} {w : Cell} {gro : Bool} {ms : List (List Nat)} {S : Nat → Prop} (h : LR H w gro ms S) : ∃ a c o, w = .sl a ms.length c o := by
  rcases h with ⟨rfl, rfl⟩ | ⟨b, c, o, g, cs, mb, rfl, h⟩
  · exact ⟨_, _, _, rfl⟩
  · exact ⟨_, _, _, rfl⟩
theorem snoc_get {ms : List (List Nat)} {d : List Nat} {i : Nat} (h : i < (ms ++ [d]).length) : (∃ h' : i < ms.length, (ms ++ [d])[i] = ms[i]) ∨ (i = ms.length ∧ (ms ++ [d])[i] = d) := by
  rw [List.length_append, List.length_singleton] at h
  by_cases hi : i < ms.length
  · left; exact ⟨hi, List.getElem_append_left hi⟩
  · right
    obtain rfl : i = ms.length := by omega
    exact ⟨rfl, by simp⟩
/-- One message more. -/
theorem outM_push {H : Heap} {k : V → Heap → Prop} {w : Cell} {gro : Bool} {ms : List (List Nat)} {S : Nat → Prop} {bz m : Nat} {d : List Nat} (h : LR H w gro ms S) (hlt : ∀ c, S c → c < H.length) (hn : ms.length ≤ 1000)
    (hz : H[bz]? = some (.cells [msgC m d] false none)) (hm : H[m]? = some (msgB d)) (h0 : 0 < d.length) (hbz : ¬ S bz) (hsm : ¬ S m)
    (hq : ∀ w' H', H.length ≤ H'.length → LR H' w' true (ms ++ [d]) (fun c => Grow S H H' c ∨ c = m) → (∀ c, c < H.length → ¬ S c → H'[c]? = H[c]?) → k (.c w') H') :
    outM F (appO 1 24 (.c w) (.c (.sl (some (bz, 0)) 1 1 false)) H) k ⟨⟩ := by
  have hmo : (ms.length + 1) * (24 + 1) ≤ most := by have : most = 2 ^ 40 := rfl; omega
  have lm := lt_of_get hm
  -- a new block
  have fresh : ∀ (e : Nat) (H' : Heap) (cs : List Cell) (mb : Nat → Nat), Plus H e H' → H'[e]? = some (.cells (cs ++ [msgC m d]) false (some 1)) → cs.length = ms.length → (∀ c, c < H.length → H'[c]? = H[c]? ∨ (S c ∧ ∀ i, i < ms.length → mb i ≠ c)) →
      (∀ c, c < H.length → ¬ S c → H'[c]? = H[c]?) →
      (∀ i (h : i < ms.length), cs[i]? = some (msgC (mb i) ms[i]) ∧ 0 < ms[i].length ∧ H[mb i]? = some (msgB ms[i]) ∧ S (mb i)) → (∀ i j, i < j → j < ms.length → mb i ≠ mb j) → k (.c (.sl (some (e, 0)) (ms.length + 1) (ms.length + 1) true)) H' := by
    intro e H' cs mb pe ge hl hx hx2 hat hin
    refine hq _ H' (by omega) (.inr ⟨e, ms.length + 1, true, some 1, cs ++ [msgC m d], fun i => if i < ms.length then mb i else m, by rw [List.length_append]; rfl, ?_⟩) hx2
    refine ⟨by rw [List.length_append]; exact Nat.le_refl _, by omega, .inl ⟨rfl, rfl⟩, by rw [List.length_append, hl]; rfl, ge, .inl (.inr (by omega)), fun i hi => ?_, fun i j hij hj => ?_⟩
    · rcases snoc_get hi with ⟨h', e1⟩ | ⟨e0, e1⟩
      · obtain ⟨k1, k2, k3, k4⟩ := hat i h'
        rw [e1, if_pos h']
        have hlt' := hlt _ k4
        refine ⟨by rw [List.getElem?_append_left (by omega)]; exact k1, k2, ?_, .inl (.inl k4), by omega⟩
        rcases hx _ hlt' with q | ⟨_, q⟩
        · rw [q]; exact k3
        · exact absurd rfl (q i h')
      · rw [e1, if_neg (by omega)]
        refine ⟨by rw [e0, List.getElem?_append_right (by omega), hl]; simp, h0, ?_, .inr rfl, by omega⟩
        rcases hx m lm with q | ⟨q, _⟩
        · rw [q]; exact hm
        · exact absurd q hsm
    · try simp only
      rw [List.length_append, List.length_singleton] at hj
      rw [if_pos (by omega)]
      split
      · exact hin i j hij (by assumption)
      · intro e2
        exact hsm (e2 ▸ (hat i (by omega)).2.2.2)
  have hzs : Sl H 1 (some (bz, 0)) 1 [msgC m d] := Sl.blk hz rfl
  rcases h with ⟨rfl, rfl⟩ | ⟨b, c, o, g, cs, mb, rfl, h⟩
  · refine outM_appC (i := 0) (j := 1) (xs := []) (Sl.none _ _) hzs (by omega) hmo fun e H' pe ge xe => ?_
    exact fresh e H' [] (fun _ => 0) pe ge rfl (fun c hc => .inl (xe c (by omega))) (fun c hc _ => xe c (by omega)) (fun i h => by simp at h) (fun i j _ h => by simp at h)
  · have hl := h.len
    rcases h.og with ⟨rfl, rfl⟩ | ⟨rfl, hc, rfl⟩
    · by_cases hfull : ms.length = c
      · subst hfull
        refine outM_appO (i := ms.length) (j := 1) h.blk (by rw [hl, Nat.mul_one]) hzs (by omega) hmo fun e H' pe ge xe => ?_
        refine fresh e H' cs mb pe ge hl (fun c hc => ?_) (fun c hc hs => xe c (by omega) fun e => hs (e ▸ h.own)) (fun i hi => by
          obtain ⟨k1, k2, k3, k4, k5⟩ := h.at_ i hi
          exact ⟨k1, k2, k3, k4⟩) h.inj
        by_cases hcb : c = b
        · right; subst hcb; exact ⟨h.own, fun i hi => (h.at_ i hi).2.2.2.2⟩
        · left; exact xe c (by omega) hcb
      · have hlt2 : ms.length < c := by have := h.le; omega
        refine outM_appIn (n := ms.length) (j := 1) h.blk hl hzs (by omega) (by omega) fun H' se ge xe => ?_
        have hp : put cs ms.length [msgC m d] = cs.set ms.length (msgC m d) := rfl
        rw [hp] at ge
        have lb := hlt _ h.own
        refine hq _ H' (by omega) (.inr ⟨b, c, true, some 1, cs.set ms.length (msgC m d), fun i => if i < ms.length then mb i else m, by rw [List.length_append]; rfl, ?_⟩) (fun c hc hs => xe c fun e => hs (e ▸ h.own))
        refine ⟨by rw [List.length_append, List.length_singleton]; omega, h.c9, .inl ⟨rfl, rfl⟩, by rw [List.length_set, hl], ge, .inl (.inl h.own), fun i hi => ?_, fun i j hij hj => ?_⟩
        · rcases snoc_get hi with ⟨h', e1⟩ | ⟨e0, e1⟩
          · obtain ⟨k1, k2, k3, k4, k5⟩ := h.at_ i h'
            rw [e1, if_pos h', List.getElem?_set_ne (by omega)]
            exact ⟨k1, k2, by rw [xe _ k5]; exact k3, .inl (.inl k4), k5⟩
          · have hmb : m ≠ b := fun e => hsm (e ▸ h.own)
            rw [e1, if_neg (by omega), e0]
            exact ⟨by rw [List.getElem?_set_self (by omega)], h0, by rw [xe _ hmb]; exact hm, .inr rfl, hmb⟩
        · try simp only
          rw [List.length_append, List.length_singleton] at hj
          rw [if_pos (by omega)]
          split
          · exact h.inj i j hij (by assumption)
          · intro e2
            exact hsm (e2 ▸ (h.at_ i (by omega)).2.2.2.1)
    · subst hc
      refine outM_appC (i := ms.length) (j := 1) (xs := cs) (Sl.blk h.blk hl) hzs (by omega) hmo fun e H' pe ge xe => ?_
      exact fresh e H' cs mb pe ge hl (fun c hc => .inl (xe c (by omega))) (fun c hc _ => xe c (by omega)) (fun i hi => by
        obtain ⟨k1, k2, k3, k4, k5⟩ := h.at_ i hi
        exact ⟨k1, k2, k3, k4⟩) h.inj
end Go.Proofs.Ytdekplnphbjgbaa.AM.D04
