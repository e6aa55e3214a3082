/- The law's lists of what is asked; a run of them. -/
import Derived.Test.YtdekplnphbjgbaaD04q
set_option linter.unusedVariables false
set_option linter.unusedSimpArgs false
set_option linter.unusedSectionVars false
namespace Go.Proofs.Ytdekplnphbjgbaa.AM.D04
open Go Go.Proofs.Ytdekplnphbjgbaa.AM
set_option maxHeartbeats 2000000
set_option maxRecDepth 100000
attribute [local go_sem] ev_L k_ev Env.up_app Env.of_app aop_mv aop_pick aop_bin aop_eq aop_eqagg aop_un aop_cv aop_nilck aop_ld aop_st aop_iaS aop_iaA aop_fa aop_fld aop_ix aop_ext aop_len aop_lenK aop_box aop_new aop_build aop_bsl aop_mkfn aop_call callO_fn callO_yld aop_app aop_appT aop_cpy aop_clr aop_ins aop_look aop_mksl aop_mkmap aop_s2b s2bO_str mkslO_int aop_slS aop_same aop_b2s fillB_nil outO outS Option.map_none List.length_cons List.length_nil List.length_append List.length_set List.length_replicate List.set_cons_zero List.set_cons_succ pickO_true pickO_false binO_c eqO_c eqaO_agg unO_c cvO_int nilckO_ptr nilckO_fn ldO_one ldO_row stO_one stO_if okA_some oa_some iaSO_sl iaSO_some iaAO_ptr faO_ptr fldO_agg ixO_agg extO_tup lenO_sl lenO_str V.cells_c V.cells_agg Option.map_some Option.bind_some Option.getD_some List.getElem?_cons_zero List.getElem?_cons_succ List.map_cons List.map_nil V.pc Pc.v asI adsOf adOf Int.toNat_natCast Nat.mul_one Nat.zero_mul Int.ofNat_lt lss_int leq_int gtr_int geq_int eql_int neq_int and_int or_int xor_int andNot_int shr_u8_i shr_u16_i shr_u32_i shr_u64_i shr_i64_i and_u8_i and_u16_i and_u32_i and_u64_i or_u8_i or_u16_i or_u32_i or_u64_i xor_u8_i xor_u16_i xor_u32_i xor_u64_i wrap_u8_i wrap_u16_i wrap_u32_i wrap_u64_i wr_i64 and15 and1 and7 addA_mk Nat.zero_add Nat.add_zero beq_self_eq_true dec_t dec_f decide_true decide_false not_true_eq_false Int.natCast_inj Bool.not_true Bool.not_false Bool.false_eq_true if_true if_false Int.cast_ofNat_Int ne_eq not_false_eq_true Ex.exit.injEq resOf resV L_get? List.mapM_cons List.mapM_nil shutAll_nil shutAll_one ld_blk ldn_blk st_blk ldB_some ldnB_some stB_some put_nil put_cons rdK_ld rdK_b2s List.append_nil List.nil_append List.cons_append List.zip_cons_cons List.zip_nil_left List.zip_nil_right List.foldl_cons List.foldl_nil L_set L_set' rd_one rd_row Option.pure_def Option.bind_eq_bind and_self and_true true_and bne_t bne_f Option.isNone_some Option.isNone_none eqC_bb eqC_pn eqC_ps eqC_sn eqC_ss eqC_fn1 eqC_fn2 eqC_fn3 eqC_mn eqC_ms nats_len nats_get aop_slA slAO_all fillB_cons sameO eq_self add_u8_i add_u16_i add_u32_i add_u64_i mul_u8_i mul_u16_i mul_u32_i mul_u64_i sub_u8_i sub_u16_i sub_u32_i sub_u64_i quo_u8_i quo_u16_i quo_u32_i quo_u64_i rem_u8_i rem_u16_i rem_u32_i rem_u64_i shl_u8_i shl_u16_i shl_u32_i shl_u64_i quo_i64_i rem_i64_i shl_i64_i or_i64_i and_i64_i and_i64_15 and_i64_31 or256 str_eql str_add str_neq bstr_append bstr_size b2sO_ld b2sO_nil strOf_nats sub_nats un_xor_u8 un_xor_u16 un_xor_u32 un_xor_u64 un_neg un_not not_dec beq_int bne_int pickO_dec ld_addA ldn_addA st_addA slSO_lohi slSO_hi Nat.mod_eq_of_lt if_pos if_neg
attribute [local go_sem 500] wrap_u8_z wrap_u16_z wrap_u32_z wrap_u64_z add_int sub_int mul_int
structure Act where
  k : Int
  d : List Nat
  s : Int
abbrev Act.T : Ty := .pair (.int .i64) (.pair (.sl (.int .u8)) (.pair (.int .i64) .unit))
/-- What one of them is in memory. -/
def Act1 (N : Nat) (H : Heap) (e : Act) (cs : List Cell) : Prop := ∃ da dc, cs = [.int .i64 e.k, .sl da e.d.length dc false, .int .i64 e.s] ∧ Sl H 1 da e.d.length (nats .u8 e.d) ∧ (∀ b x, da = some (b, x) → b < N) ∧ (∀ b ∈ e.d, b < 256) ∧ e.s < 9223372036854775808
theorem Act1.keep {N : Nat} {H H' : Heap} {e : Act} {cs : List Cell} (h : Act1 N H e cs) (hx : ∀ c, c < N → H'[c]? = H[c]?) : Act1 N H' e cs := by
  obtain ⟨da, dc, rfl, h1, h2, h3⟩ := h
  exact ⟨da, dc, rfl, h1.keep fun b x e => hx b (h2 b x e), h2, h3⟩
theorem act_row {H : Heap} {x : Act.T.D} {cs : List Cell} (h : Vw Act.T H x cs) : ∃ e, Act1 H.length H e cs := by
  obtain ⟨c1, c2, rfl, ⟨rfl, hw1⟩, c3, c4, rfl, h3, c5, c6, rfl, ⟨rfl, hw2⟩, rfl⟩ := h
  have h3' := h3
  obtain ⟨a0, c0, rfl, -⟩ := h3'
  obtain ⟨a, c, l, e, h4, -, -, h7⟩ := VwV.nats (k := .u8) (x := x.2.1) rfl ⟨_, h3, .inr ⟨rfl, _, rfl, rfl⟩⟩
  injection e with e
  injection e with e1 e2 e3
  subst e1
  refine ⟨⟨x.1, l, x.2.2.1⟩, a0, c0, ?_, h4, fun b x e => h4.lt e, by simpa [IntKind.bits] using h7, (wf_i64 hw2).2⟩
  have : List.length (α := (Ty.int .u8).D) x.2.1 = l.length := e2
  simp [this]
theorem all2_acts {H : Heap} : ∀ {xs : List Act.T.D} {rows : List (List Cell)}, All2 (Vw Act.T H) xs rows → ∃ l : List Act, l.length = xs.length ∧ ∀ (i : Nat) (e : Act), l[i]? = some e → ∃ cs, rows[i]? = some cs ∧ Act1 H.length H e cs
  | _, _, .nil => ⟨[], rfl, by simp⟩
  | _, _, .cons h1 h2 => by
    obtain ⟨l, e1, e2⟩ := all2_acts h2
    obtain ⟨e, he⟩ := act_row h1
    refine ⟨e :: l, congrArg Nat.succ e1, fun i e' h => ?_⟩
    match i, h with
    | 0, h => cases h; exact ⟨_, rfl, he⟩
    | i + 1, h => exact e2 i e' h
theorem sub_rows {sz : Nat} : ∀ {rows : List (List Cell)} {i : Nat} {r : List Cell}, (∀ r ∈ rows, r.length = sz) → rows[i]? = some r → i * sz + sz ≤ rows.flatten.length ∧ (rows.flatten.drop (i * sz)).take sz = r
  | [], _, _, _, h => by simp at h
  | r0 :: rs, 0, r, hl, h => by
    cases h
    have h0 := hl r0 (by simp)
    subst h0
    exact ⟨by rw [List.flatten_cons, List.length_append]; omega, by rw [Nat.zero_mul, List.drop_zero, List.flatten_cons, List.take_left]⟩
  | r0 :: rs, i + 1, r, hl, h => by
    have h0 := hl r0 (by simp)
    obtain ⟨h1, h2⟩ := sub_rows (rows := rs) (i := i) (fun r hr => hl r (by simp [hr])) h
    have e : (i + 1) * sz = r0.length + i * sz := by rw [h0, Nat.succ_mul, Nat.add_comm]
    refine ⟨by rw [e, List.flatten_cons, List.length_append]; omega, ?_⟩
    rw [e, List.flatten_cons, ← List.drop_drop, List.drop_left]
    exact h2
/-- The lists in memory. -/
def Acts (N : Nat) (H : Heap) (a : Option Ad) (l : List Act) : Prop := ∀ (i : Nat) (e : Act), l[i]? = some e → ∃ a' cs, a = some a' ∧ a'.1 < N ∧ ldnB H[a'.1]? (a'.2 + i * 3) 3 = some cs ∧ Act1 N H e cs
theorem Acts.keep {N : Nat} {H H' : Heap} {a : Option Ad} {l : List Act} (h : Acts N H a l) (hx : ∀ c, c < N → H'[c]? = H[c]?) : Acts N H' a l := fun i e he => by
  obtain ⟨a', cs, rfl, h1, h2, h3⟩ := h i e he
  exact ⟨a', cs, rfl, h1, by rw [hx _ h1]; exact h2, h3.keep hx⟩
theorem VwV.acts {H : Heap} {x : List Act.T.D} {v : V} (h : VwV (.sl Act.T) H x v) : ∃ (a : Option Ad) (c : Nat) (l : List Act), v = .c (.sl a l.length c false) ∧ Acts H.length H a l := by
  obtain ⟨cs, ⟨a, c, rfl, h1, h2, h3⟩, ⟨h, _⟩ | ⟨_, c', h, rfl⟩⟩ := h
  · cases h
  · cases h
    rcases h3 with ⟨rfl, rfl, rfl⟩ | ⟨b, rows, rfl, hb, hr, hv⟩
    · exact ⟨none, 0, [], rfl, fun i e h => by simp at h⟩
    · obtain ⟨l, e1, e2⟩ := all2_acts hv
      have key : List.length (α := Act.T.D) x = l.length := e1.symm
      rw [key]
      refine ⟨some (b, 0), c, l, rfl, fun i e he => ?_⟩
      obtain ⟨cs, q1, q2⟩ := e2 i e he
      obtain ⟨h4, h5⟩ := sub_rows (sz := 3) hr q1
      refine ⟨(b, 0), cs, rfl, lt_of_get hb, ?_, q2⟩
      rw [hb, ldnB_some, Nat.zero_add]
      unfold sub
      rw [if_pos (by omega), h5]
end Go.Proofs.Ytdekplnphbjgbaa.AM.D04
