/- What the functions of chapter 4 come to, for who holds a box and other things. -/
import Derived.Test.YtdekplnphbjgbaaD04i
set_option linter.unusedVariables false
set_option linter.unusedSimpArgs false
set_option linter.unusedSectionVars false
namespace Go.Proofs.Ytdekplnphbjgbaa.AM.D04
open Go Go.Proofs.Ytdekplnphbjgbaa.AM
set_option maxHeartbeats 2000000
set_option maxRecDepth 100000
attribute [local go_sem] ev_L k_ev Env.up_app Env.of_app aop_mv aop_pick aop_bin aop_eq aop_eqagg aop_un aop_cv aop_nilck aop_ld aop_st aop_iaS aop_iaA aop_fa aop_fld aop_ix aop_ext aop_len aop_lenK aop_box aop_new aop_build aop_bsl aop_mkfn aop_call callO_fn callO_yld aop_app aop_appT aop_cpy aop_clr aop_ins aop_look aop_mksl aop_mkmap aop_s2b s2bO_str mkslO_int aop_slS aop_same aop_b2s fillB_nil outO outS Option.map_none List.length_cons List.length_nil List.length_append List.length_set List.length_replicate List.set_cons_zero List.set_cons_succ pickO_true pickO_false binO_c eqO_c eqaO_agg unO_c cvO_int nilckO_ptr nilckO_fn ldO_one ldO_row stO_one stO_if okA_some oa_some iaSO_sl iaSO_some iaAO_ptr faO_ptr fldO_agg ixO_agg extO_tup lenO_sl lenO_str V.cells_c V.cells_agg Option.map_some Option.bind_some Option.getD_some List.getElem?_cons_zero List.getElem?_cons_succ List.map_cons List.map_nil V.pc Pc.v asI adsOf adOf Int.toNat_natCast Nat.mul_one Nat.zero_mul Int.ofNat_lt lss_int leq_int gtr_int geq_int eql_int neq_int and_int or_int xor_int andNot_int shr_u8_i shr_u16_i shr_u32_i shr_u64_i shr_i64_i and_u8_i and_u16_i and_u32_i and_u64_i or_u8_i or_u16_i or_u32_i or_u64_i xor_u8_i xor_u16_i xor_u32_i xor_u64_i wrap_u8_i wrap_u16_i wrap_u32_i wrap_u64_i wr_i64 and15 and1 and7 addA_mk Nat.zero_add Nat.add_zero beq_self_eq_true dec_t dec_f decide_true decide_false not_true_eq_false Int.natCast_inj Bool.not_true Bool.not_false Bool.false_eq_true if_true if_false Int.cast_ofNat_Int ne_eq not_false_eq_true Ex.exit.injEq resOf resV L_get? List.mapM_cons List.mapM_nil shutAll_nil shutAll_one ld_blk ldn_blk st_blk ldB_some ldnB_some stB_some put_nil put_cons rdK_ld rdK_b2s List.append_nil List.nil_append List.cons_append List.zip_cons_cons List.zip_nil_left List.zip_nil_right List.foldl_cons List.foldl_nil L_set L_set' rd_one rd_row Option.pure_def Option.bind_eq_bind and_self and_true true_and bne_t bne_f Option.isNone_some Option.isNone_none eqC_bb eqC_pn eqC_ps eqC_sn eqC_ss eqC_fn1 eqC_fn2 eqC_fn3 eqC_mn eqC_ms nats_len nats_get aop_slA slAO_all fillB_cons sameO eq_self add_u8_i add_u16_i add_u32_i add_u64_i mul_u8_i mul_u16_i mul_u32_i mul_u64_i sub_u8_i sub_u16_i sub_u32_i sub_u64_i quo_u8_i quo_u16_i quo_u32_i quo_u64_i rem_u8_i rem_u16_i rem_u32_i rem_u64_i shl_u8_i shl_u16_i shl_u32_i shl_u64_i quo_i64_i rem_i64_i shl_i64_i or_i64_i and_i64_i and_i64_15 and_i64_31 or256 str_eql str_add str_neq bstr_append bstr_size b2sO_ld b2sO_nil strOf_nats sub_nats un_xor_u8 un_xor_u16 un_xor_u32 un_xor_u64 un_neg un_not not_dec beq_int bne_int pickO_dec ld_addA ldn_addA st_addA slSO_lohi slSO_hi Nat.mod_eq_of_lt if_pos if_neg
attribute [local go_sem 500] wrap_u8_z wrap_u16_z wrap_u32_z wrap_u64_z add_int sub_int mul_int
attribute [local go_sem] tn_add1 tn_sub1 clrO_one put_all'
/-- A box, for who has other blocks (K). -/
structure PBx (K : Nat → Prop) (H : Heap) (bb kp : Nat) (x : Bx) : Prop where
  box : ∃ S, PB H bb kp x S ∧ ∀ c, S c → ¬ K c
  lt : ∀ c, K c → c < H.length
  kp : K kp
/-- Memory has grown; what is one's own stands. -/
abbrev KK_ (K : Nat → Prop) (H H' : Heap) : Prop := H.length ≤ H'.length ∧ ∀ c, K c → H'[c]? = H[c]?
theorem PBx.mono {K K' : Nat → Prop} {H : Heap} {bb kp : Nat} {x : Bx} (h : PBx K H bb kp x) (hk : ∀ c, K' c → K c) (k : K' kp) : PBx K' H bb kp x := by
  obtain ⟨S, h1, h2⟩ := h.box
  exact ⟨⟨S, h1, fun c hc h => h2 c hc (hk c h)⟩, fun c hc => h.lt c (hk c hc), k⟩
theorem PBx.ext {K K' : Nat → Prop} {H H' : Heap} {bb kp : Nat} {x : Bx} (h : PBx K H bb kp x) (hl : H.length ≤ H'.length) (hx : ∀ c, c < H.length → ¬ K c ∨ c = kp → H'[c]? = H[c]?) (hk : ∀ c, K' c → K c ∨ (H.length ≤ c ∧ c < H'.length)) (k : K' kp) : PBx K' H' bb kp x := by
  obtain ⟨S, h1, h2⟩ := h.box
  have hlt : ∀ c, S c → c < H.length := by obtain ⟨w, h1⟩ := h1; exact h1.lt
  refine ⟨⟨S, h1.keep hl (fun c hc => hx c (hlt c hc) (.inl (h2 c hc))) (hx _ (h.lt _ h.kp) (.inr rfl)), fun c hc h' => ?_⟩, fun c hc => ?_, k⟩
  · rcases hk c h' with q | q
    · exact h2 c hc q
    · have := hlt c hc; omega
  · rcases hk c hc with q | q
    · exact Nat.lt_of_lt_of_le (h.lt c q) hl
    · exact q.2
section
variable {K : Nat → Prop} {H : Heap} {bb kp : Nat} {x : Bx}
theorem PBx.out {H' : Heap} {S : Nat → Prop} (h : PBx K H bb kp x) (hd : ∀ c, S c → ¬ K c) (ho : Only S H H') : KK_ K H H' := ⟨ho.1, fun c hc => ho.2 c (h.lt c hc) fun hs => hd c hs hc⟩
theorem PBx.in_ {H' : Heap} {y : Bx} {S : Nat → Prop} (h : PBx K H bb kp x) (hd : ∀ c, S c → ¬ K c) (ho : Only S H H') (p : PB H' bb kp y (Grow S H H')) : PBx K H' bb kp y :=
  ⟨⟨_, p, fun c hc hk => by rcases hc with hc | hc; exact hd c hc hk; have := h.lt c hk; omega⟩, fun c hc => Nat.lt_of_lt_of_le (h.lt c hc) ho.1, h.kp⟩
theorem PBx.in_m {H' : Heap} {y : Bx} {S : Nat → Prop} {m : Nat} (h : PBx K H bb kp x) (hd : ∀ c, S c → ¬ K c) (ho : Only S H H') (hm : m < H'.length) (hsm : S m ∨ H.length ≤ m) (p : PB H' bb kp y (fun c => Grow S H H' c ∧ c ≠ m)) : PBx (fun c => K c ∨ c = m) H' bb kp y ∧ ¬ K m := by
  have hkm : ¬ K m := fun hk => by rcases hsm with q | q; exact hd m q hk; have := h.lt m hk; omega
  refine ⟨⟨⟨_, p, fun c hc hk => ?_⟩, fun c hc => ?_, .inl h.kp⟩, hkm⟩
  · rcases hk with hk | hk
    · rcases hc.1 with hc | hc
      · exact hd c hc hk
      · have := h.lt c hk; omega
    · exact hc.2 hk
  · rcases hc with hc | hc
    · exact Nat.lt_of_lt_of_le (h.lt c hc) ho.1
    · omega
theorem s_NewX {p : Pt} (hok : p.ok) (K : Nat → Prop) (hK : ∀ c, K c → c < H.length) : WC F fn_port_New [.agg p.cells] H fun v H' => ∃ bb kp, v = .tup [.c (.ptr (some (bb, 0))), .c (.int .i64 0)] ∧ PBx (fun c => K c ∨ c = kp) H' bb kp ⟨p, [], 0, false⟩ ∧ Xt H H' ∧ H.length ≤ kp := by
  refine s_New.mono ?_
  rintro v H' ⟨⟨l, x⟩, h, -⟩
  obtain ⟨bb, kp, rfl, h1, h2, h3, h4, h5, h6, h7⟩ := h hok
  refine ⟨bb, kp, rfl, ⟨⟨fun c => c = bb, ⟨.sl none 0 0 false, h6, h7, .inl ⟨rfl, rfl⟩, rfl, fun c hc => by subst hc; exact h4, h3, ⟨hok, by simp, by simp, by simp, fun hk => by simp; have := (hok.2.2.2.2.1 hk).1; omega, fun _ => by simp⟩⟩, fun c hc hk => ?_⟩, fun c hc => ?_, .inr rfl⟩, ⟨l, x⟩, h2⟩
  · subst hc
    rcases hk with hk | hk
    · have := hK c hk; omega
    · exact h3 hk.symm
  · rcases hc with hc | hc
    · have := hK c hc; omega
    · subst hc; exact h5
theorem s_SendX {a : Option Ad} {c : Nat} {o : Bool} {d : List Nat} (h : PBx K H bb kp x) (hs : Sl H 1 a d.length (nats .u8 d)) (hby : ∀ b ∈ d, b < 256) :
    WC F fn_port_Box_Send [.c (.ptr (some (bb, 0))), .c (.sl a d.length c o)] H fun v H' => v = .c (.int .i64 (x.send d).1) ∧ PBx K H' bb kp (x.send d).2 ∧ KK_ K H H' := by
  obtain ⟨S, h1, h2⟩ := h.box
  refine (s_Send h1 hs hby).mono ?_
  rintro v H' ⟨rfl, p1, p2⟩
  exact ⟨rfl, h.in_ h2 p2 p1, h.out h2 p2⟩
theorem s_ArriveX {a : Option Ad} {c : Nat} {o : Bool} {d : List Nat} {s : Int} (h : PBx K H bb kp x) (hs : Sl H 1 a d.length (nats .u8 d)) (hby : ∀ b ∈ d, b < 256) (h64 : s < 9223372036854775808) :
    WC F fn_port_Box_Arrive [.c (.ptr (some (bb, 0))), .c (.sl a d.length c o), .c (.int .i64 s)] H fun v H' => v = .c (.int .i64 (x.arrive d s).1) ∧ PBx K H' bb kp (x.arrive d s).2 ∧ KK_ K H H' := by
  obtain ⟨S, h1, h2⟩ := h.box
  refine (s_Arrive h1 hs hby h64).mono ?_
  rintro v H' ⟨rfl, p1, p2⟩
  exact ⟨rfl, h.in_ h2 p2 p1, h.out h2 p2⟩
/-- What one has of a message that was handed out, or none. -/
def Got (K : Nat → Prop) (r : Option (List Nat)) (e : Cell) (y : Bx) (bb kp : Nat) (v : V) (H' : Heap) : Prop :=
  match r with
  | none => v = .tup [.c (.sl none 0 0 false), .c e] ∧ PBx K H' bb kp y
  | some d => ∃ m, v = .tup [.c (msgC m d), .c e] ∧ H'[m]? = some (msgB d) ∧ ¬ K m ∧ PBx (fun c => K c ∨ c = m) H' bb kp y
theorem s_TakeX (h : PBx K H bb kp x) : WC F fn_port_Box_Take [.c (.ptr (some (bb, 0)))] H fun v H' => Got K x.take.1 (.bool x.take.1.isSome) x.take.2 bb kp v H' ∧ KK_ K H H' := by
  obtain ⟨S, h1, h2⟩ := h.box
  refine (s_Take h1).mono ?_
  rintro v H' ⟨p1, p2⟩
  refine ⟨?_, h.out h2 p1⟩
  generalize x.take = q at *
  obtain ⟨r, y⟩ := q
  cases r with
  | none => exact ⟨p2.1, h.in_ h2 p1 p2.2⟩
  | some d =>
    obtain ⟨m, e1, e2, e3, e4, e5⟩ := p2
    obtain ⟨q1, q2⟩ := h.in_m h2 p1 e3 e4 e5
    exact ⟨m, e1, e2, q2, q1⟩
theorem s_RecvX {s : Int} (h : PBx K H bb kp x) (h64 : s < 9223372036854775808) : WC F fn_port_Box_Recv [.c (.ptr (some (bb, 0))), .c (.int .i64 s)] H fun v H' => Got K (x.recv s).1 (.int .i64 (x.recv s).2.1) (x.recv s).2.2 bb kp v H' ∧ KK_ K H H' := by
  obtain ⟨S, h1, h2⟩ := h.box
  refine (s_Recv h1 h64).mono ?_
  rintro v H' ⟨p1, p2⟩
  refine ⟨?_, h.out h2 p1⟩
  generalize x.recv s = q at *
  obtain ⟨r, e, y⟩ := q
  cases r with
  | none => exact ⟨p2.1, h.in_ h2 p1 p2.2⟩
  | some d =>
    obtain ⟨m, e1, e2, e3, e4, e5⟩ := p2
    obtain ⟨q1, q2⟩ := h.in_m h2 p1 e3 e4 e5
    exact ⟨m, e1, e2, q2, q1⟩
theorem s_LenX (h : PBx K H bb kp x) : WC F fn_port_Box_Len [.c (.ptr (some (bb, 0)))] H fun v H' => v = .c (.int .i64 (x.ms.length : Nat)) ∧ H' = H := by
  obtain ⟨S, h1, h2⟩ := h.box
  exact s_Len h1
end
end Go.Proofs.Ytdekplnphbjgbaa.AM.D04
