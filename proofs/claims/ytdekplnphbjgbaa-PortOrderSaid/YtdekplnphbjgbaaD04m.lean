/- What the functions of chapter 4 come to, for who holds two boxes; a list that is cut in front and grows behind. -/
import Derived.Test.YtdekplnphbjgbaaD04k
set_option linter.unusedVariables false
set_option linter.unusedSimpArgs false
set_option linter.unusedSectionVars false
namespace Go.Proofs.Ytdekplnphbjgbaa.AM.D04
open Go Go.Proofs.Ytdekplnphbjgbaa.AM
set_option maxHeartbeats 2000000
set_option maxRecDepth 100000
attribute [local go_sem] ev_L k_ev Env.up_app Env.of_app aop_mv aop_pick aop_bin aop_eq aop_eqagg aop_un aop_cv aop_nilck aop_ld aop_st aop_iaS aop_iaA aop_fa aop_fld aop_ix aop_ext aop_len aop_lenK aop_box aop_new aop_build aop_bsl aop_mkfn aop_call callO_fn callO_yld aop_app aop_appT aop_cpy aop_clr aop_ins aop_look aop_mksl aop_mkmap aop_s2b s2bO_str mkslO_int aop_slS aop_same aop_b2s fillB_nil outO outS Option.map_none List.length_cons List.length_nil List.length_append List.length_set List.length_replicate List.set_cons_zero List.set_cons_succ pickO_true pickO_false binO_c eqO_c eqaO_agg unO_c cvO_int nilckO_ptr nilckO_fn ldO_one ldO_row stO_one stO_if okA_some oa_some iaSO_sl iaSO_some iaAO_ptr faO_ptr fldO_agg ixO_agg extO_tup lenO_sl lenO_str V.cells_c V.cells_agg Option.map_some Option.bind_some Option.getD_some List.getElem?_cons_zero List.getElem?_cons_succ List.map_cons List.map_nil V.pc Pc.v asI adsOf adOf Int.toNat_natCast Nat.mul_one Nat.zero_mul Int.ofNat_lt lss_int leq_int gtr_int geq_int eql_int neq_int and_int or_int xor_int andNot_int shr_u8_i shr_u16_i shr_u32_i shr_u64_i shr_i64_i and_u8_i and_u16_i and_u32_i and_u64_i or_u8_i or_u16_i or_u32_i or_u64_i xor_u8_i xor_u16_i xor_u32_i xor_u64_i wrap_u8_i wrap_u16_i wrap_u32_i wrap_u64_i wr_i64 and15 and1 and7 addA_mk Nat.zero_add Nat.add_zero beq_self_eq_true dec_t dec_f decide_true decide_false not_true_eq_false Int.natCast_inj Bool.not_true Bool.not_false Bool.false_eq_true if_true if_false Int.cast_ofNat_Int ne_eq not_false_eq_true Ex.exit.injEq resOf resV L_get? List.mapM_cons List.mapM_nil shutAll_nil shutAll_one ld_blk ldn_blk st_blk ldB_some ldnB_some stB_some put_nil put_cons rdK_ld rdK_b2s List.append_nil List.nil_append List.cons_append List.zip_cons_cons List.zip_nil_left List.zip_nil_right List.foldl_cons List.foldl_nil L_set L_set' rd_one rd_row Option.pure_def Option.bind_eq_bind and_self and_true true_and bne_t bne_f Option.isNone_some Option.isNone_none eqC_bb eqC_pn eqC_ps eqC_sn eqC_ss eqC_fn1 eqC_fn2 eqC_fn3 eqC_mn eqC_ms nats_len nats_get aop_slA slAO_all fillB_cons sameO eq_self add_u8_i add_u16_i add_u32_i add_u64_i mul_u8_i mul_u16_i mul_u32_i mul_u64_i sub_u8_i sub_u16_i sub_u32_i sub_u64_i quo_u8_i quo_u16_i quo_u32_i quo_u64_i rem_u8_i rem_u16_i rem_u32_i rem_u64_i shl_u8_i shl_u16_i shl_u32_i shl_u64_i quo_i64_i rem_i64_i shl_i64_i or_i64_i and_i64_i and_i64_15 and_i64_31 or256 str_eql str_add str_neq bstr_append bstr_size b2sO_ld b2sO_nil strOf_nats sub_nats un_xor_u8 un_xor_u16 un_xor_u32 un_xor_u64 un_neg un_not not_dec beq_int bne_int pickO_dec ld_addA ldn_addA st_addA slSO_lohi slSO_hi Nat.mod_eq_of_lt if_pos if_neg
attribute [local go_sem 500] wrap_u8_z wrap_u16_z wrap_u32_z wrap_u64_z add_int sub_int mul_int
/-- Two boxes, for who has other blocks (K). -/
structure Two (K : Nat → Prop) (H : Heap) (bs ks : Nat) (x : Bx) (bd kd : Nat) (y : Bx) : Prop where
  two : ∃ S, PB H bd kd y S ∧ (∀ c, S c → ¬ K c) ∧ PBx (fun c => K c ∨ S c) H bs ks x
  k1 : K ks
  k2 : K kd
section
variable {K : Nat → Prop} {H H' : Heap} {bs ks bd kd : Nat} {x y z : Bx}
theorem Two.lt (h : Two K H bs ks x bd kd y) : ∀ c, K c → c < H.length := by
  obtain ⟨S, h1, h2, h3⟩ := h.two
  exact fun c hc => h3.lt c (.inl hc)
theorem Two.swap (h : Two K H bs ks x bd kd y) : Two K H bd kd y bs ks x := by
  obtain ⟨S, h1, h2, h3⟩ := h.two
  obtain ⟨T, h4, h5⟩ := h3.box
  refine ⟨⟨T, h4, fun c hc hk => h5 c hc (.inl hk), ⟨⟨S, h1, fun c hc hk => ?_⟩, fun c hc => ?_, .inl h.k2⟩⟩, h.k2, h.k1⟩
  · rcases hk with hk | hk
    · exact h2 c hc hk
    · exact h5 c hk (.inr hc)
  · rcases hc with hc | hc
    · exact h3.lt c (.inl hc)
    · obtain ⟨w, h4⟩ := h4; exact h4.lt c hc
theorem Two.mono {K' : Nat → Prop} (h : Two K H bs ks x bd kd y) (hk : ∀ c, K' c → K c) (k1 : K' ks) (k2 : K' kd) : Two K' H bs ks x bd kd y := by
  obtain ⟨S, h1, h2, h3⟩ := h.two
  exact ⟨⟨S, h1, fun c hc hk' => h2 c hc (hk c hk'), h3.mono (fun c hc => by rcases hc with hc | hc; exact .inl (hk c hc); exact .inr hc) (.inl k1)⟩, k1, k2⟩
theorem Two.ext {K' : Nat → Prop} (h : Two K H bs ks x bd kd y) (hl : H.length ≤ H'.length) (hx : ∀ c, c < H.length → ¬ K c ∨ c = ks ∨ c = kd → H'[c]? = H[c]?) (hk : ∀ c, K' c → K c ∨ (H.length ≤ c ∧ c < H'.length)) (k1 : K' ks) (k2 : K' kd) : Two K' H' bs ks x bd kd y := by
  obtain ⟨S, h1, h2, h3⟩ := h.two
  have hS : ∀ c, S c → c < H.length := fun c hc => h3.lt c (.inr hc)
  refine ⟨⟨S, h1.keep hl (fun c hc => hx c (hS c hc) (.inl (h2 c hc))) (hx kd (h3.lt _ (.inl h.k2)) (.inr (.inr rfl))), fun c hc hk' => ?_, h3.ext hl (fun c hc hn => ?_) (fun c hc => ?_) (.inl k1)⟩, k1, k2⟩
  · rcases hk c hk' with q | q
    · exact h2 c hc q
    · have := hS c hc; omega
  · rcases hn with hn | hn
    · exact hx c hc (.inl fun h => hn (.inl h))
    · exact hx c hc (.inr (.inl hn))
  · rcases hc with hc | hc
    · rcases hk c hc with q | q
      · exact .inl (.inl q)
      · exact .inr q
    · exact .inl (.inr hc)
/-- What a call on the first one leaves. -/
theorem Two.op (h : Two K H bs ks x bd kd y) : ∃ K1 : Nat → Prop, PBx K1 H bs ks x ∧ (∀ c, K c → K1 c) ∧
    (∀ H' z, PBx K1 H' bs ks z → KK_ K1 H H' → Two K H' bs ks z bd kd y) ∧
    (∀ H' z m, PBx (fun c => K1 c ∨ c = m) H' bs ks z → ¬ K1 m → KK_ K1 H H' → Two (fun c => K c ∨ c = m) H' bs ks z bd kd y ∧ ¬ K m) := by
  obtain ⟨S, h1, h2, h3⟩ := h.two
  refine ⟨_, h3, fun c hc => .inl hc, fun H' z p k => ⟨⟨S, h1.keep k.1 (fun c hc => k.2 c (.inr hc)) (k.2 kd (.inl h.k2)), h2, p⟩, h.k1, h.k2⟩, fun H' z m p hm k => ⟨⟨⟨S, h1.keep k.1 (fun c hc => k.2 c (.inr hc)) (k.2 kd (.inl h.k2)), fun c hc hk => ?_, p.mono (fun c hc => ?_) (.inl (.inl h.k1))⟩, .inl h.k1, .inl h.k2⟩, fun hk => hm (.inl hk)⟩⟩
  · rcases hk with hk | hk
    · exact h2 c hc hk
    · exact hm (.inr (hk ▸ hc))
  · rcases hc with (hc | hc) | hc
    · exact .inl (.inl hc)
    · exact .inr hc
    · exact .inl (.inr hc)
theorem s_Send1 {a : Option Ad} {c : Nat} {o : Bool} {d : List Nat} (h : Two K H bs ks x bd kd y) (hs : Sl H 1 a d.length (nats .u8 d)) (hby : ∀ b ∈ d, b < 256) :
    WC F fn_port_Box_Send [.c (.ptr (some (bs, 0))), .c (.sl a d.length c o)] H fun v H' => v = .c (.int .i64 (x.send d).1) ∧ Two K H' bs ks (x.send d).2 bd kd y ∧ KK_ K H H' := by
  obtain ⟨K1, p, hk, q1, -⟩ := h.op
  exact (s_SendX p hs hby).mono (by rintro v H' ⟨rfl, p1, p2⟩; exact ⟨rfl, q1 _ _ p1 p2, p2.1, fun c hc => p2.2 c (hk c hc)⟩)
theorem s_Arrive1 {a : Option Ad} {c : Nat} {o : Bool} {d : List Nat} {s : Int} (h : Two K H bs ks x bd kd y) (hs : Sl H 1 a d.length (nats .u8 d)) (hby : ∀ b ∈ d, b < 256) (h64 : s < 9223372036854775808) :
    WC F fn_port_Box_Arrive [.c (.ptr (some (bs, 0))), .c (.sl a d.length c o), .c (.int .i64 s)] H fun v H' => v = .c (.int .i64 (x.arrive d s).1) ∧ Two K H' bs ks (x.arrive d s).2 bd kd y ∧ KK_ K H H' := by
  obtain ⟨K1, p, hk, q1, -⟩ := h.op
  exact (s_ArriveX p hs hby h64).mono (by rintro v H' ⟨rfl, p1, p2⟩; exact ⟨rfl, q1 _ _ p1 p2, p2.1, fun c hc => p2.2 c (hk c hc)⟩)
/-- What one has of a message that the first one handed out, or none. -/
def Got2 (K : Nat → Prop) (r : Option (List Nat)) (e : Cell) (z : Bx) (bs ks bd kd : Nat) (y : Bx) (v : V) (H' : Heap) : Prop :=
  match r with
  | none => v = .tup [.c (.sl none 0 0 false), .c e] ∧ Two K H' bs ks z bd kd y
  | some d => ∃ m, v = .tup [.c (msgC m d), .c e] ∧ H'[m]? = some (msgB d) ∧ ¬ K m ∧ Two (fun c => K c ∨ c = m) H' bs ks z bd kd y
theorem Got.two (h : Two K H bs ks x bd kd y) {K1 : Nat → Prop} (q1 : ∀ H' z, PBx K1 H' bs ks z → KK_ K1 H H' → Two K H' bs ks z bd kd y)
    (q2 : ∀ H' z m, PBx (fun c => K1 c ∨ c = m) H' bs ks z → ¬ K1 m → KK_ K1 H H' → Two (fun c => K c ∨ c = m) H' bs ks z bd kd y ∧ ¬ K m) {r : Option (List Nat)} {e : Cell} {v : V} (g : Got K1 r e z bs ks v H') (k : KK_ K1 H H') : Got2 K r e z bs ks bd kd y v H' := by
  cases r with
  | none => exact ⟨g.1, q1 _ _ g.2 k⟩
  | some d =>
    obtain ⟨m, e1, e2, e3, e4⟩ := g
    obtain ⟨u1, u2⟩ := q2 _ _ m e4 e3 k
    exact ⟨m, e1, e2, u2, u1⟩
theorem s_Take1 (h : Two K H bs ks x bd kd y) : WC F fn_port_Box_Take [.c (.ptr (some (bs, 0)))] H fun v H' => Got2 K x.take.1 (.bool x.take.1.isSome) x.take.2 bs ks bd kd y v H' ∧ KK_ K H H' := by
  obtain ⟨K1, p, hk, q1, q2⟩ := h.op
  exact (s_TakeX p).mono (by rintro v H' ⟨g, k⟩; exact ⟨Got.two h q1 q2 g k, k.1, fun c hc => k.2 c (hk c hc)⟩)
theorem s_Recv1 {s : Int} (h : Two K H bs ks x bd kd y) (h64 : s < 9223372036854775808) : WC F fn_port_Box_Recv [.c (.ptr (some (bs, 0))), .c (.int .i64 s)] H fun v H' => Got2 K (x.recv s).1 (.int .i64 (x.recv s).2.1) (x.recv s).2.2 bs ks bd kd y v H' ∧ KK_ K H H' := by
  obtain ⟨K1, p, hk, q1, q2⟩ := h.op
  exact (s_RecvX p h64).mono (by rintro v H' ⟨g, k⟩; exact ⟨Got.two h q1 q2 g k, k.1, fun c hc => k.2 c (hk c hc)⟩)
theorem s_Len1 (h : Two K H bs ks x bd kd y) : WC F fn_port_Box_Len [.c (.ptr (some (bs, 0)))] H fun v H' => v = .c (.int .i64 (x.ms.length : Nat)) ∧ H' = H := by
  obtain ⟨S, h1, h2, h3⟩ := h.two
  exact s_LenX h3
end
/-- A list that is cut in front and grows behind. -/
def Wn (H : Heap) (w : Cell) (l : List Nat) (B : Nat → Prop) : Prop :=
  (w = .sl none 0 0 false ∧ l = []) ∨ ∃ b off cs, w = .sl (some (b, off)) l.length l.length true ∧ H[b]? = some (.cells cs false (some 1)) ∧ off + l.length = cs.length ∧ cs.drop off = nats .u8 l ∧ B b
theorem Wn.keep {H H' : Heap} {w : Cell} {l : List Nat} {B : Nat → Prop} (h : Wn H w l B) (hx : ∀ c, B c → H'[c]? = H[c]?) : Wn H' w l B := by
  rcases h with h | ⟨b, off, cs, h1, h2, h3, h4, h5⟩
  · exact .inl h
  · exact .inr ⟨b, off, cs, h1, (hx b h5).trans h2, h3, h4, h5⟩
theorem Wn.sl {H : Heap} {w : Cell} {l : List Nat} {B : Nat → Prop} (h : Wn H w l B) : ∃ a o, w = .sl a l.length l.length o ∧ Sl H 1 a l.length (nats .u8 l) := by
  rcases h with ⟨rfl, rfl⟩ | ⟨b, off, cs, rfl, h2, h3, h4, h5⟩
  · exact ⟨none, false, rfl, Sl.none _ _⟩
  · refine ⟨_, _, rfl, ⟨by rw [nats_len, Nat.mul_one], by simp [okA], fun a' e => ?_⟩⟩
    cases e
    rw [ldn_of h2, Nat.mul_one]
    unfold sub
    rw [if_pos (by omega), h4, List.take_of_length_le (by rw [nats_len]; exact Nat.le_refl _)]
theorem outM_appW {H : Heap} {k : V → Heap → Prop} {w : Cell} {l : List Nat} {B : Nat → Prop} {b2 : Nat} {v c₂ : Nat} {o₂ : Bool} (h : Wn H w l B) (h2 : H[b2]? = some (.cells (nats .u8 [v]) false none)) (hl : l.length ≤ 1000)
    (hq : ∀ e H', Plus H e H' → Wn H' (.sl (some (e, 0)) (l.length + 1) (l.length + 1) true) (l ++ [v]) (fun c => c = e) → (∀ c, c < H.length → ¬ B c → H'[c]? = H[c]?) → k (.c (.sl (some (e, 0)) (l.length + 1) (l.length + 1) true)) H') :
    outM F (appO 1 1 (.c w) (.c (.sl (some (b2, 0)) 1 c₂ o₂)) H) k ⟨⟩ := by
  have hmo : (l.length + 1) * (1 + 1) ≤ most := by have : most = 2 ^ 40 := rfl; omega
  have hz : Sl H 1 (some (b2, 0)) 1 (nats .u8 [v]) := Sl.blk h2 rfl
  have fin : ∀ e (H' : Heap), H'[e]? = some (.cells (nats .u8 l ++ nats .u8 [v]) false (some 1)) → Wn H' (.sl (some (e, 0)) (l.length + 1) (l.length + 1) true) (l ++ [v]) (fun c => c = e) := fun e H' g =>
    .inr ⟨e, 0, _, by rw [List.length_append]; rfl, g, by rw [List.length_append, List.length_append, nats_len, nats_len]; omega, by rw [List.drop_zero, nats_append], rfl⟩
  rcases h with ⟨rfl, rfl⟩ | ⟨b, off, cs, rfl, g, h3, h4, h5⟩
  · refine outM_appC (i := 0) (j := 1) (xs := []) (Sl.none _ _) hz (by omega) hmo fun e H' pe ge xe => ?_
    exact hq e H' pe (fin e H' ge) (fun c hc _ => xe c (by omega))
  · have e0 : appO 1 1 (.c (.sl (some (b, off)) l.length l.length true)) (.c (.sl (some (b2, 0)) 1 c₂ o₂)) H = some (.v (.c (.sl (some (H.length, 0)) (l.length + 1) (l.length + 1) true)), H.set b .dead ++ [.cells (nats .u8 l ++ nats .u8 [v]) false (some 1)]) := by
      simp only [appO, aop, hz.rd (b2, 0) rfl, Option.bind_some]
      unfold appH
      rw [if_neg (by omega), if_neg (by omega)]
      have e2 : H.ldn (b, off) l.length = some (nats .u8 l) := by
        rw [ldn_of g]; unfold sub
        rw [if_pos (by omega), h4, List.take_of_length_le (by rw [nats_len]; exact Nat.le_refl _)]
      simp only [Nat.mul_one, e2, Option.bind_some, if_true, g, h3, and_self]
    rw [e0]
    refine hq H.length _ ⟨by simp, by simp, by simp, by simp⟩ (fin _ _ ?_) (fun c hc hn => ?_)
    · have : H.length = (H.set b .dead).length := by simp
      rw [this]; exact get_last _
    · rw [get_app _ (by simpa using hc), List.getElem?_set_ne (fun h => hn (by cases h; exact h5))]
end Go.Proofs.Ytdekplnphbjgbaa.AM.D04
