/- What the functions of chapter 7 come to: what each receives. -/
import Derived.Test.YtbgmbnikpjjmcaaD07l
set_option linter.unusedVariables false
set_option linter.unusedSimpArgs false
set_option linter.unusedSectionVars false
namespace Go.Proofs.Ytbgmbnikpjjmcaa.AM.D07
open Go Go.Proofs.Ytbgmbnikpjjmcaa.AM Go.Proofs.Ytbgmbnikpjjmcaa.AM.C02 Go.Proofs.Ytbgmbnikpjjmcaa.AM.C07
set_option maxHeartbeats 2000000
set_option maxRecDepth 100000
attribute [local go_sem] tn_add1 tn_sub1 put_all' nums_len
def CarQ (H : Heap) (p : Nat) (a : Option Ad) (c : Nat) (o : Bool) (ws : List Int) (bl pa : Nat) (slot : Int) (l : List Snd) (cps : List Cpy) (v : V) (H' : Heap) : Prop :=
  ∃ bo f, v = .tup [.c (.sl (some (bo, 0)) ws.length ws.length false), .c (.int .i64 0)] ∧ H.length ≤ bo ∧ bo < H'.length ∧ Outs H' H.length bo ws.length f ∧
    ((noneP (ownF ws slot) l ∧ (∀ j, f j = none) ∧ BusM H' p a c o ws ((bl + l.length) % 18446744073709551616) pa) ∨
     ∃ i, fstP (ownF ws slot) l i ∧ (∀ j, j < ws.length → f j = becomes (cpF (ownF ws slot) cps j) (gs l i).bytes) ∧ BusM H' p a c o ws ((bl + (l.length - 1)) % 18446744073709551616) ((pa + 1) % 18446744073709551616))
theorem tabC_keep {N : Nat} {H H' : Heap} {a : Option Ad} {l : List Cpy} (h : Tab 3 CpR N H a l) (hx : ∀ b x, a = some (b, x) → b < N → H'[b]? = H[b]?) : Tab 3 CpR N H' a l := fun i e he => by
  obtain ⟨⟨b, y⟩, cs, rfl, h1, h2, h3⟩ := h i e he
  exact ⟨(b, y), cs, rfl, h1, by rw [hx b y rfl h1]; exact h2, h3⟩
theorem _root_.Go.Proofs.Ytbgmbnikpjjmcaa.AM.C07.BusM.keep {H H' : Heap} {p : Nat} {a : Option Ad} {c : Nat} {o : Bool} {ws : List Int} {bl pa : Nat} (h : BusM H p a c o ws bl pa) (hx : ∀ b, b = p ∨ (∃ x, a = some (b, x)) → H'[b]? = H[b]?) : BusM H' p a c o ws bl pa :=
  ⟨(hx p (.inl rfl)).trans h.1, h.2.1.keep fun b x e => hx b (.inr ⟨x, e⟩), h.2.2⟩
theorem mkslO_nil {H : Heap} {m : Nat} (h : m ≤ 100000) : mkslO 1 24 [Cell.sl none 0 0 false] (.c (.int .i64 (m : Nat))) (.c (.int .i64 (m : Nat))) H = some (.v (.c (.sl (some (H.length, 0)) m m false)), H ++ [.cells (List.replicate m nilC) false none]) := by
  have hgr : ∀ m, grows [nilC] m = List.replicate m nilC := fun m => by
    unfold grows
    induction m with
    | zero => rfl
    | succ m ih => rw [List.replicate_succ, List.flatten_cons, ih, List.replicate_succ]; rfl
  have e := mkslO_int (H := H) (sz := 1) (by_ := 24) (z := [nilC]) (i := .i64) (i' := .i64) (l := (m : Nat)) (c := (m : Nat)) ⟨by omega, by omega, by omega⟩ rfl
  rw [Int.toNat_natCast, hgr] at e
  exact e
theorem s_Carry {N p : Nat} {H : Heap} {a a2 a3 : Option Ad} {c c2 c3 : Nat} {o o2 o3 : Bool} {ws : List Int} {bl pa : Nat} {slot : Int} {l : List Snd} {cps : List Cpy} {n k : Nat}
    (hb : BusM H p a c o ws bl pa) (hw : ws.length ≤ 100000) (hs : i64 slot) (h0 : 0 ≤ slot) (ht : Snds N p H a2 l) (hn : l.length = n) (hn2 : n ≤ 100000) (hbytes : ∀ i, i < n → (gs l i).bytes.length ≤ 100000) (hc : Tab 3 CpR N H a3 cps) (h3 : ∀ b x, a3 = some (b, x) → b ≠ p) (hk : cps.length = k) (hk2 : k ≤ 100000) (hN : N ≤ H.length) :
    WC F fn_bus_Bus_Carry [.c (.ptr (some (p, 0))), .c (.int .i64 slot), .c (.sl a2 n c2 o2), .c (.sl a3 k c3 o3)] H fun v H' => CarQ H p a c o ws bl pa slot l cps v H' ∧ But p H H' := by
  refine WC_start e_bus_Bus_Carry (by simp) ?_
  unfold c_bus_Bus_Carry
  have hpl : p < H.length := lt_of_get hb.1
  have hal : ∀ b x, a = some (b, x) → b < H.length := fun b x e => hb.2.1.lt e
  have hb1 := hb.1
  have fin0 : Hid _ := fun (A : Prop) (h : _ → _ → _ → _ → _ → _ → _ → _ → A) => h hb ht hal hbytes hc h3 hk hs
  unfold CarQ
  obtain ⟨ow, how⟩ : ∃ ow, ow = ownF ws slot := ⟨_, rfl⟩
  have fow : Hid _ := fun (A : Prop) (h : _ → A) => h how
  rw [← how]
  obtain ⟨m, hm⟩ : ∃ m, ws.length = m := ⟨_, rfl⟩
  have fm : Hid _ := fun (A : Prop) (h : _ → _ → A) => h hm hn
  rw [hm] at hb1 hw ⊢
  clear hb hs ht hal hbytes hc h3 hk how hm
  have hs0 : ¬ slot < 0 := by omega
  repeat (with_reducible first|(first|refine pI1 ?_|refine pS1 ?_);intros|refine pA1 ?_|refine pX1 ?_|refine pB1 ?_|exact True.intro)
  rw [mkslO_nil hw]
  repeat (with_reducible first|(first|refine pI1 ?_|refine pS1 ?_);intros|refine pA1 ?_|refine pX1 ?_|refine pB1 ?_|exact True.intro)
  rename_i bo H1 p1 g1 x1
  have fx : Hid _ := fun (A : Prop) (h : _ → _ → A) => h x1 g1
  have hx1 : ∀ b, b < H.length → H1[b]? = H[b]? := fun b hb => x1 b (by omega)
  have hpa := s_pass (c2 := c2) (o2 := o2) (slot := slot) ((fin0 _ fun hb _ _ _ _ _ _ _ => hb).keep (H' := H1) fun b hb => hx1 b (by rcases hb with rfl | ⟨x, e⟩; exact hpl; exact fin0 _ fun _ _ hal _ _ _ _ _ => hal _ _ e)) (by rw [fm _ fun h _ => h]; exact hw) (fin0 _ fun _ _ _ _ _ _ _ h => h)
    ((fin0 _ fun _ ht _ _ _ _ _ _ => ht).keep fun b hb _ => hx1 b (by omega)) hn hn2 (by omega)
  clear x1 g1 hx1 hn
  repeat (with_reducible first|(first|refine pI1 ?_|refine pS1 ?_);intros|refine pA1 ?_|refine pX1 ?_|refine pB1 ?_|exact True.intro)
  refine outM_call hpa ?_
  rintro v H2 ⟨hq, l2, x2⟩
  clear hpa hb1
  have hx2 : ∀ b, b < H.length → b ≠ p → H2[b]? = H[b]? := fun b hb hp => by rw [x2 b (by omega) hp]; exact fx _ fun x1 _ => x1 b (by omega)
  have ho2 : Outs H2 H.length bo m fun _ => none := by
    refine ⟨List.replicate m nilC, ?_, List.length_replicate, fun j hj => ?_⟩
    · rw [x2 bo (by omega) (by omega)]
      exact fx _ fun _ g1 => g1
    · show _ = _
      rw [List.getElem?_replicate, if_pos hj]
  have f2 : Hid _ := fun (A : Prop) (h : _ → _ → A) => h hx2 ho2
  clear x2 hx2 ho2
  unfold PassQ at hq
  rw [← fow _ fun h => h] at hq
  have hn := fm _ fun _ h => h
  rcases hq with ⟨hno, rfl, hbm⟩ | ⟨i, a', c', o', hfst, rfl, hsl, hab, hby, hbm⟩
  · have f3 : Hid _ := fun (A : Prop) (h : _ → _ → _ → A) => h hno hbm hn
    clear hno hbm hn
    repeat (with_reducible first|(first|refine pI1 ?_|refine pS1 ?_);intros|refine pA1 ?_|refine pX1 ?_|refine pB1 ?_|exact True.intro)
    rename_i b11 H3 p3 g3 x3 H4 l4 g4 x4
    have hx4 : ∀ b, b < H2.length → H4[b]? = H2[b]? := fun b hb => by rw [x4 b (by omega), x3 b (by omega)]
    have f4 : Hid _ := fun (A : Prop) (h : _ → A) => h hx4
    clear x3 x4 g3 g4 hx4
    repeat (with_reducible first|(first|refine pI1 ?_|refine pS1 ?_);intros|refine pA1 ?_|refine pX1 ?_|refine pB1 ?_|exact True.intro)
    refine ⟨⟨bo, _, rfl, by omega, by omega, (f2 _ fun _ ho => ho).keep (by omega) fun b _ hb => f4 _ fun h => h b hb, .inl ⟨f3 _ fun h _ _ => h, fun _ => rfl, ?_⟩⟩, by omega, fun b hb hp => by rw [f4 _ fun h => h b (by omega)]; exact f2 _ fun h _ => h b hb hp⟩
    exact (f3 _ fun _ h _ => h).keep fun b hb => f4 _ fun h => h b (by rcases hb with rfl | ⟨x, e⟩; omega; exact Nat.lt_of_lt_of_le (fin0 _ fun _ _ hal _ _ _ _ _ => hal _ _ e) (by omega))
  · have hlen : (gs l i).bytes.length ≤ 100000 := fin0 _ fun _ _ _ h _ _ _ _ => h i (by have := hfst.1; omega)
    generalize hbs : (gs l i).bytes = bs at *
    obtain ⟨nb, hnb⟩ : ∃ nb, bs.length = nb := ⟨_, rfl⟩
    rw [hnb] at hlen hsl ⊢
    have f3 : Hid _ := fun (A : Prop) (h : _ → _ → _ → _ → _ → _ → _ → _ → A) => h hfst hsl hab hby hbm hnb hbs hn
    clear hfst hsl hab hby hbm hnb hbs hn
    repeat (with_reducible first|(first|refine pI1 ?_|refine pS1 ?_);intros|refine pA1 ?_|refine pX1 ?_|refine pB1 ?_|exact True.intro)
    rename_i b11 H3 p3 g3 x3 H4 l4 g4 x4
    have hx4 : ∀ b, b < H2.length → H4[b]? = H2[b]? := fun b hb => by rw [x4 b (by omega), x3 b (by omega)]
    have f4 : Hid _ := fun (A : Prop) (h : _ → _ → A) => h hx4 g4
    have l11 : b11 < H4.length := lt_of_get g4
    clear x3 x4 g3 g4 hx4
    -- what stands when the loop begins
    have k1 : BusM H4 p a c o ws ((bl + (l.length - 1)) % 18446744073709551616) ((pa + 1) % 18446744073709551616) := (f3 _ fun _ _ _ _ h _ _ _ => h).keep fun b hb => f4 _ fun h _ => h b (by rcases hb with rfl | ⟨x, e⟩; omega; exact Nat.lt_of_lt_of_le (fin0 _ fun _ _ hal _ _ _ _ _ => hal _ _ e) (by omega))
    have k2 : Sl H4 1 a' nb (nats .u8 bs) := (f3 _ fun _ h _ _ _ _ _ _ => h).to fun b hb => f4 _ fun h _ => h b hb
    have k3 : Tab 3 CpR N H4 a3 cps := tabC_keep (fin0 _ fun _ _ _ _ h _ _ _ => h) fun b x e hb => by
      rw [f4 _ fun h _ => h b (by omega)]; exact f2 _ fun h _ => h b (by omega) (fin0 _ fun _ _ _ _ _ h _ _ => h b x e)
    have k4 : Outs H4 H.length bo m fun _ => none := (f2 _ fun _ ho => ho).keep (by omega) fun b _ hb => f4 _ fun h _ => h b hb
    have k5 : But p H H4 := ⟨by omega, fun b hb hp => by rw [f4 _ fun h _ => h b (by omega)]; exact f2 _ fun h _ => h b hb hp⟩
    have k6 : ∀ b x, a = some (b, x) → b < H.length := fin0 _ fun _ _ hal _ _ _ _ _ => hal
    have k7 : ∀ b x, a' = some (b, x) → b < H.length := f3 _ fun _ _ h _ _ _ _ _ => fun b x e => Nat.lt_of_lt_of_le (h b x e).1 hN
    have fk : Hid _ := fun (A : Prop) (h : _ → _ → _ → _ → _ → _ → A) => h k1 k2 k3 k5 k6 k7
    clear k1 k2 k3 k5 k6 k7
    repeat (with_reducible first|(first|refine pI1 ?_|refine pS1 ?_);intros|refine pA1 ?_|refine pX1 ?_|refine pB1 ?_|exact True.intro)
    refine W_loop (fun mm st => ∃ ρ, ∃ j : Nat, ∃ Hk, st = ⟨L 84 ρ, [], Hk⟩ ∧ mm = m - j ∧ j ≤ m ∧ ρ 0 = .c (.ptr (some (p, 0))) ∧ ρ 1 = .c (.int .i64 slot) ∧ ρ 3 = .c (.sl a3 k c3 o3) ∧ ρ 10 = .c (.sl (some (bo, 0)) m m false) ∧ ρ 11 = .c (.ptr (some (b11, 0))) ∧ ρ 13 = .c (.fn fn_bus_Bus_Carry_1 [] [(b11, 0)]) ∧ ρ 40 = .c (.int .i64 (m : Nat)) ∧ ρ 41 = .c (.int .i64 (j : Nat)) ∧ H4.length ≤ Hk.length ∧ (∀ b, b < H4.length → b ≠ bo → Hk[b]? = H4[b]?) ∧ Outs Hk H.length bo m fun j' => if j' < j then becomes (cpF ow cps j') bs else none) m ⟨_, 0, H4, rfl, rfl, by omega, zf, zf, zf, zf, zf, zf, zf, zf, Nat.le_refl _, fun _ _ _ => rfl, k4.same fun j hj => by rw [if_neg (by omega)]⟩ ?_
    clear k4
    rintro mm st ⟨ρ, j, Hk, rfl, rfl, hj, e0, e1, e3, e10, e11, e13, e40, e41, lk, xk, ok⟩
    unfold b_bus_Bus_Carry_22
    obtain ⟨Y, hY⟩ : ∃ Y, Y = IC.seq (.seq (.ops o_bus_Bus_Carry_14) (.cond (.t 55) (.ops o_bus_Bus_Carry_15) .skip)) (.seq (.ops o_bus_Bus_Carry_16) (.block 3 (.seq (.ops o_bus_Bus_Carry_17) (.cond (.t 67) .skip (.seq (.ops o_bus_Bus_Carry_18) (.cond (.t 69) (.ops o_bus_Bus_Carry_19) (.ops o_bus_Bus_Carry_20))))))) := ⟨_, rfl⟩
    rw [← hY]
    have fY : Hid _ := fun (A : Prop) (h : _ → A) => h hY
    have fz : Hid _ := fun (A : Prop) (h : _ → _ → A) => h xk ok
    clear hY xk ok
    by_cases hjm : j < m
    · repeat (with_reducible first|(first|refine pI1 ?_|refine pS1 ?_);intros|refine pA1 ?_|refine pX1 ?_|refine pB1 ?_|exact True.intro)
      rename_i b15 H5 p5 g5 x5 H6 l6 g6 x6
      have hx6 : ∀ b, b < Hk.length → H6[b]? = Hk[b]? := fun b hb => by rw [x6 b (by omega), x5 b (by omega)]
      have z6 : ∀ b, b < H4.length → b ≠ bo → H6[b]? = H4[b]? := fun b hb h => by rw [hx6 b (by omega)]; exact fz _ fun xk _ => xk b hb h
      have o6 := (fz _ fun _ ok => ok).keep (H' := H6) (by omega) fun b _ hb => hx6 b hb
      have l15 : b15 < H6.length := lt_of_get g6
      rw [fY _ fun h => h]
      refine W_cut _ (carry_pick zf zf zf zf zf g6 ((fk _ fun h _ _ _ _ _ => h).keep fun b hb => z6 b (by rcases hb with rfl | ⟨x, e⟩; omega; have := fk _ fun _ _ _ _ h _ => h b x e; omega) (by rcases hb with rfl | ⟨x, e⟩; omega; have := fk _ fun _ _ _ _ h _ => h b x e; omega)) (by rw [fm _ fun h _ => h]; exact hw) (fin0 _ fun _ _ _ _ _ _ _ h => h) (tabC_keep (fk _ fun _ _ h _ _ _ => h) fun b x e hb => z6 b (by omega) (by omega)) (fin0 _ fun _ _ _ _ _ _ h _ => h) hk2) ?_
      rintro _ ⟨ρ7, H7, rfl, ⟨r0, r1, r3, r10, r11, r13, r14, r15, r40, r41⟩, g7, l7, x7⟩
      rw [← fow _ fun h => h] at g7
      have hx7 : ∀ b, b < Hk.length → H7[b]? = Hk[b]? := fun b hb => by rw [x7 b (by omega)]; exact hx6 b hb
      have o7 := (fz _ fun _ ok => ok).keep (H' := H7) (by omega) fun b _ hb => hx7 b hb
      have z7 : ∀ b, b < H4.length → b ≠ bo → H7[b]? = H4[b]? := fun b hb h => by rw [hx7 b (by omega)]; exact fz _ fun xk _ => xk b hb h
      have g11 : H7[b11]? = some (.cells [.sl a' nb c' o'] false none) := (z7 b11 l11 (by omega)).trans (f4 _ fun _ g => g)
      have hs7 : Sl H7 1 a' nb (nats .u8 bs) := (fk _ fun _ h _ _ _ _ => h).keep fun b x e => by
        have := fk _ fun _ _ _ _ _ h => h b x e
        exact z7 b (by omega) (by omega)
      refine W.mono (carry_put (r10.trans zf) (r11.trans zf) (r13.trans zf) (r14.trans zf) (r15.trans zf) g7 g11 hs7 (f3 _ fun _ _ _ _ _ h _ _ => h) hlen (f3 _ fun _ _ _ h _ _ _ _ => h) o7 hjm (by omega) (if_neg (by omega)) (cpF_ok (fk _ fun _ _ h _ _ _ => h) ow j)) ?_
      rintro _ _ ⟨rfl, ρ8, H8, rfl, ⟨s0, s1, s3, s10, s11, s13, s14, s15, s40, s41⟩, l8, x8, o8⟩
      have y0 : ρ8 0 = .c (.ptr (some (p, 0))) := s0.trans (r0.trans zf)
      have y1 : ρ8 1 = .c (.int .i64 slot) := s1.trans (r1.trans zf)
      have y3 : ρ8 3 = .c (.sl a3 k c3 o3) := s3.trans (r3.trans zf)
      have y10 : ρ8 10 = .c (.sl (some (bo, 0)) m m false) := s10.trans (r10.trans zf)
      have y11 : ρ8 11 = .c (.ptr (some (b11, 0))) := s11.trans (r11.trans zf)
      have y13 : ρ8 13 = .c (.fn fn_bus_Bus_Carry_1 [] [(b11, 0)]) := s13.trans (r13.trans zf)
      have y40 : ρ8 40 = .c (.int .i64 (m : Nat)) := s40.trans (r40.trans zf)
      have y41 : ρ8 41 = .c (.int .i64 (j : Nat)) := s41.trans (r41.trans zf)
      have z8 : ∀ b, b < H4.length → b ≠ bo → H8[b]? = H4[b]? := fun b hb h => by rw [x8 b (by omega) h]; exact z7 b hb h
      have f8 : Hid _ := fun (A : Prop) (h : _ → _ → A) => h z8 o8
      clear s0 s1 s3 s10 s11 s13 s14 s15 s40 s41 r0 r1 r3 r10 r11 r13 r14 r15 r40 r41 z8 o8 x8 z7 hs7 g11 o7 hx7 o6 z6 hx6 x7 g7 x6 g6 x5 g5 e0 e1 e3 e10 e11 e13 e40 e41
      repeat (with_reducible first|(first|refine pI1 ?_|refine pS1 ?_);intros|refine pA1 ?_|refine pX1 ?_|refine pB1 ?_|exact True.intro)
      refine loopQ_n (m - (j + 1)) (by omega) ⟨_, j + 1, H8, rfl, rfl, by omega, zf, zf, zf, zf, zf, zf, zf, zf, by omega, f8 _ fun z _ => z, (f8 _ fun _ o => o).same fun j' hj' => ?_⟩
      by_cases hjj : j' = j
      · rw [if_pos hjj, if_pos (by omega), hjj]
      · by_cases hlt : j' < j
        · rw [if_neg hjj, if_pos hlt, if_pos (by omega)]
        · rw [if_neg hjj, if_neg hlt, if_neg (by omega)]
    · obtain rfl : j = m := by omega
      repeat (with_reducible first|(first|refine pI1 ?_|refine pS1 ?_);intros|refine pA1 ?_|refine pX1 ?_|refine pB1 ?_|exact True.intro)
      have hbs := f3 _ fun _ _ _ _ _ _ h _ => h
      refine ⟨⟨bo, _, rfl, by omega, by omega, fz _ fun _ ok => ok, .inr ⟨i, f3 _ fun h _ _ _ _ _ _ _ => h, fun j' hj' => by rw [if_pos hj', hbs], ?_⟩⟩, by omega, fun b hb hp => ?_⟩
      · exact (fk _ fun h _ _ _ _ _ => h).keep fun b hb => by
          have : b < H.length := by
            rcases hb with rfl | ⟨x, e⟩
            · exact hpl
            · exact fk _ fun _ _ _ _ h _ => h b x e
          exact fz _ fun xk _ => xk b (by omega) (by omega)
      · rw [fz _ fun xk _ => xk b (by omega) (by omega)]
        exact fk _ fun _ _ _ h _ _ => h.2 b hb hp
end Go.Proofs.Ytbgmbnikpjjmcaa.AM.D07
