/- What the document's functions of chapter 7 come to: what each receives; two answers compared. -/
import Derived.Test.YtbgmbnikpjjmcaaD07x
import Derived.Test.YtbgmbnikpjjmcaaD07n
set_option linter.unusedVariables false
set_option linter.unusedSimpArgs false
set_option linter.unusedSectionVars false
namespace Go.Proofs.Ytbgmbnikpjjmcaa.AM.D07
open Go Go.Proofs.Ytbgmbnikpjjmcaa.AM Go.Proofs.Ytbgmbnikpjjmcaa.AM.C02 Go.Proofs.Ytbgmbnikpjjmcaa.AM.C07
set_option maxHeartbeats 2000000
set_option maxRecDepth 100000
attribute [local go_sem] tn_add1 tn_sub1 put_all' nums_len sub3k
def RCarQ (H : Heap) (p : Nat) (a : Option Ad) (c : Nat) (o : Bool) (ws : List Int) (bl pa : Nat) (slot : Int) (l : List Snd) (cps : List Cpy) (v : V) (H' : Heap) : Prop :=
  ∃ oa ha oo ho f lo, v = .tup [.c (.sl oa ws.length ws.length oo), .c (.sl ha ws.length ws.length ho), .c (.int .i64 0)] ∧ H.length ≤ lo ∧ RInv lo H' oa ha ws.length ws.length oo ho f ∧
    ((noneP (ownF ws slot) l ∧ (∀ j, f j = none) ∧ BusM H' p a c o ws ((bl + l.length) % 18446744073709551616) pa) ∨
     ∃ i, fstP (ownF ws slot) l i ∧ (∀ j, f j = becomes (cpF (ownF ws slot) cps j) (gs l i).bytes) ∧ BusM H' p a c o ws ((bl + (l.length - 1)) % 18446744073709551616) ((pa + 1) % 18446744073709551616))
theorem s_rCarry {N p : Nat} {H : Heap} {a a2 a3 : Option Ad} {c c2 c3 : Nat} {o o2 o3 : Bool} {ws : List Int} {bl pa : Nat} {slot : Int} {l : List Snd} {cps : List Cpy} {n k : Nat}
    (hb : BusM H p a c o ws bl pa) (hw : ws.length ≤ 100000) (hw0 : 0 < ws.length) (hs : i64 slot) (h0 : 0 ≤ slot) (ht : Snds N p H a2 l) (hn : l.length = n) (hn2 : n ≤ 100000) (hbytes : ∀ i, i < n → (gs l i).bytes.length ≤ 100000) (hc : Tab 3 CpR N H a3 cps) (h3 : ∀ b x, a3 = some (b, x) → b ≠ p) (hk : cps.length = k) (hk2 : k ≤ 100000) (hN : N ≤ H.length) :
    WC F fn_rotaref07_Bus_Carry [.c (.ptr (some (p, 0))), .c (.int .i64 slot), .c (.sl a2 n c2 o2), .c (.sl a3 k c3 o3)] H fun v H' => RCarQ H p a c o ws bl pa slot l cps v H' ∧ But p H H' := by
  refine WC_start e_rotaref07_Bus_Carry (by simp) ?_
  unfold c_rotaref07_Bus_Carry
  have hpa := s_rPass (c2 := c2) (o2 := o2) hb hw hw0 hs ht hn hn2 hN
  have hpl : p < H.length := lt_of_get hb.1
  have hal : ∀ b x, a = some (b, x) → b < H.length := fun b x e => hb.2.1.lt e
  have fin0 : Hid _ := fun (A : Prop) (h : _ → _ → _ → _ → _ → _ → _ → A) => h hal hbytes hc h3 hk hs hn
  unfold RCarQ
  obtain ⟨m, hm⟩ : ∃ m, ws.length = m := ⟨_, rfl⟩
  have hwl : ws.length ≤ 100000 := hw
  have hwl0 : 0 < ws.length := hw0
  rw [hm] at hw hw0
  have fm : Hid _ := fun (A : Prop) (h : _ → _ → _ → A) => h hm hwl hwl0
  clear hb hs ht hal hbytes hc h3 hk hn hwl hwl0
  have hs0 : ¬ slot < 0 := by omega
  repeat (with_reducible first|(first|refine pI1 ?_|refine pS1 ?_);intros|refine pA1 ?_|refine pX1 ?_|refine pB1 ?_|exact True.intro)
  refine outM_call hpa ?_
  rintro v H2 ⟨hq, l2, x2⟩
  clear hpa
  have key : ∃ is a' nb c' o' bs, ∃ f : Nat → Option (List Nat), ∃ bl' pa', v = .tup [.c (.sl a' nb c' o'), .c (.bool is)] ∧ Sl H2 1 a' nb (nats .u8 bs) ∧ bs.length = nb ∧ nb ≤ 100000 ∧ (∀ x ∈ bs, x < 256) ∧ (∀ b x, a' = some (b, x) → b < H.length) ∧ (∀ j, f j = if is then becomes (cpF (ownF ws slot) cps j) bs else none) ∧ BusM H2 p a c o ws bl' pa' ∧
      ∀ H', BusM H' p a c o ws bl' pa' → ((noneP (ownF ws slot) l ∧ (∀ j, f j = none) ∧ BusM H' p a c o ws ((bl + l.length) % 18446744073709551616) pa) ∨
        ∃ i, fstP (ownF ws slot) l i ∧ (∀ j, f j = becomes (cpF (ownF ws slot) cps j) (gs l i).bytes) ∧ BusM H' p a c o ws ((bl + (l.length - 1)) % 18446744073709551616) ((pa + 1) % 18446744073709551616)) := by
    rcases hq with ⟨hno, rfl, hbm⟩ | ⟨i, a', c', o', hfst, rfl, hsl, hab, hby, hbm⟩
    · exact ⟨false, none, 0, 0, false, [], fun _ => none, _, _, rfl, Sl.none _ _, rfl, by omega, by simp, fun b x e => (by cases e), fun j => rfl, hbm, fun H' h => .inl ⟨hno, fun _ => rfl, h⟩⟩
    · exact ⟨true, a', _, c', o', (gs l i).bytes, fun j => becomes (cpF (ownF ws slot) cps j) (gs l i).bytes, _, _, rfl, hsl, rfl, fin0 _ fun _ hbytes _ _ _ _ hn => hbytes i (by have := hfst.1; omega), hby, fun b x e => Nat.lt_of_lt_of_le (hab b x e).1 hN, fun j => rfl, hbm, fun H' h => .inr ⟨i, hfst, fun _ => rfl, h⟩⟩
  clear hq
  obtain ⟨is, a', nb, c', o', bs, f, bl', pa', rfl, hsl, hbl, hnb, hby, hab, hf, hbm, hend⟩ := key
  have hb1 : H2[p]? = some (.cells [.sl a m c o, .int .u64 (bl' : Nat), .int .u64 (pa' : Nat)] false none) := by rw [← hm]; exact hbm.1
  have hkeep : ∀ Hx, (∀ b, b < H2.length → Hx[b]? = H2[b]?) → BusM Hx p a c o ws bl' pa' := fun Hx hx => hbm.keep fun b hb => hx b (by
    rcases hb with rfl | ⟨x, e⟩
    · omega
    · exact Nat.lt_of_lt_of_le (fin0 _ fun hal _ _ _ _ _ _ => hal _ _ e) l2)
  have hcp2 : Tab 3 CpR N H2 a3 cps := fin0 _ fun _ _ hc h3 _ _ _ => tabC_keep hc fun b x e hb => x2 b (by omega) (h3 b x e)
  have f2 : Hid _ := fun (A : Prop) (h : _ → _ → _ → _ → _ → _ → _ → _ → _ → A) => h hsl hbl hby hab hf hkeep hend hcp2 x2
  clear hsl hbl hby hab hf hkeep hend hcp2 x2 hbm hm
  repeat (with_reducible first|(first|refine pI1 ?_|refine pS1 ?_);intros|refine pA1 ?_|refine pX1 ?_|refine pB1 ?_|exact True.intro)
  refine W_loop (fun mm st => ∃ ρ, ∃ j : Nat, ∃ oo ho Hk oa ha, st = ⟨L 81 ρ, [], Hk⟩ ∧ mm = m - j ∧ j ≤ m ∧ ρ 0 = .c (.ptr (some (p, 0))) ∧ ρ 1 = .c (.int .i64 slot) ∧ ρ 3 = .c (.sl a3 k c3 o3) ∧ ρ 11 = .c (.sl a' nb c' o') ∧ ρ 12 = .c (.bool is) ∧ ρ 13 = .c (.sl oa j j oo) ∧ ρ 14 = .c (.sl ha j j ho) ∧ ρ 15 = .c (.int .i64 (j : Nat)) ∧ H2.length ≤ Hk.length ∧ Hid ((∀ b, b < H2.length → Hk[b]? = H2[b]?) ∧ RInv H2.length Hk oa ha j j oo ho f)) m
    ⟨_, 0, false, false, H2, none, none, rfl, rfl, by omega, zf, zf, zf, zf, zf, zf, zf, zf, Nat.le_refl _, fun _ _ => rfl, [], Gr.none _ _ _, Gr.none _ _ _, fun x y e => (by cases e), fun j hj => (by omega)⟩ ?_
  rintro mm st ⟨ρ, j, oo, ho, Hk, oa, ha, rfl, rfl, hj, e0, e1, e3, e11, e12, e13, e14, e15, lk, hall⟩
  unfold b_rotaref07_Bus_Carry_20
  have hbk := (hall.1 p (by omega)).trans hb1
  obtain ⟨Y, hY⟩ : ∃ Y, Y = IC.seq (.seq (.ops o_rotaref07_Bus_Carry_9) (.cond (.t 48) (.ops o_rotaref07_Bus_Carry_10) .skip)) (.seq (.ops o_rotaref07_Bus_Carry_11) (.seq (.seq (.ops o_rotaref07_Bus_Carry_12) (.cond (.t 56) (.ops o_rotaref07_Bus_Carry_13) .skip)) (.seq (.ops o_rotaref07_Bus_Carry_14) (.seq (.seq (.ops o_rotaref07_Bus_Carry_15) (.cond (.t 70) (.ops o_rotaref07_Bus_Carry_16) .skip)) (.seq (.ops o_rotaref07_Bus_Carry_17) (.ops o_rotaref07_Bus_Carry_18)))))) := ⟨_, rfl⟩
  rw [← hY]
  have fY : Hid _ := fun (A : Prop) (h : _ → A) => h hY
  have fz : Hid _ := fun (A : Prop) (h : _ → A) => h hall
  clear hY hall
  by_cases hjm : j < m
  · have hxt : (j : Int) < (m : Int) := by omega
    repeat (with_reducible first|(first|refine pI1 ?_|refine pS1 ?_);intros|refine pA1 ?_|refine pX1 ?_|refine pB1 ?_|exact True.intro)
    rename_i b16 H5 p5 g5 x5 H6 l6 g6 x6
    have hx6 : ∀ b, b < Hk.length → H6[b]? = Hk[b]? := fun b hb => by rw [x6 b (by omega), x5 b (by omega)]
    have f6 : Hid _ := fun (A : Prop) (h : _ → A) => h hx6
    clear x5 x6 g5 hx6
    rw [fY _ fun h => h]
    refine W_cut _ (rcarry_pick (N := N) (a := a) (c := c) (o := o) (ws := ws) (bl := bl') (pa := pa') (cps := cps) zf zf zf zf zf g6 (f2 _ fun _ _ _ _ _ hkeep _ _ _ => hkeep H6 fun b hb => by rw [f6 _ fun h => h b (by omega)]; exact fz _ fun h => h.1 b hb) (fm _ fun _ h _ => h) (fm _ fun _ _ h => h) (fin0 _ fun _ _ _ _ _ h _ => h)
      (tabC_keep (f2 _ fun _ _ _ _ _ _ _ h _ => h) fun b x e hb => by rw [f6 _ fun h => h b (by omega)]; exact fz _ fun h => h.1 b (by omega)) (fin0 _ fun _ _ _ _ h _ _ => h) hk2) ?_
    rintro st ⟨ρ2, H7, rfl, ⟨y0, y1, y3, y11, y12, y13, y14, y15, y16⟩, g7, l7, x7⟩
    have z0 : ρ2 0 = .c (.ptr (some (p, 0))) := by rw [y0]; exact zf
    have z1 : ρ2 1 = .c (.int .i64 slot) := by rw [y1]; exact zf
    have z3 : ρ2 3 = .c (.sl a3 k c3 o3) := by rw [y3]; exact zf
    have z11 : ρ2 11 = .c (.sl a' nb c' o') := by rw [y11]; exact zf
    have z12 : ρ2 12 = .c (.bool is) := by rw [y12]; exact zf
    have z13 : ρ2 13 = .c (.sl oa j j oo) := by rw [y13]; exact zf
    have z14 : ρ2 14 = .c (.sl ha j j ho) := by rw [y14]; exact zf
    have z15 : ρ2 15 = .c (.int .i64 (j : Nat)) := by rw [y15]; exact zf
    have z16 : ρ2 16 = .c (.ptr (some (b16, 0))) := by rw [y16]; exact zf
    have hx7 : ∀ b, b < Hk.length → H7[b]? = Hk[b]? := fun b hb => by rw [x7 b (by omega)]; exact f6 _ fun h => h b hb
    clear y0 y1 y3 y11 y12 y13 y14 y15 y16 e0 e1 e3 e11 e12 e13 e14 e15 g6 x7
    have hput := rcarry_put (f := f) (lo := H2.length) (k := j) (l := bs) z11 z12 z13 z14 z16 g7 (f2 _ fun hsl _ _ _ _ _ _ _ _ => hsl.to fun b hb => by rw [hx7 b (by omega)]; exact fz _ fun h => h.1 b hb) (f2 _ fun _ h _ _ _ _ _ _ _ => h) hnb (f2 _ fun _ _ h _ _ _ _ _ _ => h) (f2 _ fun _ _ _ h _ _ _ _ _ => fun b x e => Nat.lt_of_lt_of_le (h b x e) l2)
      (fz _ fun h => h.2.keepX (by omega) hx7) (by omega) (by omega) (fin0 _ fun _ _ hc _ _ _ _ => cpF_ok hc _ _) (f2 _ fun _ _ _ _ h _ _ _ _ => h j)
    have f7 : Hid _ := fun (A : Prop) (h : _ → A) => h hx7
    clear hx7 g7
    refine W.mono hput ?_
    rintro _ _ ⟨rfl, ρ3, H8, oa', ha', rfl, ⟨y0, y1, y3, y11, y12, y15⟩, q13, q14, l8, x8, hi8⟩
    have w0 := y0.trans z0
    have w1 := y1.trans z1
    have w3 := y3.trans z3
    have w11 := y11.trans z11
    have w12 := y12.trans z12
    have w15 := y15.trans z15
    have f8 : Hid _ := fun (A : Prop) (h : _ → _ → A) => h x8 hi8
    clear y0 y1 y3 y11 y12 y15 z0 z1 z3 z11 z12 z13 z14 z15 z16 x8 hi8 hput hbk
    repeat (with_reducible first|(first|refine pI1 ?_|refine pS1 ?_);intros|refine pA1 ?_|refine pX1 ?_|refine pB1 ?_|exact True.intro)
    exact loopQ_n (m - (j + 1)) (by omega) ⟨_, j + 1, true, true, H8, oa', ha', rfl, rfl, by omega, zf, zf, zf, zf, zf, zf, zf, zf, by omega, f8 _ fun x8 hi8 => ⟨fun b hb => by rw [x8 b hb, f7 _ fun h => h b (by omega)]; exact fz _ fun h => h.1 b hb, hi8⟩⟩
  · obtain rfl : j = m := by omega
    have hxt : ¬ (j : Int) < (j : Int) := by omega
    repeat (with_reducible first|(first|refine pI1 ?_|refine pS1 ?_);intros|refine pA1 ?_|refine pX1 ?_|refine pB1 ?_|exact True.intro)
    rw [fm _ fun h _ _ => h]
    refine ⟨⟨oa, ha, oo, ho, f, H2.length, rfl, l2, fz _ fun h => h.2, ?_⟩, by omega, fun b hb hp => ?_⟩
    · exact f2 _ fun _ _ _ _ _ hkeep hend _ _ => hend Hk (hkeep Hk fun b hb => fz _ fun h => h.1 b hb)
    · rw [fz _ fun h => h.1 b (by omega)]; exact f2 _ fun _ _ _ _ _ _ _ _ x2 => x2 b hb hp
theorem bsC_at {f : Nat → Option (List Nat)} {k j : Nat} (h : j < k) : (bsC f k)[j]? = some (.bool (f j).isSome) := by
  unfold bsC; simp [h]
theorem s_same {H : Heap} {lo lo' bo m c1 : Nat} {o1 oo ho : Bool} {oa ha : Option Ad} {f : Nat → Option (List Nat)} (hm : m ≤ 100000) (h1 : Outs H lo bo m f) (h2 : RInv lo' H oa ha m m oo ho f) (hl : ∀ j l, f j = some l → l.length ≤ 100000) :
    WC F fn_rotalaw07_same [.c (.sl (some (bo, 0)) m c1 o1), .c (.sl oa m m oo), .c (.sl ha m m ho)] H fun v H' => v = .c (.bool true) ∧ H' = H := by
  refine WC_start e_rotalaw07_same (by simp) ?_
  unfold c_rotalaw07_same
  obtain ⟨cells, g1, hcl, hs1⟩ := h1
  obtain ⟨cs, hg1, hg2, -, hs2⟩ := h2
  have hq := hg1.sl
  have hh := hg2.sl
  have fin0 : Hid _ := fun (A : Prop) (h : _ → _ → _ → _ → _ → A) => h hs1 hs2 hl hq hh
  clear hs1 hs2 hl hq hh hg1 hg2 hcl
  repeat (with_reducible first|(first|refine pI1 ?_|refine pS1 ?_);intros|refine pA1 ?_|refine pX1 ?_|refine pB1 ?_|exact True.intro)
  refine W_loop (fun mm st => ∃ ρ, ∃ i : Nat, st = ⟨L 41 ρ, [], H⟩ ∧ mm = m - i ∧ i ≤ m ∧ ρ 0 = .c (.sl (some (bo, 0)) m c1 o1) ∧ ρ 1 = .c (.sl oa m m oo) ∧ ρ 2 = .c (.sl ha m m ho) ∧ ρ 7 = .c (.int .i64 (i : Nat))) m ⟨_, 0, rfl, rfl, by omega, zf, zf, zf, zf⟩ ?_
  rintro mm st ⟨ρ, i, rfl, rfl, hi, e0, e1, e2, e7⟩
  unfold b_rotalaw07_same_8
  by_cases him : i < m
  · have hxt : (i : Int) < (m : Int) := by omega
    have q1 := fin0 _ fun hs1 _ _ _ _ => hs1 i him
    have q2 := (fin0 _ fun _ hs2 _ _ _ => hs2 i him).1
    obtain ⟨⟨qa, qy⟩, ea⟩ := fin0 _ fun _ _ _ hq _ => hq.is_some (by omega)
    obtain ⟨⟨hb, hy⟩, eh⟩ := fin0 _ fun _ _ _ _ hh => hh.is_some (by omega)
    subst ea
    subst eh
    have d1 := fin0 _ fun _ _ _ hq _ => hq.ld1 (o := i) (by omega)
    have d2 := fin0 _ fun _ _ _ _ hh => hh.ld1 (o := i) (by omega)
    rw [bsC_at him] at d2
    dsimp only at d1 d2
    cases hB : f i with
    | none =>
      rw [hB] at q1 q2 d2
      have q1 : cells[i]? = some (.sl none 0 0 false) := q1
      have q2 : cs[i]? = some (.sl none 0 0 false) := q2
      rw [q2] at d1
      have hcb := s_Bytes (c := 0) (c2 := 0) (o := false) (o2 := false) (l := []) (l2 := []) (Sl.none H 1) (Sl.none H 1) (by omega) (by omega)
      replace d2 : ldB H[hb]? (hy + i) = some (.bool false) := d2
      clear q2 hB
      repeat (with_reducible first|(first|refine pI1 ?_|refine pS1 ?_);intros|refine pA1 ?_|refine pX1 ?_|refine pB1 ?_|exact True.intro)
      refine outM_call hcb ?_
      rintro _ H5 ⟨rfl, rfl⟩
      repeat (with_reducible first|(first|refine pI1 ?_|refine pS1 ?_);intros|refine pA1 ?_|refine pX1 ?_|refine pB1 ?_|exact True.intro)
      exact loopQ_n (m - (i + 1)) (by omega) ⟨_, i + 1, rfl, rfl, by omega, zf, zf, zf, zf⟩
    | some l =>
      have hll := fin0 _ fun _ _ hl _ _ => hl i l hB
      rw [hB] at q1 q2 d2
      obtain ⟨e1', dc1, do1, dg1, q1, -, -, hd1, -⟩ := q1
      obtain ⟨a2, dc2, do2, q2, hd2, -⟩ := q2
      rw [q2] at d1
      have hcb := s_Bytes (c := dc1) (c2 := dc2) (o := do1) (o2 := do2) (l := l) (l2 := l) (Sl.blk hd1 (by rw [nats_len])) hd2 (by omega) (by omega)
      rw [decide_eq_true rfl] at hcb
      replace d2 : ldB H[hb]? (hy + i) = some (.bool true) := d2
      generalize l.length = nl at *
      clear hd1 hd2 q2 hB
      repeat (with_reducible first|(first|refine pI1 ?_|refine pS1 ?_);intros|refine pA1 ?_|refine pX1 ?_|refine pB1 ?_|exact True.intro)
      refine outM_call hcb ?_
      rintro _ H5 ⟨rfl, rfl⟩
      repeat (with_reducible first|(first|refine pI1 ?_|refine pS1 ?_);intros|refine pA1 ?_|refine pX1 ?_|refine pB1 ?_|exact True.intro)
      exact loopQ_n (m - (i + 1)) (by omega) ⟨_, i + 1, rfl, rfl, by omega, zf, zf, zf, zf⟩
  · obtain rfl : i = m := by omega
    have hxt : ¬ (i : Int) < (i : Int) := by omega
    repeat (with_reducible first|(first|refine pI1 ?_|refine pS1 ?_);intros|refine pA1 ?_|refine pX1 ?_|refine pB1 ?_|exact True.intro)
    exact ⟨rfl, rfl⟩
theorem s_rCarryN {p : Nat} {H : Heap} {slot : Int} {x y : Cell} (h0 : slot < 0) : WC F fn_rotaref07_Bus_Carry [.c (.ptr (some (p, 0))), .c (.int .i64 slot), .c x, .c y] H fun v H' => v = .tup [.c (.sl none 0 0 false), .c (.sl none 0 0 false), .c (.int .i64 2)] ∧ H' = H := by
  refine WC_start e_rotaref07_Bus_Carry (by simp) ?_
  unfold c_rotaref07_Bus_Carry
  repeat (with_reducible first|(first|refine pI1 ?_|refine pS1 ?_);intros|refine pA1 ?_|refine pX1 ?_|refine pB1 ?_|exact True.intro)
  exact ⟨rfl, rfl⟩
theorem s_sameN {H : Heap} : WC F fn_rotalaw07_same [.c (.sl none 0 0 false), .c (.sl none 0 0 false), .c (.sl none 0 0 false)] H fun v H' => v = .c (.bool true) ∧ H' = H := by
  refine WC_start e_rotalaw07_same (by simp) ?_
  unfold c_rotalaw07_same
  repeat (with_reducible first|(first|refine pI1 ?_|refine pS1 ?_);intros|refine pA1 ?_|refine pX1 ?_|refine pB1 ?_|exact True.intro)
  refine W_loop (fun mm st => ∃ ρ, st = ⟨L 41 ρ, [], H⟩ ∧ mm = 0 ∧ ρ 0 = .c (.sl none 0 0 false) ∧ ρ 7 = .c (.int .i64 0)) 0 ⟨_, rfl, rfl, zf, zf⟩ ?_
  rintro mm st ⟨ρ, rfl, rfl, e0, e7⟩
  unfold b_rotalaw07_same_8
  repeat (with_reducible first|(first|refine pI1 ?_|refine pS1 ?_);intros|refine pA1 ?_|refine pX1 ?_|refine pB1 ?_|exact True.intro)
  exact ⟨rfl, rfl⟩
end Go.Proofs.Ytbgmbnikpjjmcaa.AM.D07
