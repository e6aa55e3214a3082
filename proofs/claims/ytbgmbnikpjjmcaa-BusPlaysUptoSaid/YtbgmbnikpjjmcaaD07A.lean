/- What the functions of chapter 7 come to: a slot's turn, by the program and by the document. -/
import Derived.Test.YtbgmbnikpjjmcaaD07z
set_option linter.unusedVariables false
set_option linter.unusedSimpArgs false
set_option linter.unusedSectionVars false
namespace Go.Proofs.Ytbgmbnikpjjmcaa.AM.D07
open Go Go.Proofs.Ytbgmbnikpjjmcaa.AM Go.Proofs.Ytbgmbnikpjjmcaa.AM.C02 Go.Proofs.Ytbgmbnikpjjmcaa.AM.C07
set_option maxHeartbeats 2000000
set_option maxRecDepth 100000
attribute [local go_sem] tn_add1 tn_sub1 put_all' nums_len sub12 sub3 sub4
theorem fst_one {o : Int} {l : List Snd} {i j : Nat} (h : fstP o l i) (h' : fstP o l j) : i = j := by
  rcases Nat.lt_trichotomy i j with h1 | h1 | h1
  · exact absurd h.2.2.1 (h'.2.2.2 i h1)
  · exact h1
  · exact absurd h'.2.2.1 (h.2.2.2 j h1)
theorem fst_none {o : Int} {l : List Snd} {i : Nat} (h : fstP o l i) (h' : noneP o l) : False := h' i h.1 h.2.1 h.2.2.1
theorem plays_turn {ρ : Nat → V} {H : Heap} {N p w e cA cw b10 n1 n2 c1 c2 bl pa : Nat} {o1 o2 ps : Bool} {aw a1 a2 : Option Ad} {ws : List Int} {slot : Int} {l : List Snd} {cps : List Cpy} (e5 : ρ 5 = .c (.ptr (some (p, 0)))) (e7 : ρ 7 = .c (.ptr (some (w, 0)))) (e10 : ρ 10 = .c (.ptr (some (b10, 0))))
    (g10 : H[b10]? = some (.cells [.int .i64 slot, .sl a1 n1 c1 o1, .sl a2 n2 c2 o2, .bool ps] false none)) (hbp : BusM H p (some (e, 0)) cA true ws bl pa) (hbw : BusM H w aw cw false ws bl pa) (hpw : p ≠ w) (hew : e ≠ w) (haw : ∀ b x, aw = some (b, x) → b ≠ p) (hb10 : b10 ≠ p ∧ b10 ≠ w) (hws : 0 < ws.length) (hws2 : ws.length ≤ 16)
    (hNp : N ≤ p) (hNw : N ≤ w) (htp : Snds N p H a1 l) (htw : Snds N w H a1 l) (hn1 : l.length = n1) (hn1b : n1 ≤ 5000) (hby : ∀ i, i < n1 → (gs l i).bytes.length ≤ 5000) (hcp : Tab 3 CpR N H a2 cps) (h2p : ∀ b x, a2 = some (b, x) → b ≠ p) (h2w : ∀ b x, a2 = some (b, x) → b ≠ w) (hn2 : cps.length = n2) (hn2b : n2 ≤ 5000) (hs : i64 slot) :
    W F none (.seq (.ops o_rotalaw07_BusPlays_10) (.cond (.t 58) (.seq (.ops o_rotalaw07_BusPlays_11) (.seq (.ops o_rotalaw07_BusPlays_12) (.seq (.ops o_rotalaw07_BusPlays_13) (.cond (.t 84) (.seq (.ops o_rotalaw07_BusPlays_14) .ret) .skip)))) (.seq (.ops o_rotalaw07_BusPlays_15) (.seq (.ops o_rotalaw07_BusPlays_16) (.seq (.seq (.ops o_rotalaw07_BusPlays_17) (.cond (.t 116) (.seq (.ops o_rotalaw07_BusPlays_18) .ret) .skip)) (.seq (.ops o_rotalaw07_BusPlays_19) (.block 2 (.loop b_rotalaw07_BusPlays_27)))))))) ⟨L 163 ρ, [], H⟩
      fun e' s => e' = .normal ∧ ∃ ρ' H' bl' pa', s = ⟨L 163 ρ', [], H'⟩ ∧ KpM ρ ρ' ∧ H.length ≤ H'.length ∧ BusM H' p (some (e, 0)) cA true ws bl' pa' ∧ BusM H' w aw cw false ws bl' pa' ∧ ∀ b, b < H.length → b ≠ p → b ≠ w → H'[b]? = H[b]? := by
  have lp : p < H.length := lt_of_get hbp.1
  have lw : w < H.length := lt_of_get hbw.1
  have l10 := lt_of_get g10
  have le : e < H.length := hbp.2.1.lt rfl
  have hep : e ≠ p := hbp.2.2 _ _ rfl
  have lae : ∀ b x, aw = some (b, x) → b < H.length := fun b x e => hbw.2.1.lt e
  have hKp : ∀ {H' : Heap}, (∀ b, b < H.length → b ≠ w → H'[b]? = H[b]?) → BusM H' p (some (e, 0)) cA true ws bl pa := fun hx => hbp.keep fun b hb => hx b (by rcases hb with rfl | ⟨x, q⟩; exact lp; cases q; exact le) (by rcases hb with rfl | ⟨x, q⟩; exact hpw; cases q; exact hew)
  have hKw : ∀ {H' : Heap}, (∀ b, b < H.length → b ≠ p → H'[b]? = H[b]?) → BusM H' w aw cw false ws bl pa := fun hx => hbw.keep fun b hb => hx b (by rcases hb with rfl | ⟨x, q⟩; exact lw; exact lae _ _ q) (by rcases hb with rfl | ⟨x, q⟩; exact Ne.symm hpw; exact haw _ _ q)
  have hN : N ≤ H.length := by omega
  cases ps with
  | true =>
    have hpa := s_Pass (c2 := c1) (o2 := o1) hbp (by omega) hs htp hn1 (by omega) (fun i hi => by have := hby i hi; omega) hN
    have hpr := fun (H' : Heap) (hx : But p H H') => s_rPass (H := H') (c2 := c1) (o2 := o1) (hKw hx.2) (by omega) hws hs (htw.keep fun b hb _ => hx.2 b (by omega) (by omega)) hn1 (by omega) (Nat.le_trans hN hx.1)
    have fin0 : Hid _ := fun (A : Prop) (h : _ → _ → _ → _ → A) => h hbp hn1 hpr hby
    clear hbp hbw hKp hKw htp htw hcp h2p h2w hn2 hn1 hby hpr
    repeat (with_reducible first|(first|refine pI1 ?_|refine pS1 ?_);intros|refine pA1 ?_|refine pX1 ?_|refine pB1 ?_|exact True.intro)
    refine outM_call hpa ?_
    rintro v H2 ⟨⟨is, bs, a', c', o', rfl, hob, hor⟩, hbut⟩
    have g10' := (hbut.2 b10 l10 hb10.1).trans g10
    have l2 := hbut.1
    obtain ⟨a'', c'', o'', e1, own, hlo⟩ := hob
    rw [nats_len] at e1 own
    cases e1
    have hbsl : bs.length ≤ 5000 := by
      rcases hor with ⟨-, rfl, -⟩ | ⟨-, i, hf, rfl, -⟩
      · exact Nat.zero_le _
      · exact fin0 _ fun _ hn1 _ hby => hby i (by have := hf.1; omega)
    have hpr := fin0 _ fun _ _ hpr _ => hpr H2 hbut
    have f2 : Hid _ := fun (A : Prop) (h : _ → _ → _ → _ → A) => h hor hbut own hlo
    clear hor hbut own hpa g10 hlo
    repeat (with_reducible first|(first|refine pI1 ?_|refine pS1 ?_);intros|refine pA1 ?_|refine pX1 ?_|refine pB1 ?_|exact True.intro)
    refine outM_call hpr ?_
    rintro v H3 ⟨hq, l3, x3⟩
    clear hpr
    have key : ∃ a3 c3 o3 bl' pa', v = .tup [.c (.sl a3 bs.length c3 o3), .c (.bool is)] ∧ Sl H3 1 a3 bs.length (nats .u8 bs) ∧ BusM H3 p (some (e, 0)) cA true ws bl' pa' ∧ BusM H3 w aw cw false ws bl' pa' := by
      refine f2 _ fun hor hbut own _ => ?_
      have hkp : ∀ {bl' pa'}, BusM H2 p (some (e, 0)) cA true ws bl' pa' → BusM H3 p (some (e, 0)) cA true ws bl' pa' := fun hb => hb.keep fun b hb => x3 b (by rcases hb with rfl | ⟨x, q⟩; omega; cases q; omega) (by rcases hb with rfl | ⟨x, q⟩; exact hpw; cases q; exact hew)
      rcases hor with ⟨rfl, rfl, hno, hb⟩ | ⟨rfl, i, hf, rfl, hb⟩
      · rcases hq with ⟨-, rfl, hb'⟩ | ⟨j, _, _, _, hf', -⟩
        · exact ⟨_, _, _, _, _, rfl, Sl.none _ _, hkp hb, hb'⟩
        · exact absurd hno (fun h => fst_none hf' h)
      · rcases hq with ⟨hno, -⟩ | ⟨j, a3, c3, o3, hf', rfl, hsl, -, -, hb'⟩
        · exact absurd hno (fun h => fst_none hf h)
        · obtain rfl := fst_one hf hf'
          exact ⟨_, _, _, _, _, rfl, hsl, hkp hb, hb'⟩
    obtain ⟨a3, c3, o3, bl', pa', rfl, hsl3, hb3p, hb3w⟩ := key
    have hsl2 : Sl H3 1 a' bs.length (nats .u8 bs) := f2 _ fun _ _ own hlo => own.sl.keep fun b x e => x3 b (own.sl.lt e) (by have := hlo _ e; simp only at this; omega)
    have hcb := s_Bytes (c := c') (c2 := c3) (o := o') (o2 := o3) hsl2 hsl3 (by omega) (by omega)
    rw [decide_eq_true rfl] at hcb
    have f3 : Hid _ := fun (A : Prop) (h : _ → _ → _ → A) => h hb3p hb3w x3
    clear hsl2 hsl3 hb3p hb3w x3 hq
    repeat (with_reducible first|(first|refine pI1 ?_|refine pS1 ?_);intros|refine pA1 ?_|refine pX1 ?_|refine pB1 ?_|exact True.intro)
    refine outM_call hcb ?_
    rintro _ H3 ⟨rfl, rfl⟩
    clear hcb
    repeat (with_reducible first|(first|refine pI1 ?_|refine pS1 ?_);intros|refine pA1 ?_|refine pX1 ?_|refine pB1 ?_|exact True.intro)
    exact ⟨rfl, _, H3, bl', pa', rfl, ⟨zf, zf, zf, zf⟩, by omega, f3 _ fun h _ _ => h, f3 _ fun _ h _ => h, fun b hb h1 h2 => by rw [f3 _ fun _ _ x3 => x3 b (by omega) h2]; exact f2 _ fun _ hbut _ _ => hbut.2 b hb h1⟩
  | false =>
    by_cases h0 : slot < 0
    · have hca := s_CarryN (p := p) (H := H) (x := .sl a1 n1 c1 o1) (y := .sl a2 n2 c2 o2) h0
      have hcr := s_rCarryN (p := w) (H := H) (x := .sl a1 n1 c1 o1) (y := .sl a2 n2 c2 o2) h0
      have fin0 : Hid _ := fun (A : Prop) (h : _ → _ → A) => h hbp hbw
      clear hbp hbw hKp hKw htp htw hcp h2p h2w hn2 hn1 hby
      repeat (with_reducible first|(first|refine pI1 ?_|refine pS1 ?_);intros|refine pA1 ?_|refine pX1 ?_|refine pB1 ?_|exact True.intro)
      refine outM_call hca ?_
      rintro _ H ⟨rfl, rfl⟩
      repeat (with_reducible first|(first|refine pI1 ?_|refine pS1 ?_);intros|refine pA1 ?_|refine pX1 ?_|refine pB1 ?_|exact True.intro)
      refine outM_call hcr ?_
      rintro _ H ⟨rfl, rfl⟩
      repeat (with_reducible first|(first|refine pI1 ?_|refine pS1 ?_);intros|refine pA1 ?_|refine pX1 ?_|refine pB1 ?_|exact True.intro)
      refine outM_call s_sameN ?_
      rintro _ H ⟨rfl, rfl⟩
      clear hca hcr
      obtain ⟨v1, hv1⟩ : ∃ v, ρ 1 = v := ⟨_, rfl⟩
      obtain ⟨v9, hv9⟩ : ∃ v, ρ 9 = v := ⟨_, rfl⟩
      have hK : ∀ ρ' : Nat → V, ρ' 1 = v1 → ρ' 5 = .c (.ptr (some (p, 0))) → ρ' 7 = .c (.ptr (some (w, 0))) → ρ' 9 = v9 → KpM ρ ρ' := fun ρ' h1 h5 h7 h9 => ⟨by rw [h1, hv1], by rw [h5, e5], by rw [h7, e7], by rw [h9, hv9]⟩
      have fK : Hid _ := fun (A : Prop) (h : _ → A) => h hK
      clear hK
      repeat (with_reducible first|(first|refine pI1 ?_|refine pS1 ?_);intros|refine pA1 ?_|refine pX1 ?_|refine pB1 ?_|exact True.intro)
      refine W_loop (fun mm st => ∃ ρ, st = ⟨L 163 ρ, [], H⟩ ∧ mm = 0 ∧ ρ 1 = v1 ∧ ρ 5 = .c (.ptr (some (p, 0))) ∧ ρ 7 = .c (.ptr (some (w, 0))) ∧ ρ 9 = v9 ∧ ρ 15 = .c (.sl none 0 0 false) ∧ ρ 20 = .c (.int .i64 0)) 0 ⟨_, rfl, rfl, zf, zf, zf, zf, zf, zf⟩ ?_
      clear hv1 hv9 e5 e7 e10
      rintro mm st ⟨ρ1, rfl, rfl, e1, e5, e7, e9, e15, e20⟩
      unfold b_rotalaw07_BusPlays_27
      repeat (with_reducible first|(first|refine pI1 ?_|refine pS1 ?_);intros|refine pA1 ?_|refine pX1 ?_|refine pB1 ?_|exact True.intro)
      exact ⟨rfl, _, H, bl, pa, rfl, fK _ fun hK => hK _ zf zf zf zf, Nat.le_refl _, fin0 _ fun h _ => h, fin0 _ fun _ h => h, fun b _ _ _ => rfl⟩
    · have hca := s_Carry (c2 := c1) (o2 := o1) (c3 := c2) (o3 := o2) hbp (by omega) hs (by omega) htp hn1 (by omega) (fun i hi => by have := hby i hi; omega) hcp h2p hn2 (by omega) hN
      have hcr := fun (H' : Heap) (hx : But p H H') => s_rCarry (H := H') (c2 := c1) (o2 := o1) (c3 := c2) (o3 := o2) (hKw hx.2) (by omega) hws hs (by omega) (htw.keep fun b hb _ => hx.2 b (by omega) (by omega)) hn1 (by omega) (fun i hi => by have := hby i hi; omega) (tabC_keep hcp fun b x q hb => hx.2 b (by omega) (h2p b x q)) h2w hn2 (by omega) (Nat.le_trans hN hx.1)
      have fin0 : Hid _ := fun (A : Prop) (h : _ → _ → _ → A) => h hn1 hcr hby
      clear hbp hbw hKp hKw htp htw hcp h2p h2w hn2 hn1 hby hcr
      repeat (with_reducible first|(first|refine pI1 ?_|refine pS1 ?_);intros|refine pA1 ?_|refine pX1 ?_|refine pB1 ?_|exact True.intro)
      refine outM_call hca ?_
      rintro v H2 ⟨hq, hbut⟩
      clear hca
      have g10' := (hbut.2 b10 l10 hb10.1).trans g10
      have l2 := hbut.1
      have hcr := fin0 _ fun _ hcr _ => hcr H2 hbut
      unfold CarQ at hq
      obtain ⟨bo, f, rfl, p1, p2, hout, hor⟩ := hq
      obtain ⟨m, hm⟩ : ∃ m, ws.length = m := ⟨_, rfl⟩
      have f2 : Hid _ := fun (A : Prop) (h : _ → _ → _ → _ → A) => h hor hbut hout hm
      clear hor hbut hout g10
      unfold RCarQ at hcr
      rw [hm] at hcr hws hws2 ⊢
      clear hm
      repeat (with_reducible first|(first|refine pI1 ?_|refine pS1 ?_);intros|refine pA1 ?_|refine pX1 ?_|refine pB1 ?_|exact True.intro)
      refine outM_call hcr ?_
      rintro v H3 ⟨⟨oa, ha, oo, ho, f', lo', rfl, hlo', hri, hor'⟩, l3, x3⟩
      clear hcr
      have hout3 : Outs H3 H.length bo m f := f2 _ fun _ _ hout hm => by rw [hm] at hout; exact hout.keep p1 fun b hb hb' => x3 b hb' (by omega)
      have key : ∃ bl' pa', (∀ j, j < m → f j = f' j) ∧ (∀ j r, f' j = some r → r.length ≤ 5000) ∧ BusM H3 p (some (e, 0)) cA true ws bl' pa' ∧ BusM H3 w aw cw false ws bl' pa' := by
        refine f2 _ fun hor hbut hout hm => ?_
        have hkp : ∀ {bl' pa'}, BusM H2 p (some (e, 0)) cA true ws bl' pa' → BusM H3 p (some (e, 0)) cA true ws bl' pa' := fun hb => hb.keep fun b hb => x3 b (by rcases hb with rfl | ⟨x, q⟩; omega; cases q; omega) (by rcases hb with rfl | ⟨x, q⟩; exact hpw; cases q; exact hew)
        rcases hor with ⟨hno, hf, hb⟩ | ⟨i, hfst, hf, hb⟩
        · rcases hor' with ⟨-, hf', hb'⟩ | ⟨j, hfst', -⟩
          · exact ⟨_, _, fun j _ => by rw [hf, hf'], fun j r h => (by rw [hf'] at h; cases h), hkp hb, hb'⟩
          · exact absurd hno (fun h => fst_none hfst' h)
        · rcases hor' with ⟨hno, -⟩ | ⟨j, hfst', hf', hb'⟩
          · exact absurd hno (fun h => fst_none hfst h)
          · obtain rfl := fst_one hfst hfst'
            rw [hm] at hf
            exact ⟨_, _, fun j hj => by rw [hf j hj, hf'], fun j r h => by
              rw [hf'] at h
              rw [becomes_len h]
              exact fin0 _ fun hn1 _ hby => hby i (by have := hfst.1; omega), hkp hb, hb'⟩
      obtain ⟨bl', pa', hff, hr5, hb3p, hb3w⟩ := key
      have hsa := s_same (c1 := m) (o1 := false) (by omega) (hout3.same hff) hri (fun j r h => by have := hr5 j r h; omega)
      obtain ⟨cells, k1, -, k3⟩ := Outs.w hout3 fun j r hj h => by have := hr5 j r (by rw [← hff j hj]; exact h); omega
      have f3 : Hid _ := fun (A : Prop) (h : _ → _ → _ → _ → _ → A) => h hb3p hb3w x3 k1 k3
      clear hb3p hb3w x3 k1 k3 hout3 hff hr5 hri hor'
      obtain ⟨o19, ho19⟩ : ∃ o, o = IC.seq (.ops o_rotalaw07_BusPlays_19) (.block 2 (.loop b_rotalaw07_BusPlays_27)) := ⟨_, rfl⟩
      rw [← ho19]
      have fo : Hid _ := fun (A : Prop) (h : _ → A) => h ho19
      clear ho19
      repeat (with_reducible first|(first|refine pI1 ?_|refine pS1 ?_);intros|refine pA1 ?_|refine pX1 ?_|refine pB1 ?_|exact True.intro)
      refine outM_call hsa ?_
      rintro _ H3 ⟨rfl, rfl⟩
      clear hsa
      repeat (with_reducible first|(first|refine pI1 ?_|refine pS1 ?_);intros|refine pA1 ?_|refine pX1 ?_|refine pB1 ?_|exact True.intro)
      rw [fo _ fun h => h]
      obtain ⟨v1, hv1⟩ : ∃ v, ρ 1 = v := ⟨_, rfl⟩
      obtain ⟨v9, hv9⟩ : ∃ v, ρ 9 = v := ⟨_, rfl⟩
      refine W.mono (plays_mut (bo := bo) (m := m) (c := m) (o := false) zf (by omega) (f3 _ fun _ _ _ k1 _ => k1) (f3 _ fun _ _ _ _ k3 => k3)) ?_
      rintro _ _ ⟨rfl, ρ', H4, rfl, ⟨q1, q5, q7, q9⟩, l4, x4⟩
      refine ⟨rfl, ρ', H4, bl', pa', rfl, ⟨q1.trans zf, q5.trans zf, q7.trans zf, q9.trans zf⟩, by omega, ?_, ?_, fun b hb h1 h2 => ?_⟩
      · exact f3 _ fun h _ _ _ _ => h.keep fun b hb => x4 b (by rcases hb with rfl | ⟨x, q⟩; exact lp; cases q; exact le)
      · exact f3 _ fun _ h _ _ _ => h.keep fun b hb => x4 b (by rcases hb with rfl | ⟨x, q⟩; exact lw; exact lae _ _ q)
      · rw [x4 b hb, f3 _ fun _ _ x3 _ _ => x3 b (by omega) h2]; exact f2 _ fun _ hbut _ _ => hbut.2 b hb h1
end Go.Proofs.Ytbgmbnikpjjmcaa.AM.D07
