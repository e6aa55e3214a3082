/- What the document's functions of chapter 2 come to: partitions. -/
import Derived.Test.YtbgmbnikpjjmcaaD07C02l
set_option linter.unusedVariables false
set_option linter.unusedSimpArgs false
set_option linter.unusedSectionVars false
namespace Go.Proofs.Ytbgmbnikpjjmcaa.AM.D07
open Go Go.Proofs.Ytbgmbnikpjjmcaa.AM Go.Proofs.Ytbgmbnikpjjmcaa.AM.C02
set_option maxHeartbeats 2000000
set_option maxRecDepth 100000
attribute [local go_sem] tn_add1 tn_sub1 put_all' nums_len sub12 sub3 sub6
section
variable {N : Nat} {H : Heap} {c : Cfg} {h : Hd}
theorem s_rparts (hc : CfgM N H c h) (hN : N ≤ H.length) (hnd : 4 ≤ c.nodes ∧ c.nodes ≤ 16) : WC F fn_rotaref02_parts [.agg (c.cells h)] H fun v H' => v = .c (.bool (dB c.okParts)) ∧ Xt H H' := by
  refine WC_start e_rotaref02_parts (by simp) ?_
  unfold c_rotaref02_parts Cfg.cells
  obtain ⟨n, hn⟩ : ∃ n, c.parts.length = n := ⟨_, rfl⟩
  rw [hn]
  obtain ⟨n1, n2⟩ := hnd
  obtain ⟨nd, hnd⟩ : ∃ nd, c.nodes = nd := ⟨_, rfl⟩
  rw [hnd] at n1 n2 ⊢
  have fin0 : Hid _ := fun (A : Prop) (h : _ → _ → _ → A) => h hc hn hnd
  clear hc hn hnd
  by_cases hbig : 32 < n
  · have e : dB c.okParts = false := dB_f fun h => fin0 _ fun _ hn _ => by have := h.1; omega
    rw [e]
    repeat (with_reducible first|(first|refine pI1 ?_|refine pS1 ?_);intros|refine pA1 ?_|refine pX1 ?_|refine pB1 ?_|exact True.intro)
    rename_i b1 H1 p1 g1 x1
    repeat (with_reducible first|(first|refine pI1 ?_|refine pS1 ?_);intros|refine pA1 ?_|refine pX1 ?_|refine pB1 ?_|exact True.intro)
    exact ⟨rfl, by omega, fun b hb => x1 b (by omega)⟩
  repeat (with_reducible first|(first|refine pI1 ?_|refine pS1 ?_);intros|refine pA1 ?_|refine pX1 ?_|refine pB1 ?_|exact True.intro)
  rename_i b1 H1 p1 g1 x1
  have fx : Hid _ := fun (A : Prop) (h : _ → A) => h x1
  clear x1
  repeat (with_reducible first|(first|refine pI1 ?_|refine pS1 ?_);intros|refine pA1 ?_|refine pX1 ?_|refine pB1 ?_|exact True.intro)
  refine W_loop (fun m st => ∃ ρ, ∃ i : Nat, ∃ Hk, st = ⟨L 90 ρ, [], Hk⟩ ∧ m = n - i ∧ i ≤ n ∧ ρ 1 = .c (.ptr (some (b1, 0))) ∧ ρ 3 = .c (.int .i64 (i : Nat)) ∧ H1.length ≤ Hk.length ∧ Hid ((∀ d, d < H1.length → Hk[d]? = H1[d]?) ∧ ∀ j, j < i → c.okPart (c.part (j : Nat)))) n ⟨_, 0, H1, rfl, rfl, by omega, zf, zf, Nat.le_refl _, fun _ _ => rfl, fun j hj => by omega⟩ ?_
  rintro m st ⟨ρ, i, Hk, rfl, rfl, hi, e1, e3, lk, hall⟩
  unfold b_rotaref02_parts_9
  have k1 : Hk[b1]? = _ := (hall.1 b1 (by omega)).trans g1
  by_cases hin : i < n
  · have hxt : (i : Int) < (n : Int) := by omega
    obtain ⟨la, y, ea, hla, hld, hmem⟩ := fin0 _ fun hc hn _ => part_at hc (i := i) (by omega)
    have yk : ∀ b, b < H.length → Hk[b]? = H[b]? := fun b hb => (hall.1 b (by omega)).trans (fx _ fun x1 => x1 b (by omega))
    rw [← yk la (by omega)] at hld
    have hokp : c.okPart (c.part (i : Nat)) ↔ (0 ≤ (c.part (i : Nat)).node ∧ (c.part (i : Nat)).node ≤ nd - 1 ∧ 0 ≤ (c.part (i : Nat)).lo ∧ (c.part (i : Nat)).lo ≤ (c.part (i : Nat)).hi ∧ (c.part (i : Nat)).hi ≤ 256) := fin0 _ fun _ _ hnd => by rw [← hnd]; exact Iff.rfl
    have hnot : ¬ c.okPart (c.part (i : Nat)) → dB c.okParts = false := fun h => dB_f fun h' => h (h'.2.1 _ hmem)
    have hnext : c.okPart (c.part (i : Nat)) → ∀ j, j < i + 1 → c.okPart (c.part (j : Nat)) := fun h j hj => by
      by_cases e : j = i
      · subst e; exact h
      · exact hall.2 j (by omega)
    generalize c.okPart (c.part (i : Nat)) = P at *
    generalize c.part (i : Nat) = p at *
    obtain ⟨pn, lo, hi_⟩ := p
    dsimp only [Pa.cells] at hld hokp
    have fin2 : Hid _ := fun (A : Prop) (h : _ → _ → _ → _ → _ → A) => h hnot hnext hall yk hokp
    clear hnot hnext hmem hall yk hokp
    have hout : ¬ (0 ≤ pn ∧ pn ≤ nd - 1 ∧ 0 ≤ lo ∧ lo ≤ hi_ ∧ hi_ ≤ 256) → dB c.okParts = false := fun h => fin2 _ fun hnot _ _ _ hokp => hnot fun hp => h (hokp.1 hp)
    have fo : Hid _ := fun (A : Prop) (h : _ → A) => h hout
    clear hout
    rw [ea] at k1
    have fea : Hid _ := fun (A : Prop) (h : _ → A) => h ea
    clear ea
    have hend : ∀ H', Hk.length ≤ H'.length → (∀ b, b < Hk.length → H'[b]? = Hk[b]?) → Xt H H' := fun H' l x => ⟨by omega, fun b hb => by rw [x b (by omega)]; exact fin2 _ fun _ _ _ yk _ => yk b hb⟩
    have fe : Hid _ := fun (A : Prop) (h : _ → A) => h hend
    clear hend
    by_cases c1 : pn < 0
    · have e := fo _ fun h => h (by omega)
      rw [e]
      repeat (with_reducible first|(first|refine pI1 ?_|refine pS1 ?_);intros|refine pA1 ?_|refine pX1 ?_|refine pB1 ?_|exact True.intro)
      rename_i b3 H3 p3 g3 x3 H4 l4 g4 x4
      repeat (with_reducible first|(first|refine pI1 ?_|refine pS1 ?_);intros|refine pA1 ?_|refine pX1 ?_|refine pB1 ?_|exact True.intro)
      exact ⟨rfl, fe _ fun h => h _ (by omega) fun b hb => by rw [x4 b (by omega), x3 b (by omega)]⟩
    by_cases c2 : nd ≤ pn
    · have e := fo _ fun h => h (by omega)
      rw [e]
      repeat (with_reducible first|(first|refine pI1 ?_|refine pS1 ?_);intros|refine pA1 ?_|refine pX1 ?_|refine pB1 ?_|exact True.intro)
      rename_i b3 H3 p3 g3 x3 H4 l4 g4 x4
      have k1' := (x4 b1 (by omega)).trans ((x3 b1 (by omega)).trans k1)
      repeat (with_reducible first|(first|refine pI1 ?_|refine pS1 ?_);intros|refine pA1 ?_|refine pX1 ?_|refine pB1 ?_|exact True.intro)
      exact ⟨rfl, fe _ fun h => h _ (by omega) fun b hb => by rw [x4 b (by omega), x3 b (by omega)]⟩
    by_cases c3 : lo < 0
    · have e := fo _ fun h => h (by omega)
      rw [e]
      repeat (with_reducible first|(first|refine pI1 ?_|refine pS1 ?_);intros|refine pA1 ?_|refine pX1 ?_|refine pB1 ?_|exact True.intro)
      rename_i b3 H3 p3 g3 x3 H4 l4 g4 x4
      have k1' := (x4 b1 (by omega)).trans ((x3 b1 (by omega)).trans k1)
      repeat (with_reducible first|(first|refine pI1 ?_|refine pS1 ?_);intros|refine pA1 ?_|refine pX1 ?_|refine pB1 ?_|exact True.intro)
      exact ⟨rfl, fe _ fun h => h _ (by omega) fun b hb => by rw [x4 b (by omega), x3 b (by omega)]⟩
    by_cases c4 : hi_ < lo
    · have e := fo _ fun h => h (by omega)
      rw [e]
      repeat (with_reducible first|(first|refine pI1 ?_|refine pS1 ?_);intros|refine pA1 ?_|refine pX1 ?_|refine pB1 ?_|exact True.intro)
      rename_i b3 H3 p3 g3 x3 H4 l4 g4 x4
      have k1' := (x4 b1 (by omega)).trans ((x3 b1 (by omega)).trans k1)
      repeat (with_reducible first|(first|refine pI1 ?_|refine pS1 ?_);intros|refine pA1 ?_|refine pX1 ?_|refine pB1 ?_|exact True.intro)
      exact ⟨rfl, fe _ fun h => h _ (by omega) fun b hb => by rw [x4 b (by omega), x3 b (by omega)]⟩
    by_cases c5 : 256 < hi_
    · have e := fo _ fun h => h (by omega)
      rw [e]
      repeat (with_reducible first|(first|refine pI1 ?_|refine pS1 ?_);intros|refine pA1 ?_|refine pX1 ?_|refine pB1 ?_|exact True.intro)
      rename_i b3 H3 p3 g3 x3 H4 l4 g4 x4
      have k1' := (x4 b1 (by omega)).trans ((x3 b1 (by omega)).trans k1)
      repeat (with_reducible first|(first|refine pI1 ?_|refine pS1 ?_);intros|refine pA1 ?_|refine pX1 ?_|refine pB1 ?_|exact True.intro)
      exact ⟨rfl, fe _ fun h => h _ (by omega) fun b hb => by rw [x4 b (by omega), x3 b (by omega)]⟩
    repeat (with_reducible first|(first|refine pI1 ?_|refine pS1 ?_);intros|refine pA1 ?_|refine pX1 ?_|refine pB1 ?_|exact True.intro)
    rename_i b3 H3 p3 g3 x3 H4 l4 g4 x4
    have k1' := (x4 b1 (by omega)).trans ((x3 b1 (by omega)).trans k1)
    repeat (with_reducible first|(first|refine pI1 ?_|refine pS1 ?_);intros|refine pA1 ?_|refine pX1 ?_|refine pB1 ?_|exact True.intro)
    exact loopQ_n (n - (i + 1)) (by omega) ⟨_, i + 1, H4, rfl, rfl, by omega, zf, zf, by omega, fin2 _ fun _ hnext hall _ hokp => ⟨fun d hd => by rw [x4 d (by omega), x3 d (by omega)]; exact hall.1 d hd, hnext (hokp.2 (by omega))⟩⟩
  obtain rfl : i = n := by omega
  have hxt : ¬ (i : Int) < (i : Int) := by omega
  have f1 : Hid _ := fun (A : Prop) (h : _ → A) => h hall
  clear hall g1
  repeat (with_reducible first|(first|refine pI1 ?_|refine pS1 ?_);intros|refine pA1 ?_|refine pX1 ?_|refine pB1 ?_|exact True.intro)
  refine W_loop (fun m st => ∃ ρ, ∃ k : Nat, ∃ Hl, st = ⟨L 90 ρ, [], Hl⟩ ∧ m = i - k ∧ k ≤ i ∧ ρ 1 = .c (.ptr (some (b1, 0))) ∧ ρ 5 = .c (.int .i64 (k : Nat)) ∧ Hk.length ≤ Hl.length ∧ Hid ((∀ d, d < Hk.length → Hl[d]? = Hk[d]?) ∧ ∀ j l, l < j → j < k → c.apartP l j)) i ⟨_, 0, Hk, rfl, rfl, by omega, zf, zf, Nat.le_refl _, fun _ _ => rfl, fun j l hl hj => by omega⟩ ?_
  clear e1 e3
  rintro m st ⟨ρ, k, Hl, rfl, rfl, hk, e1, e5, ll, hap⟩
  unfold b_rotaref02_parts_21
  have k2 : Hl[b1]? = _ := (hap.1 b1 (by omega)).trans k1
  by_cases hkn : k < i
  · have hxt : (k : Int) < (i : Int) := by omega
    have f2 : Hid _ := fun (A : Prop) (h : _ → A) => h hap
    clear hap k1
    repeat (with_reducible first|(first|refine pI1 ?_|refine pS1 ?_);intros|refine pA1 ?_|refine pX1 ?_|refine pB1 ?_|exact True.intro)
    refine W_loop (fun m st => ∃ ρ, ∃ l : Nat, ∃ Hm, st = ⟨L 90 ρ, [], Hm⟩ ∧ m = k - l ∧ l ≤ k ∧ ρ 1 = .c (.ptr (some (b1, 0))) ∧ ρ 5 = .c (.int .i64 (k : Nat)) ∧ ρ 6 = .c (.int .i64 (l : Nat)) ∧ Hl.length ≤ Hm.length ∧ Hid ((∀ d, d < Hl.length → Hm[d]? = Hl[d]?) ∧ ∀ j, j < l → c.apartP j k)) k ⟨_, 0, Hl, rfl, rfl, by omega, zf, zf, zf, Nat.le_refl _, fun _ _ => rfl, fun j hj => by omega⟩ ?_
    clear e1 e5
    rintro m st ⟨ρ, l, Hm, rfl, rfl, hl, e1, e5, e6, lm, hal⟩
    unfold b_rotaref02_parts_19
    have k3 : Hm[b1]? = _ := (hal.1 b1 (by omega)).trans k2
    by_cases hlk : l < k
    · have hxl : (l : Int) < (k : Int) := by omega
      obtain ⟨la, y, ea, hla, hldk, -⟩ := fin0 _ fun hc hn _ => part_at hc (i := k) (by omega)
      obtain ⟨la', y', ea', -, hldl, -⟩ := fin0 _ fun hc hn _ => part_at hc (i := l) (by omega)
      rw [ea] at ea'
      cases ea'
      have ym : ∀ b, b < H.length → Hm[b]? = H[b]? := fun b hb => (hal.1 b (by omega)).trans (f2 _ fun hap => (hap.1 b (by omega)).trans (f1 _ fun hall => (hall.1 b (by omega)).trans (fx _ fun x1 => x1 b (by omega))))
      rw [← ym la (by omega)] at hldk hldl
      have okk : c.okPart (c.part (k : Nat)) := f1 _ fun hall => hall.2 k hkn
      have okl : c.okPart (c.part (l : Nat)) := f1 _ fun hall => hall.2 l (by omega)
      have hapd : c.apartP l k ↔ ¬ ((c.part (l : Nat)).node = (c.part (k : Nat)).node ∧ Cfg.meets (c.part (l : Nat)).lo (c.part (l : Nat)).hi (c.part (k : Nat)).lo (c.part (k : Nat)).hi) := Iff.rfl
      have hnot : ¬ c.apartP l k → dB c.okParts = false := fun h => dB_f fun h' => h (h'.2.2 l k hlk (fin0 _ fun _ hn _ => by omega))
      have hnext : c.apartP l k → ∀ j, j < l + 1 → c.apartP j k := fun h j hj => by
        by_cases e : j = l
        · subst e; exact h
        · exact hal.2 j (by omega)
      unfold Cfg.okPart at okk okl
      generalize c.apartP l k = P at *
      generalize c.part (k : Nat) = p at *
      generalize c.part (l : Nat) = q at *
      obtain ⟨pn, lo, hi_⟩ := p
      obtain ⟨qn, lo', hi'⟩ := q
      obtain ⟨-, -, w1, w2, w3⟩ := okk
      obtain ⟨-, -, w4, w5, w6⟩ := okl
      dsimp only [Pa.cells] at hldk hldl hapd w1 w2 w3 w4 w5 w6
      obtain ⟨a, rfl⟩ : ∃ a : Nat, lo = a := ⟨lo.toNat, by omega⟩
      obtain ⟨b, rfl⟩ : ∃ b : Nat, hi_ = b := ⟨hi_.toNat, by omega⟩
      obtain ⟨a', rfl⟩ : ∃ a' : Nat, lo' = a' := ⟨lo'.toNat, by omega⟩
      obtain ⟨b', rfl⟩ : ∃ b' : Nat, hi' = b' := ⟨hi'.toNat, by omega⟩
      have hcom : Cfg.meets a b a' b' ↔ Cfg.meets a' b' a b := by unfold Cfg.meets; omega
      have fin2 : Hid _ := fun (A : Prop) (h : _ → _ → _ → _ → _ → _ → A) => h hnot hnext hal ym hapd hcom
      clear hnot hnext hal ym hapd hcom
      rw [ea] at k3
      have fea : Hid _ := fun (A : Prop) (h : _ → A) => h ea
      clear ea k2
      by_cases c1 : pn = qn
      · subst c1
        repeat (with_reducible first|(first|refine pI1 ?_|refine pS1 ?_);intros|refine pA1 ?_|refine pX1 ?_|refine pB1 ?_|exact True.intro)
        rename_i b3 H3 p3 g3 x3 H4 l4 g4 x4 b5 H5 p5 g5 x5 H6 l6 g6 x6
        have k3' := (x4 b1 (by omega)).trans ((x3 b1 (by omega)).trans k3)
        have f4 : Hid _ := fun (A : Prop) (h : _ → _ → A) => h x3 x4
        clear x3 x4 hldk hldl g3 k3
        have k4 := (x6 b1 (by omega)).trans ((x5 b1 (by omega)).trans k3')
        have g4' := (x6 b3 (by omega)).trans ((x5 b3 (by omega)).trans g4)
        have f5 : Hid _ := fun (A : Prop) (h : _ → _ → A) => h x5 x6
        have hmt := s_rmeet (H := H6) (a := a) (b := b) (c := a') (d := b') (by omega)
        clear x5 x6 g4 k3' g5
        repeat (with_reducible first|(first|refine pI1 ?_|refine pS1 ?_);intros|refine pA1 ?_|refine pX1 ?_|refine pB1 ?_|exact True.intro)
        refine outM_call hmt ?_
        rintro _ H6 ⟨rfl, rfl⟩
        clear hmt
        have hx6 : ∀ d, d < Hm.length → H6[d]? = Hm[d]? := fun d hd => by rw [f5 _ fun _ x6 => x6 d (by omega), f5 _ fun x5 _ => x5 d (by omega), f4 _ fun _ x4 => x4 d (by omega)]; exact f4 _ fun x3 _ => x3 d (by omega)
        by_cases hme : Cfg.meets a b a' b'
        · have e := fin2 _ fun hnot _ _ _ hapd hcom => hnot fun hp => (hapd.1 hp) ⟨rfl, hcom.1 hme⟩
          rw [dB_t hme, e]
          have fh : Hid _ := fun (A : Prop) (h : _ → A) => h hx6
          clear hme hx6 e
          repeat (with_reducible first|(first|refine pI1 ?_|refine pS1 ?_);intros|refine pA1 ?_|refine pX1 ?_|refine pB1 ?_|exact True.intro)
          exact ⟨rfl, by omega, fun b hb => by rw [fh _ fun h => h b (by omega)]; exact fin2 _ fun _ _ _ ym _ _ => ym b hb⟩
        · rw [dB_f hme]
          have fh : Hid _ := fun (A : Prop) (h : _ → _ → A) => h hx6 hme
          clear hme hx6
          repeat (with_reducible first|(first|refine pI1 ?_|refine pS1 ?_);intros|refine pA1 ?_|refine pX1 ?_|refine pB1 ?_|exact True.intro)
          exact loopQ_n (k - (l + 1)) (by omega) ⟨_, l + 1, H6, rfl, rfl, by omega, zf, zf, zf, by omega, fh _ fun hx6 hme => fin2 _ fun _ hnext hal _ hapd hcom => ⟨fun d hd => by rw [hx6 d (by omega)]; exact hal.1 d hd, hnext (hapd.2 fun h => hme (hcom.2 h.2))⟩⟩
      · repeat (with_reducible first|(first|refine pI1 ?_|refine pS1 ?_);intros|refine pA1 ?_|refine pX1 ?_|refine pB1 ?_|exact True.intro)
        rename_i b3 H3 p3 g3 x3 H4 l4 g4 x4 b5 H5 p5 g5 x5 H6 l6 g6 x6
        have k3' := (x4 b1 (by omega)).trans ((x3 b1 (by omega)).trans k3)
        have f4 : Hid _ := fun (A : Prop) (h : _ → _ → A) => h x3 x4
        clear x3 x4 hldk hldl g3 k3
        have k4 := (x6 b1 (by omega)).trans ((x5 b1 (by omega)).trans k3')
        have g4' := (x6 b3 (by omega)).trans ((x5 b3 (by omega)).trans g4)
        have f5 : Hid _ := fun (A : Prop) (h : _ → _ → A) => h x5 x6
        clear x5 x6 g4 k3' g5
        repeat (with_reducible first|(first|refine pI1 ?_|refine pS1 ?_);intros|refine pA1 ?_|refine pX1 ?_|refine pB1 ?_|exact True.intro)
        have hx6 : ∀ d, d < Hm.length → H6[d]? = Hm[d]? := fun d hd => by rw [f5 _ fun _ x6 => x6 d (by omega), f5 _ fun x5 _ => x5 d (by omega), f4 _ fun _ x4 => x4 d (by omega)]; exact f4 _ fun x3 _ => x3 d (by omega)
        exact loopQ_n (k - (l + 1)) (by omega) ⟨_, l + 1, H6, rfl, rfl, by omega, zf, zf, zf, by omega, fin2 _ fun _ hnext hal _ hapd hcom => ⟨fun d hd => by rw [hx6 d (by omega)]; exact hal.1 d hd, hnext (hapd.2 fun h => c1 h.1.symm)⟩⟩
    · obtain rfl : l = k := by omega
      have hxl : ¬ (l : Int) < (l : Int) := by omega
      have fl : Hid _ := fun (A : Prop) (h : _ → A) => h hal
      clear hal
      repeat (with_reducible first|(first|refine pI1 ?_|refine pS1 ?_);intros|refine pA1 ?_|refine pX1 ?_|refine pB1 ?_|exact True.intro)
      exact loopQ_n (i - (l + 1)) (by omega) ⟨_, l + 1, Hm, rfl, rfl, by omega, zf, zf, by omega, fl _ fun hal => f2 _ fun hap => ⟨fun d hd => by rw [hal.1 d (by omega)]; exact hap.1 d hd, fun j q h1 h2 => by
        by_cases e : j = l
        · subst e; exact hal.2 q h1
        · exact hap.2 j q h1 (by omega)⟩⟩
  · obtain rfl : k = i := by omega
    have hxk : ¬ (k : Int) < (k : Int) := by omega
    have e : dB c.okParts = true := dB_t (fin0 _ fun _ hn _ => ⟨by omega, fun p hp => by
      obtain ⟨j, hj, rfl⟩ := part_of hp
      exact f1 _ fun hall => hall.2 j (by omega), fun j l h1 h2 => hap.2 l j h1 (by omega)⟩)
    rw [e]
    have fl : Hid _ := fun (A : Prop) (h : _ → A) => h hap
    clear hap
    repeat (with_reducible first|(first|refine pI1 ?_|refine pS1 ?_);intros|refine pA1 ?_|refine pX1 ?_|refine pB1 ?_|exact True.intro)
    exact ⟨rfl, by omega, fun b hb => by rw [fl _ fun hap => hap.1 b (by omega), f1 _ fun hall => hall.1 b (by omega)]; exact fx _ fun x1 => x1 b (by omega)⟩
end
end Go.Proofs.Ytbgmbnikpjjmcaa.AM.D07
