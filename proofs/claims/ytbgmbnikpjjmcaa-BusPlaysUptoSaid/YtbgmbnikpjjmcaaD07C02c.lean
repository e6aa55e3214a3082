/- What the functions of chapter 2 come to: partitions. -/
import Derived.Test.YtbgmbnikpjjmcaaD07C02b
set_option linter.unusedVariables false
set_option linter.unusedSimpArgs false
set_option linter.unusedSectionVars false
namespace Go.Proofs.Ytbgmbnikpjjmcaa.AM.D07
open Go Go.Proofs.Ytbgmbnikpjjmcaa.AM Go.Proofs.Ytbgmbnikpjjmcaa.AM.C02
set_option maxHeartbeats 2000000
set_option maxRecDepth 100000
attribute [local go_sem] tn_add1 tn_sub1 put_all' nums_len aop_mn aop_mx mnO_int mxO_int sub12
theorem part_at {N : Nat} {H : Heap} {c : Cfg} {h : Hd} (hc : CfgM N H c h) {i : Nat} (hi : i < c.parts.length) : ∃ la y, h.a8 = some (la, y) ∧ la < N ∧ ldnB H[la]? (y + i * 3) 3 = some (c.part (i : Nat)).cells ∧ c.part (i : Nat) ∈ c.parts := by
  obtain ⟨⟨la, y⟩, cs, e1, e2, e3, e4, -⟩ := hc.parts.at hi
  have e : c.part (i : Nat) = c.parts[i] := by simp [Cfg.part, hi]
  rw [e]
  exact ⟨la, y, e1, e2, by rw [← e4]; exact e3, List.getElem_mem hi⟩
theorem part_of {c : Cfg} {p : Pa} (h : p ∈ c.parts) : ∃ i, i < c.parts.length ∧ c.part (i : Nat) = p := by
  obtain ⟨i, hi, rfl⟩ := List.mem_iff_getElem.1 h
  exact ⟨i, hi, by simp [Cfg.part, hi]⟩
theorem sub3 (a b c : Cell) : sub [a, b, c] 0 3 = some [a, b, c] := rfl
attribute [local go_sem] sub3
theorem s_cparts {N : Nat} {H : Heap} {c : Cfg} {h : Hd} (hc : CfgM N H c h) (hN : N ≤ H.length) (hnd : 4 ≤ c.nodes ∧ c.nodes ≤ 16) : WC F fn_config_parts [.agg (c.cells h)] H fun v H' => v = .c (.bool (dB c.okParts)) ∧ Xt H H' := by
  refine WC_start e_config_parts (by simp) ?_
  unfold c_config_parts Cfg.cells
  obtain ⟨n, hn⟩ : ∃ n, c.parts.length = n := ⟨_, rfl⟩
  rw [hn]
  obtain ⟨n1, n2⟩ := hnd
  have fin0 : Hid _ := fun (A : Prop) (h : _ → _ → A) => h hc hn
  clear hc
  repeat (with_reducible first|(first|refine pI1 ?_|refine pS1 ?_);intros|refine pA1 ?_|refine pX1 ?_|refine pB1 ?_|exact True.intro)
  rename_i b1 H1 p1 g1 x1 b2 H2 p2 g2 x2
  by_cases hbig : 32 < (n : Int)
  · repeat (with_reducible first|(first|refine pI1 ?_|refine pS1 ?_);intros|refine pA1 ?_|refine pX1 ?_|refine pB1 ?_|exact True.intro)
    rename_i H3 l3 g3 x3
    repeat (with_reducible first|(first|refine pI1 ?_|refine pS1 ?_);intros|refine pA1 ?_|refine pX1 ?_|refine pB1 ?_|exact True.intro)
    exact ⟨by rw [dB_f (fun h => by have := h.1; omega)], by omega, fun b hb => by simp (disch := first | with_reducible assumption | omega) only [go_sem, *, reduceCtorEq, ↓reduceIte, Nat.reduceLT, Nat.reduceBEq, Nat.reduceAdd, Nat.reduceSub, Nat.reduceMul, Nat.reduceDiv, Nat.reduceMod, Nat.reducePow, Nat.reduceEqDiff, Nat.reduceLeDiff, Int.reduceLT, Int.reduceLE, Int.reduceNeg, Int.reduceToNat, Int.reduceAdd, Int.reduceSub, Int.reduceMul, Int.reduceEq, Int.reduceNe, Int.reduceBEq, Int.reduceBNe, Int.reducePow]⟩
  have g1' : H2[b1]? = _ := (x2 b1 (by omega)).trans g1
  have y2 : ∀ b, b < H.length → H2[b]? = H[b]? := fun b hb => by rw [x2 b (by omega), x1 b (by omega)]
  have fy2 : Hid _ := fun (A : Prop) (h : _ → A) => h y2
  clear x1 x2 g1 y2
  repeat (with_reducible first|(first|refine pI1 ?_|refine pS1 ?_);intros|refine pA1 ?_|refine pX1 ?_|refine pB1 ?_|exact True.intro)
  refine W_loop (fun m st => ∃ ρ i Hk, st = ⟨L 73 ρ, [], Hk⟩ ∧ m = n - i ∧ i ≤ n ∧ ρ 1 = .c (.ptr (some (b1, 0))) ∧ ρ 2 = .c (.ptr (some (b2, 0))) ∧ ρ 14 = .c (.sl h.a8 n h.c8 false) ∧ ρ 15 = .c (.int .i64 (n : Nat)) ∧ ρ 16 = .c (.int .i64 (i : Nat)) ∧ (∀ d, d < H2.length → Hk[d]? = H2[d]?) ∧ H2.length ≤ Hk.length ∧ ∀ j, j < i → c.okPart (c.part (j : Nat))) n ⟨_, 0, H2, rfl, rfl, by omega, zf, zf, zf, zf, zf, fun _ _ => rfl, Nat.le_refl _, fun j hj => by omega⟩ ?_
  rintro m st ⟨ρ, i, Hk, rfl, rfl, hi, e1, e2, e14, e15, e16, xk, lk, hall⟩
  unfold b_config_parts_9
  have fin1 : Hid _ := fun (A : Prop) (h : _ → A) => h hall
  clear hall
  by_cases hin : i < n
  · have hxt : (i : Int) < (n : Int) := by omega
    obtain ⟨la, y, ea, hla, hld, hmem⟩ := fin0 _ fun hc hn => part_at hc (i := i) (by omega)
    have k1 : Hk[b1]? = _ := (xk b1 (by omega)).trans g1'
    have k2 : Hk[b2]? = _ := (xk b2 (by omega)).trans g2
    have yk : ∀ b, b < H.length → Hk[b]? = H[b]? := fun b hb => (xk b (by omega)).trans (fy2 _ fun y2 => y2 b hb)
    rw [← yk la (by omega)] at hld
    have fx : Hid _ := fun (A : Prop) (h : _ → _ → A) => h xk yk
    clear xk yk
    have hokp : c.okPart (c.part (i : Nat)) ↔ (0 ≤ (c.part (i : Nat)).node ∧ (c.part (i : Nat)).node ≤ c.nodes - 1 ∧ 0 ≤ (c.part (i : Nat)).lo ∧ (c.part (i : Nat)).lo ≤ (c.part (i : Nat)).hi ∧ (c.part (i : Nat)).hi ≤ 256) := Iff.rfl
    have hnot : ¬ c.okPart (c.part (i : Nat)) → dB c.okParts = false := fun h => dB_f fun h' => h (h'.2.1 _ hmem)
    have hnext : c.okPart (c.part (i : Nat)) → ∀ j, j < i + 1 → c.okPart (c.part (j : Nat)) := fun h j hj => by
      by_cases e : j = i
      · subst e; exact h
      · exact fin1 _ fun h => h j (by omega)
    generalize c.okPart (c.part (i : Nat)) = P at *
    generalize c.part (i : Nat) = p at *
    obtain ⟨nd, lo, hi_⟩ := p
    dsimp only [Pa.cells] at hld hokp
    have fin2 : Hid _ := fun (A : Prop) (h : _ → _ → A) => h hnot hnext
    clear hnot hnext hmem
    rw [ea] at e14
    have fea : Hid _ := fun (A : Prop) (h : _ → A) => h ea
    clear ea
    by_cases h1 : 0 ≤ nd ∧ nd ≤ c.nodes - 1
    case neg =>
      have hP : ¬ P := fun h => h1 (by have := hokp.1 h; omega)
      clear hokp fin1
      repeat (with_reducible first|(first|refine pI1 ?_|refine pS1 ?_);intros|refine pA1 ?_|refine pX1 ?_|refine pB1 ?_|exact True.intro)
      rename_i b3 H3 p3 g3 x3 H4 l4 g4 x4
      have y4 : ∀ b, b < H.length → H4[b]? = H[b]? := fun b hb => by rw [x4 b (by omega), x3 b (by omega)]; exact fx _ fun _ yk => yk b hb
      have k14 : H4[b1]? = _ := (x4 b1 (by omega)).trans ((x3 b1 (by omega)).trans k1)
      have k24 : H4[b2]? = _ := (x4 b2 (by omega)).trans ((x3 b2 (by omega)).trans k2)
      have fy4 : Hid _ := fun (A : Prop) (h : _ → A) => h y4
      clear x3 x4 k1 k2 g3 y4
      repeat (with_reducible first|(first|refine pI1 ?_|refine pS1 ?_);intros|refine pA1 ?_|refine pX1 ?_|refine pB1 ?_|exact True.intro)
      refine outM_call s_within ?_
      rintro _ H4 ⟨rfl, rfl⟩
      repeat (with_reducible first|(first|refine pI1 ?_|refine pS1 ?_);intros|refine pA1 ?_|refine pX1 ?_|refine pB1 ?_|exact True.intro)
      rename_i H5 l5 g5 x5
      repeat (with_reducible first|(first|refine pI1 ?_|refine pS1 ?_);intros|refine pA1 ?_|refine pX1 ?_|refine pB1 ?_|exact True.intro)
      exact ⟨by rw [fin2 _ fun hn _ => hn hP], by omega, fun b hb => by rw [x5 b (by omega)]; exact fy4 _ fun y4 => y4 b hb⟩
    obtain ⟨a1, a2⟩ := h1
    by_cases h1 : 0 ≤ lo ∧ lo ≤ hi_
    case neg =>
      have hP : ¬ P := fun h => h1 (by have := hokp.1 h; omega)
      clear hokp fin1
      repeat (with_reducible first|(first|refine pI1 ?_|refine pS1 ?_);intros|refine pA1 ?_|refine pX1 ?_|refine pB1 ?_|exact True.intro)
      rename_i b3 H3 p3 g3 x3 H4 l4 g4 x4
      have y4 : ∀ b, b < H.length → H4[b]? = H[b]? := fun b hb => by rw [x4 b (by omega), x3 b (by omega)]; exact fx _ fun _ yk => yk b hb
      have k14 : H4[b1]? = _ := (x4 b1 (by omega)).trans ((x3 b1 (by omega)).trans k1)
      have k24 : H4[b2]? = _ := (x4 b2 (by omega)).trans ((x3 b2 (by omega)).trans k2)
      have fy4 : Hid _ := fun (A : Prop) (h : _ → A) => h y4
      clear x3 x4 k1 k2 g3 y4
      repeat (with_reducible first|(first|refine pI1 ?_|refine pS1 ?_);intros|refine pA1 ?_|refine pX1 ?_|refine pB1 ?_|exact True.intro)
      refine outM_call s_within ?_
      rintro _ H4 ⟨rfl, rfl⟩
      repeat (with_reducible first|(first|refine pI1 ?_|refine pS1 ?_);intros|refine pA1 ?_|refine pX1 ?_|refine pB1 ?_|exact True.intro)
      refine outM_call s_within ?_
      rintro _ H4 ⟨rfl, rfl⟩
      repeat (with_reducible first|(first|refine pI1 ?_|refine pS1 ?_);intros|refine pA1 ?_|refine pX1 ?_|refine pB1 ?_|exact True.intro)
      rename_i H5 l5 g5 x5
      repeat (with_reducible first|(first|refine pI1 ?_|refine pS1 ?_);intros|refine pA1 ?_|refine pX1 ?_|refine pB1 ?_|exact True.intro)
      exact ⟨by rw [fin2 _ fun hn _ => hn hP], by omega, fun b hb => by rw [x5 b (by omega)]; exact fy4 _ fun y4 => y4 b hb⟩
    obtain ⟨a3, a4⟩ := h1
    have fin3 : Hid _ := fun (A : Prop) (h : _ → A) => h hokp
    clear hokp fin1
    repeat (with_reducible first|(first|refine pI1 ?_|refine pS1 ?_);intros|refine pA1 ?_|refine pX1 ?_|refine pB1 ?_|exact True.intro)
    rename_i b3 H3 p3 g3 x3 H4 l4 g4 x4
    have y4 : ∀ b, b < H.length → H4[b]? = H[b]? := fun b hb => by rw [x4 b (by omega), x3 b (by omega)]; exact fx _ fun _ yk => yk b hb
    have z4 : ∀ b, b < H2.length → H4[b]? = H2[b]? := fun b hb => by rw [x4 b (by omega), x3 b (by omega)]; exact fx _ fun xk _ => xk b hb
    have k14 : H4[b1]? = _ := (x4 b1 (by omega)).trans ((x3 b1 (by omega)).trans k1)
    have k24 : H4[b2]? = _ := (x4 b2 (by omega)).trans ((x3 b2 (by omega)).trans k2)
    have fin4 : Hid _ := fun (A : Prop) (h : _ → A) => h z4
    have fy4 : Hid _ := fun (A : Prop) (h : _ → A) => h y4
    clear x3 x4 k1 k2 g3 z4 y4
    repeat (with_reducible first|(first|refine pI1 ?_|refine pS1 ?_);intros|refine pA1 ?_|refine pX1 ?_|refine pB1 ?_|exact True.intro)
    refine outM_call s_within ?_
    rintro _ H4 ⟨rfl, rfl⟩
    repeat (with_reducible first|(first|refine pI1 ?_|refine pS1 ?_);intros|refine pA1 ?_|refine pX1 ?_|refine pB1 ?_|exact True.intro)
    refine outM_call s_within ?_
    rintro _ H4 ⟨rfl, rfl⟩
    by_cases h1 : 256 < hi_
    · have hP : ¬ P := fun h => fin3 _ fun hokp => by have := hokp.1 h; omega
      clear fin3
      repeat (with_reducible first|(first|refine pI1 ?_|refine pS1 ?_);intros|refine pA1 ?_|refine pX1 ?_|refine pB1 ?_|exact True.intro)
      rename_i H5 l5 g5 x5
      repeat (with_reducible first|(first|refine pI1 ?_|refine pS1 ?_);intros|refine pA1 ?_|refine pX1 ?_|refine pB1 ?_|exact True.intro)
      exact ⟨by rw [fin2 _ fun hn _ => hn hP], by omega, fun b hb => by rw [x5 b (by omega)]; exact fy4 _ fun y4 => y4 b hb⟩
    · have hP : P := fin3 _ fun hokp => hokp.2 (by omega)
      clear fin3
      repeat (with_reducible first|(first|refine pI1 ?_|refine pS1 ?_);intros|refine pA1 ?_|refine pX1 ?_|refine pB1 ?_|exact True.intro)
      exact loopQ_n (n - (i + 1)) (by omega) ⟨_, i + 1, H4, rfl, rfl, by omega, zf, zf, by rw [fea _ fun e => e]; simp (disch := first | with_reducible assumption | omega) only [go_sem, *, reduceCtorEq, ↓reduceIte, Nat.reduceLT, Nat.reduceBEq, Nat.reduceAdd, Nat.reduceSub, Nat.reduceMul, Nat.reduceDiv, Nat.reduceMod, Nat.reducePow, Nat.reduceEqDiff, Nat.reduceLeDiff, Int.reduceLT, Int.reduceLE, Int.reduceNeg, Int.reduceToNat, Int.reduceAdd, Int.reduceSub, Int.reduceMul, Int.reduceEq, Int.reduceNe, Int.reduceBEq, Int.reduceBNe, Int.reducePow]; first | done | rfl, zf, zf, fin4 _ fun h => h, by omega, fin2 _ fun _ h => h hP⟩
  · obtain rfl : i = n := by omega
    have hxt : ¬ (i : Int) < (i : Int) := by omega
    have k1 : Hk[b1]? = _ := (xk b1 (by omega)).trans g1'
    have k2 : Hk[b2]? = _ := (xk b2 (by omega)).trans g2
    have yk : ∀ b, b < H.length → Hk[b]? = H[b]? := fun b hb => (xk b (by omega)).trans (fy2 _ fun y2 => y2 b hb)
    have fyk : Hid _ := fun (A : Prop) (h : _ → A) => h yk
    clear xk g1' g2 yk
    repeat (with_reducible first|(first|refine pI1 ?_|refine pS1 ?_);intros|refine pA1 ?_|refine pX1 ?_|refine pB1 ?_|exact True.intro)
    refine outM_call s_pairs ?_
    rintro _ H3 ⟨b3, rfl, q3, r3, g3, l3, x3⟩
    have k13 : H3[b1]? = _ := (x3 b1 (by omega)).trans k1
    have k23 : H3[b2]? = _ := (x3 b2 (by omega)).trans k2
    have y3 : ∀ b, b < H.length → H3[b]? = H[b]? := fun b hb => (x3 b (by omega)).trans (fyk _ fun yk => yk b hb)
    have fy3 : Hid _ := fun (A : Prop) (h : _ → A) => h y3
    clear x3 k1 k2 y3 fyk
    repeat (with_reducible first|(first|refine pI1 ?_|refine pS1 ?_);intros|refine pA1 ?_|refine pX1 ?_|refine pB1 ?_|exact True.intro)
    unfold a_config_parts_16
    refine W_rangeM (F := F) (enc := enp) (xs := rest i 0) kF zf (it_pairs (fun d => d = b2) (by omega))
      (fun d r Hx => Hx[b1]? = H3[b1]? ∧ Hx[b2]? = H3[b2]? ∧ (∀ b, b < H.length → Hx[b]? = H[b]?) ∧ ∀ p ∈ d, c.apartP p.1 p.2)
      (fun e Hx => e = .ret ∧ Hx[b2]? = some (.cells [.bool false] false none) ∧ (∀ b, b < H.length → Hx[b]? = H[b]?) ∧ ¬ c.okParts)
      (fun J => get_app' J g3) (fun b hb => by omega) (fun _ => rfl) ?_ ?_ ?_ ?_ ?_ ?_
    · rintro d r H7 H8 ⟨w1, w2, w3, w4⟩ l7 l8 x8
      exact ⟨(x8 b1 (by omega) (by omega)).trans w1, (x8 b2 (by omega) (by omega)).trans w2, fun b hb => (x8 b (by omega) (by omega)).trans (w3 b hb), w4⟩
    · rintro e H7 H8 ⟨w1, w2, w3, w4⟩ l7 l8 x8
      exact ⟨w1, (x8 b2 (by omega) (by omega)).trans w2, fun b hb => (x8 b (by omega) (by omega)).trans (w3 b hb), w4⟩
    · intro H7 l7 x7
      exact ⟨x7 b1 (by omega), x7 b2 (by omega), fun b hb => (x7 b (by omega)).trans (fy3 _ fun y3 => y3 b hb), fun p hp => by simp at hp⟩
    · intro d p r Ha hd
      obtain ⟨j, k⟩ := p
      obtain ⟨hjk, hkn⟩ := rest_is (show (j, k) ∈ rest i 0 by rw [hd]; simp)
      simp only [enp, List.zip_cons_cons, List.zip_nil_left, List.foldl_cons, List.foldl_nil, L_set]
      obtain ⟨la, y, ea, hla, hld, -⟩ := fin0 _ fun hc hn => part_at hc (i := j) (by omega)
      obtain ⟨la', y', ea', hla', hld', -⟩ := fin0 _ fun hc hn => part_at hc (i := k) (by omega)
      rw [ea] at ea'
      injection ea' with ea'
      injection ea' with ea1 ea2
      subst ea1 ea2
      have hnp : ¬ c.apartP j k → ¬ c.okParts := fun h h' => h (h'.2.2 j k hjk (fin0 _ fun _ hn => by omega))
      have hap : c.apartP j k ↔ ¬ ((c.part (j : Nat)).node = (c.part (k : Nat)).node ∧ Cfg.meets (c.part (j : Nat)).lo (c.part (j : Nat)).hi (c.part (k : Nat)).lo (c.part (k : Nat)).hi) := Iff.rfl
      have hnext : c.apartP j k → (∀ p ∈ d, c.apartP p.1 p.2) → ∀ p ∈ d ++ [(j, k)], c.apartP p.1 p.2 := fun h h' p hp => by
        rcases List.mem_append.1 hp with hp | hp
        · exact h' p hp
        · obtain rfl : p = (j, k) := by simpa using hp
          exact h
      clear hd fin1
      generalize c.apartP j k = P at *
      generalize c.part (j : Nat) = p at *
      generalize c.part (k : Nat) = q at *
      obtain ⟨pn, pl, ph⟩ := p
      obtain ⟨qn, ql, qh⟩ := q
      dsimp only [Pa.cells] at hld hld' hap
      have fin2 : Hid _ := fun (A : Prop) (h : _ → _ → _ → A) => h hnp hnext hap
      clear hnp hnext hap
      repeat (with_reducible first|(first|refine pI1 ?_|refine pS1 ?_);intros|refine pA1 ?_|refine pX1 ?_|refine pB1 ?_|exact True.intro)
      refine ⟨rfl, rfl, rfl, ?_⟩
      rintro H7 ⟨w1, w2, w3, w4⟩ hll l7
      have fw : Hid _ := fun (A : Prop) (h : _ → _ → A) => h w1 w2
      rw [← w3 la (by omega)] at hld hld'
      rw [k13] at w1
      rw [k23] at w2
      have fin3 : Hid _ := fun (A : Prop) (h : _ → _ → A) => h w3 w4
      clear w3 w4
      unfold b_config_parts_17
      rw [ea] at w1
      clear ea k13 k23
      by_cases hne : pn = qn
      case neg =>
        have hP : P := fin2 _ fun _ _ hap => hap.2 fun h => hne h.1
        repeat (with_reducible first|(first|refine pI1 ?_|refine pS1 ?_);intros|refine pA1 ?_|refine pX1 ?_|refine pB1 ?_|exact True.intro)
        rename_i b8 H8 p8 g8 x8 b9 H9 p9 g9 x9 H10 l10 g10 x10 H11 l11 g11 x11
        have z : ∀ b, b < H7.length → H11[b]? = H7[b]? := fun b hb => by rw [x11 b (by omega), x10 b (by omega), x9 b (by omega), x8 b (by omega)]
        have fz : Hid _ := fun (A : Prop) (h : _ → A) => h z
        have gp := (x11 b8 (by omega)).trans g10
        clear x8 x9 x10 x11 z g8 g9 g10
        repeat (with_reducible first|(first|refine pI1 ?_|refine pS1 ?_);intros|refine pA1 ?_|refine pX1 ?_|refine pB1 ?_|exact True.intro)
        refine fz _ fun z => ?_
        exact turnQ_n (by omega) (z _ (by omega)) (fun b hb => z b hb.1) ⟨(z b1 (by omega)).trans (fw _ fun w _ => w), (z b2 (by omega)).trans (fw _ fun _ w => w), fun b hb => (z b (by omega)).trans (fin3 _ fun w3 _ => w3 b hb), fin3 _ fun _ w4 => fin2 _ fun _ hnext _ => hnext hP w4⟩
      subst hne
      repeat (with_reducible first|(first|refine pI1 ?_|refine pS1 ?_);intros|refine pA1 ?_|refine pX1 ?_|refine pB1 ?_|exact True.intro)
      rename_i b8 H8 p8 g8 x8 b9 H9 p9 g9 x9 H10 l10 g10 x10 H11 l11 g11 x11
      have z : ∀ b, b < H7.length → H11[b]? = H7[b]? := fun b hb => by rw [x11 b (by omega), x10 b (by omega), x9 b (by omega), x8 b (by omega)]
      have fz : Hid _ := fun (A : Prop) (h : _ → A) => h z
      have gp := (x11 b8 (by omega)).trans g10
      have w2' := (z b2 (by omega)).trans w2
      clear x8 x9 x10 x11 z g8 g9 g10
      repeat (with_reducible first|(first|refine pI1 ?_|refine pS1 ?_);intros|refine pA1 ?_|refine pX1 ?_|refine pB1 ?_|exact True.intro)
      refine outM_call s_meet ?_
      rintro _ H11 ⟨rfl, rfl⟩
      by_cases hm : Cfg.meets pl ph ql qh
      · have hP : ¬ P := fun h => fin2 _ fun _ _ hap => hap.1 h ⟨rfl, hm⟩
        rw [dB_t hm]
        repeat (with_reducible first|(first|refine pI1 ?_|refine pS1 ?_);intros|refine pA1 ?_|refine pX1 ?_|refine pB1 ?_|exact True.intro)
        rename_i H12 l12 g12 x12
        refine fz _ fun z => ?_
        exact turnQ_r (by omega) (by rw [x12 _ (by omega)]; exact z _ (by omega)) (fun b hb => by rw [x12 b hb.2.1]; exact z b hb.1) ⟨rfl, g12, fun b hb => by rw [x12 b (by omega), z b (by omega)]; exact fin3 _ fun w3 _ => w3 b hb, fin2 _ fun hnp _ _ => hnp hP⟩
      · have hP : P := fin2 _ fun _ _ hap => hap.2 fun h => hm h.2
        rw [dB_f hm]
        repeat (with_reducible first|(first|refine pI1 ?_|refine pS1 ?_);intros|refine pA1 ?_|refine pX1 ?_|refine pB1 ?_|exact True.intro)
        refine fz _ fun z => ?_
        exact turnQ_n (by omega) (z _ (by omega)) (fun b hb => z b hb.1) ⟨(z b1 (by omega)).trans (fw _ fun w _ => w), (z b2 (by omega)).trans (fw _ fun _ w => w), fun b hb => (z b (by omega)).trans (fin3 _ fun w3 _ => w3 b hb), fin3 _ fun _ w4 => fin2 _ fun _ hnext _ => hnext hP w4⟩
    · rintro H7 ⟨w1, w2, w3, w4⟩ hd l7
      rw [k13] at w1
      rw [k23] at w2
      have fin3 : Hid _ := fun (A : Prop) (h : _ → _ → A) => h w3 w4
      clear w3 w4 k13 k23
      repeat (with_reducible first|(first|refine pI1 ?_|refine pS1 ?_);intros|refine pA1 ?_|refine pX1 ?_|refine pB1 ?_|exact True.intro)
      rename_i H8 l8 g8 x8
      have hd8 : H8[H3.length]? = some .defd := by rw [x8 _ (by omega)]; exact hd
      have fy8 : ∀ b, b < H.length → H8[b]? = H[b]? := fun b hb => by rw [x8 b (by omega)]; exact fin3 _ fun w3 _ => w3 b hb
      have fy8 : Hid _ := fun (A : Prop) (h : _ → A) => h fy8
      clear x8
      refine callQ_1 hd8 fun H9 l9 x9 => ?_
      have g9 : H9[b2]? = _ := (x9 b2 (by omega)).trans g8
      have y9 : ∀ b, b < H.length → H9[b]? = H[b]? := fun b hb => (x9 b (by omega)).trans (fy8 _ fun y8 => y8 b hb)
      have fy9 : Hid _ := fun (A : Prop) (h : _ → A) => h y9
      clear x9 g8 y9
      repeat (with_reducible first|(first|refine pI1 ?_|refine pS1 ?_);intros|refine pA1 ?_|refine pX1 ?_|refine pB1 ?_|exact True.intro)
      have hT : c.okParts := by
        refine ⟨fin0 _ fun _ hn => by omega, fun p hp => ?_, fun j k h1 h2 => ?_⟩
        · obtain ⟨j, hj, rfl⟩ := part_of hp
          exact fin1 _ fun h => h j (fin0 _ fun _ hn => by omega)
        · exact fin3 _ fun _ w4 => w4 (j, k) (rest_mem h1 (fin0 _ fun _ hn => by omega))
      exact ⟨by rw [dB_t hT], by omega, fy9 _ fun h => h⟩
    · rintro e H7 ⟨rfl, w2, w3, w4⟩ hd l7
      have fin3 : Hid _ := fun (A : Prop) (h : _ → _ → A) => h w3 w4
      clear w3 w4 k13 k23
      repeat (with_reducible first|(first|refine pI1 ?_|refine pS1 ?_);intros|refine pA1 ?_|refine pX1 ?_|refine pB1 ?_|exact True.intro)
      refine callQ_1 hd fun H9 l9 x9 => ?_
      have g9 : H9[b2]? = _ := (x9 b2 (by omega)).trans w2
      have y9 : ∀ b, b < H.length → H9[b]? = H[b]? := fun b hb => (x9 b (by omega)).trans (fin3 _ fun w3 _ => w3 b hb)
      have fy9 : Hid _ := fun (A : Prop) (h : _ → A) => h y9
      clear x9 w2 y9
      repeat (with_reducible first|(first|refine pI1 ?_|refine pS1 ?_);intros|refine pA1 ?_|refine pX1 ?_|refine pB1 ?_|exact True.intro)
      exact ⟨by rw [dB_f (fin3 _ fun _ w4 => w4)], by omega, fy9 _ fun h => h⟩
end Go.Proofs.Ytbgmbnikpjjmcaa.AM.D07
