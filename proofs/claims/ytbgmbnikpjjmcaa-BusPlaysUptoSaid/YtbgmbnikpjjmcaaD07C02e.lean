/- What the functions of chapter 2 come to: ports. -/
import Derived.Test.YtbgmbnikpjjmcaaD07C02d
set_option linter.unusedVariables false
set_option linter.unusedSimpArgs false
set_option linter.unusedSectionVars false
namespace Go.Proofs.Ytbgmbnikpjjmcaa.AM.D07
open Go Go.Proofs.Ytbgmbnikpjjmcaa.AM Go.Proofs.Ytbgmbnikpjjmcaa.AM.C02
set_option maxHeartbeats 2000000
set_option maxRecDepth 100000
attribute [local go_sem] tn_add1 tn_sub1 put_all' nums_len aop_mn aop_mx mnO_int mxO_int sub12 sub3
theorem port_at {N : Nat} {H : Heap} {c : Cfg} {h : Hd} (hc : CfgM N H c h) {i : Nat} (hi : i < c.ports.length) : ∃ la y, h.a10 = some (la, y) ∧ la < N ∧ ldnB H[la]? (y + i * 6) 6 = some (c.port (i : Nat)).cells ∧ c.port (i : Nat) ∈ c.ports := by
  obtain ⟨⟨la, y⟩, cs, e1, e2, e3, e4, -⟩ := hc.ports.at hi
  have e : c.port (i : Nat) = c.ports[i] := by simp [Cfg.port, hi]
  rw [e]
  exact ⟨la, y, e1, e2, by rw [← e4]; exact e3, List.getElem_mem hi⟩
theorem port_of {c : Cfg} {p : Pt} (h : p ∈ c.ports) : ∃ i, i < c.ports.length ∧ c.port (i : Nat) = p := by
  obtain ⟨i, hi, rfl⟩ := List.mem_iff_getElem.1 h
  exact ⟨i, hi, by simp [Cfg.port, hi]⟩
theorem sub6 (a b c d e f : Cell) : sub [a, b, c, d, e, f] 0 6 = some [a, b, c, d, e, f] := rfl
theorem rep6 (x : Cell) : List.replicate 6 x = [x, x, x, x, x, x] := rfl
attribute [local go_sem] sub6 rep6
theorem port_iff {np : Nat} {part kind dir size depth fresh d f : Int} (hd : d = if kind = 2 then max 1 (min depth 8) else 0) (hf : f = if kind = 2 then 0 else if dir = 2 then max 1 (min fresh 65535) else 0) (hk : kind = 1 ∨ kind = 2) :
    ((⟨part, kind, dir, size, depth, fresh⟩ : Pt).ok ∧ 0 ≤ part ∧ part < (np : Int)) ↔ ((0 ≤ part ∧ part ≤ (np : Int) - 1) ∧ (1 ≤ dir ∧ dir ≤ 2) ∧ (1 ≤ size ∧ size ≤ 32) ∧ depth = d ∧ fresh = f) := by
  unfold Pt.ok
  dsimp only
  rcases hk with rfl | rfl
  · rw [if_neg (by omega)] at hd hf
    split at hf <;> omega
  · rw [if_pos rfl] at hd hf
    omega
theorem s_cports {N : Nat} {H : Heap} {c : Cfg} {h : Hd} (hc : CfgM N H c h) (hN : N ≤ H.length) (hps : c.parts.length ≤ 32) : WC F fn_config_ports [.agg (c.cells h)] H fun v H' => v = .c (.bool (dB c.okPorts)) ∧ Xt H H' := by
  refine WC_start e_config_ports (by simp) ?_
  unfold c_config_ports Cfg.cells
  obtain ⟨n, hn⟩ : ∃ n, c.ports.length = n := ⟨_, rfl⟩
  obtain ⟨np, hnp⟩ : ∃ n, c.parts.length = n := ⟨_, rfl⟩
  rw [hn, hnp]
  rw [hnp] at hps
  have fin0 : Hid _ := fun (A : Prop) (h : _ → _ → _ → A) => h hc hn hnp
  clear hc hn hnp
  repeat (with_reducible first|(first|refine pI1 ?_|refine pS1 ?_);intros|refine pA1 ?_|refine pX1 ?_|refine pB1 ?_|exact True.intro)
  rename_i b1 H1 p1 g1 x1
  have fy1 : Hid _ := fun (A : Prop) (h : _ → A) => h x1
  clear x1
  by_cases hbig : 64 < (n : Int)
  · repeat (with_reducible first|(first|refine pI1 ?_|refine pS1 ?_);intros|refine pA1 ?_|refine pX1 ?_|refine pB1 ?_|exact True.intro)
    exact ⟨by rw [dB_f (fun h => by have := h.1; have := fin0 _ fun _ hn _ => hn; omega)], by omega, fun b hb => fy1 _ fun x1 => x1 b (by omega)⟩
  repeat (with_reducible first|(first|refine pI1 ?_|refine pS1 ?_);intros|refine pA1 ?_|refine pX1 ?_|refine pB1 ?_|exact True.intro)
  refine W_loop (fun m st => ∃ ρ i Hk, st = ⟨L 76 ρ, [], Hk⟩ ∧ m = n - i ∧ i ≤ n ∧ ρ 1 = .c (.ptr (some (b1, 0))) ∧ ρ 12 = .c (.sl h.a10 n h.c10 false) ∧ ρ 13 = .c (.int .i64 (n : Nat)) ∧ ρ 14 = .c (.int .i64 (i : Nat)) ∧ Xt H1 Hk ∧ ∀ j, j < i → c.okPort (c.port (j : Nat))) n ⟨_, 0, H1, rfl, rfl, by omega, zf, zf, zf, zf, ⟨Nat.le_refl _, fun _ _ => rfl⟩, fun j hj => by omega⟩ ?_
  rintro m st ⟨ρ, i, Hk, rfl, rfl, hi, e1, e12, e13, e14, ⟨lk, xk⟩, hall⟩
  unfold b_config_ports_16
  obtain ⟨o13, ho13⟩ : ∃ o, o = o_config_ports_13 := ⟨_, rfl⟩
  rw [← ho13]
  have fin1 : Hid _ := fun (A : Prop) (h : _ → _ → A) => h hall xk
  have k1 : Hk[b1]? = _ := (xk b1 (by omega)).trans g1
  clear hall xk
  by_cases hin : i < n
  · have hxt : (i : Int) < (n : Int) := by omega
    obtain ⟨la, y, ea, hla, hld, hmem⟩ := fin0 _ fun hc hn _ => port_at hc (i := i) (by omega)
    rw [← fy1 _ fun x1 => x1 la (by omega), ← fin1 _ fun _ xk => xk la (by omega)] at hld
    have hnot : ¬ c.okPort (c.port (i : Nat)) → dB c.okPorts = false := fun h => dB_f fun h' => h (h'.2 _ hmem)
    have hnext : c.okPort (c.port (i : Nat)) → ∀ j, j < i + 1 → c.okPort (c.port (j : Nat)) := fun h j hj => by
      by_cases e : j = i
      · subst e; exact h
      · exact fin1 _ fun h _ => h j (by omega)
    have hiff : c.okPort (c.port (i : Nat)) ↔ ((c.port (i : Nat)).ok ∧ 0 ≤ (c.port (i : Nat)).part ∧ (c.port (i : Nat)).part < (np : Int)) := by unfold Cfg.okPort; rw [fin0 _ fun _ _ h => h]
    rw [ea] at e12
    have fea : Hid _ := fun (A : Prop) (h : _ → A) => h ea
    clear ea hmem
    generalize c.okPort (c.port (i : Nat)) = P at *
    generalize c.port (i : Nat) = p at *
    obtain ⟨part, kind, dir, size, depth, fresh⟩ := p
    dsimp only [Pt.cells] at hld hiff
    obtain ⟨d, hd⟩ : ∃ d : Int, d = if kind = 2 then max 1 (min depth 8) else 0 := ⟨_, rfl⟩
    obtain ⟨f, hf⟩ : ∃ f : Int, f = if kind = 2 then 0 else if dir = 2 then max 1 (min fresh 65535) else 0 := ⟨_, rfl⟩
    have fin2 : Hid _ := fun (A : Prop) (h : _ → _ → _ → _ → _ → A) => h hnot hnext hiff hd hf
    clear hnot hnext hiff hd hf
    have fg : Hid _ := fun (A : Prop) (h : _ → A) => h k1
    repeat (with_reducible first|(first|refine pI1 ?_|refine pS1 ?_);intros|refine pA1 ?_|refine pX1 ?_|refine pB1 ?_|exact True.intro)
    rename_i b3 H3 p3 g3 x3 H4 l4 g4 x4
    have z : ∀ b, b < Hk.length → H4[b]? = Hk[b]? := fun b hb => by rw [x4 b (by omega), x3 b (by omega)]
    have g41 : H4[b1]? = _ := (z b1 (by omega)).trans k1
    have fz : Hid _ := fun (A : Prop) (h : _ → A) => h z
    have y4 : Xt H1 H4 := ⟨by omega, fun b hb => by rw [z b (by omega)]; exact fin1 _ fun _ xk => xk b hb⟩
    have w4 : Xt H H4 := ⟨by omega, fun b hb => by rw [y4.2 b (by omega)]; exact fy1 _ fun x1 => x1 b (by omega)⟩
    have fin3 : Hid _ := fun (A : Prop) (h : _ → _ → A) => h y4 w4
    clear x3 x4 z k1 g3 y4 w4 hld
    -- what is behind the two bounds
    have tail : ∀ ρ' : Env, ρ' 1 = .c (.ptr (some (b1, 0))) → ρ' 4 = .c (.ptr (some (b3, 0))) → ρ' 5 = .c (.int .i64 d) → ρ' 6 = .c (.int .i64 f) → ρ' 12 = .c (.sl (some (la, y)) n h.c10 false) → ρ' 13 = .c (.int .i64 (n : Nat)) → ρ' 14 = .c (.int .i64 (i : Nat)) → kind = 1 ∨ kind = 2 →
        WO F o13 (L 76 ρ') H4 fun t' H' => W F none (.cond (.t 74) (.seq (.ops o_config_ports_14) .ret) .skip) ⟨t', [], H'⟩ (blockQ 1 (thenQ F none (.ops o_config_ports_15) (loopQ (fun m st => ∃ ρ i Hk, st = ⟨L 76 ρ, [], Hk⟩ ∧ m = n - i ∧ i ≤ n ∧ ρ 1 = .c (.ptr (some (b1, 0))) ∧ ρ 12 = .c (.sl h.a10 n h.c10 false) ∧ ρ 13 = .c (.int .i64 (n : Nat)) ∧ ρ 14 = .c (.int .i64 (i : Nat)) ∧ Xt H1 Hk ∧ ∀ j, j < i → c.okPort (c.port (j : Nat))) (n - i) (blockQ 0 (thenQ F none (.seq (.ops o_config_ports_17) .ret) (callQ [(2, none)] fun v H' => v = .c (.bool (dB c.okPorts)) ∧ Xt H H')))))) := by
      intro ρ' e1 e4 e5 e6 e12 e13 e14 hk
      subst ho13
      have hpi := fin2 _ fun _ _ hiff hd hf => hiff.trans (port_iff hd hf hk)
      have fin4 : Hid _ := fun (A : Prop) (h : _ → A) => h hpi
      clear hpi hk
      by_cases h1 : 0 ≤ part ∧ part ≤ (np : Int) - 1
      case neg =>
        have hP : ¬ P := fun h => h1 (fin4 _ fun hi => (hi.1 h).1)
        repeat (with_reducible first|(first|refine pI1 ?_|refine pS1 ?_);intros|refine pA1 ?_|refine pX1 ?_|refine pB1 ?_|exact True.intro)
        refine outM_call s_within ?_
        rintro _ H4 ⟨rfl, rfl⟩
        repeat (with_reducible first|(first|refine pI1 ?_|refine pS1 ?_);intros|refine pA1 ?_|refine pX1 ?_|refine pB1 ?_|exact True.intro)
        exact ⟨by rw [fin2 _ fun hn _ _ _ _ => hn hP], fin3 _ fun _ w => w⟩
      by_cases h2 : 1 ≤ dir ∧ dir ≤ 2
      case neg =>
        have hP : ¬ P := fun h => h2 (fin4 _ fun hi => (hi.1 h).2.1)
        repeat (with_reducible first|(first|refine pI1 ?_|refine pS1 ?_);intros|refine pA1 ?_|refine pX1 ?_|refine pB1 ?_|exact True.intro)
        refine outM_call s_within ?_
        rintro _ H4 ⟨rfl, rfl⟩
        repeat (with_reducible first|(first|refine pI1 ?_|refine pS1 ?_);intros|refine pA1 ?_|refine pX1 ?_|refine pB1 ?_|exact True.intro)
        refine outM_call s_within ?_
        rintro _ H4 ⟨rfl, rfl⟩
        repeat (with_reducible first|(first|refine pI1 ?_|refine pS1 ?_);intros|refine pA1 ?_|refine pX1 ?_|refine pB1 ?_|exact True.intro)
        exact ⟨by rw [fin2 _ fun hn _ _ _ _ => hn hP], fin3 _ fun _ w => w⟩
      by_cases h3 : 1 ≤ size ∧ size ≤ 32
      case neg =>
        have hP : ¬ P := fun h => h3 (fin4 _ fun hi => (hi.1 h).2.2.1)
        repeat (with_reducible first|(first|refine pI1 ?_|refine pS1 ?_);intros|refine pA1 ?_|refine pX1 ?_|refine pB1 ?_|exact True.intro)
        refine outM_call s_within ?_
        rintro _ H4 ⟨rfl, rfl⟩
        repeat (with_reducible first|(first|refine pI1 ?_|refine pS1 ?_);intros|refine pA1 ?_|refine pX1 ?_|refine pB1 ?_|exact True.intro)
        refine outM_call s_within ?_
        rintro _ H4 ⟨rfl, rfl⟩
        repeat (with_reducible first|(first|refine pI1 ?_|refine pS1 ?_);intros|refine pA1 ?_|refine pX1 ?_|refine pB1 ?_|exact True.intro)
        refine outM_call s_within ?_
        rintro _ H4 ⟨rfl, rfl⟩
        repeat (with_reducible first|(first|refine pI1 ?_|refine pS1 ?_);intros|refine pA1 ?_|refine pX1 ?_|refine pB1 ?_|exact True.intro)
        exact ⟨by rw [fin2 _ fun hn _ _ _ _ => hn hP], fin3 _ fun _ w => w⟩
      repeat (with_reducible first|(first|refine pI1 ?_|refine pS1 ?_);intros|refine pA1 ?_|refine pX1 ?_|refine pB1 ?_|exact True.intro)
      refine outM_call s_within ?_
      rintro _ H4 ⟨rfl, rfl⟩
      repeat (with_reducible first|(first|refine pI1 ?_|refine pS1 ?_);intros|refine pA1 ?_|refine pX1 ?_|refine pB1 ?_|exact True.intro)
      refine outM_call s_within ?_
      rintro _ H4 ⟨rfl, rfl⟩
      repeat (with_reducible first|(first|refine pI1 ?_|refine pS1 ?_);intros|refine pA1 ?_|refine pX1 ?_|refine pB1 ?_|exact True.intro)
      refine outM_call s_within ?_
      rintro _ H4 ⟨rfl, rfl⟩
      by_cases h4 : depth = d
      case neg =>
        have hP : ¬ P := fun h => h4 (fin4 _ fun hi => (hi.1 h).2.2.2.1)
        repeat (with_reducible first|(first|refine pI1 ?_|refine pS1 ?_);intros|refine pA1 ?_|refine pX1 ?_|refine pB1 ?_|exact True.intro)
        exact ⟨by rw [fin2 _ fun hn _ _ _ _ => hn hP], fin3 _ fun _ w => w⟩
      by_cases h5 : fresh = f
      case neg =>
        have hP : ¬ P := fun h => h5 (fin4 _ fun hi => (hi.1 h).2.2.2.2)
        repeat (with_reducible first|(first|refine pI1 ?_|refine pS1 ?_);intros|refine pA1 ?_|refine pX1 ?_|refine pB1 ?_|exact True.intro)
        exact ⟨by rw [fin2 _ fun hn _ _ _ _ => hn hP], fin3 _ fun _ w => w⟩
      have hP : P := fin4 _ fun hi => hi.2 ⟨h1, h2, h3, h4, h5⟩
      clear fin4
      repeat (with_reducible first|(first|refine pI1 ?_|refine pS1 ?_);intros|refine pA1 ?_|refine pX1 ?_|refine pB1 ?_|exact True.intro)
      exact loopQ_n (n - (i + 1)) (by omega) ⟨_, i + 1, H4, rfl, rfl, by omega, zf, by rw [fea _ fun e => e]; simp (disch := first | with_reducible assumption | omega) only [go_sem, *, reduceCtorEq, ↓reduceIte, Nat.reduceLT, Nat.reduceBEq, Nat.reduceAdd, Nat.reduceSub, Nat.reduceMul, Nat.reduceDiv, Nat.reduceMod, Nat.reducePow, Nat.reduceEqDiff, Nat.reduceLeDiff, Int.reduceLT, Int.reduceLE, Int.reduceNeg, Int.reduceToNat, Int.reduceAdd, Int.reduceSub, Int.reduceMul, Int.reduceEq, Int.reduceNe, Int.reduceBEq, Int.reduceBNe, Int.reducePow]; first | done | rfl, zf, zf, fin3 _ fun w _ => w, fin2 _ fun _ h _ _ _ => h hP⟩
    by_cases hk2 : kind = 2
    · have hdd : (if (if 8 < depth then 8 else depth) > 1 then (if 8 < depth then 8 else depth) else 1) = d := by
        rw [fin2 _ fun _ _ _ hd _ => hd, if_pos hk2]; split <;> split <;> omega
      have hff : f = 0 := by rw [fin2 _ fun _ _ _ _ hf => hf, if_pos hk2]
      have ft : Hid _ := fun (A : Prop) (h : _ → A) => h tail
      clear tail
      repeat (with_reducible first|(first|refine pI1 ?_|refine pS1 ?_);intros|refine pA1 ?_|refine pX1 ?_|refine pB1 ?_|exact True.intro)
      exact ft _ fun tail => tail _ zf zf zf (by rw [hff]; exact zf) zf zf zf (.inr hk2)
    · by_cases hk1 : kind = 1
      · have hdd : d = 0 := by rw [fin2 _ fun _ _ _ hd _ => hd, if_neg hk2]
        by_cases hd2 : dir = 2
        · have hff : (if (if 65535 < fresh then 65535 else fresh) > 1 then (if 65535 < fresh then 65535 else fresh) else 1) = f := by
            rw [fin2 _ fun _ _ _ _ hf => hf, if_neg hk2, if_pos hd2]; split <;> split <;> omega
          have ft : Hid _ := fun (A : Prop) (h : _ → A) => h tail
          clear tail
          repeat (with_reducible first|(first|refine pI1 ?_|refine pS1 ?_);intros|refine pA1 ?_|refine pX1 ?_|refine pB1 ?_|exact True.intro)
          exact ft _ fun tail => tail _ zf zf (by rw [hdd]; exact zf) zf zf zf zf (.inl hk1)
        · have hff : f = 0 := by rw [fin2 _ fun _ _ _ _ hf => hf, if_neg hk2, if_neg hd2]
          have ft : Hid _ := fun (A : Prop) (h : _ → A) => h tail
          clear tail
          repeat (with_reducible first|(first|refine pI1 ?_|refine pS1 ?_);intros|refine pA1 ?_|refine pX1 ?_|refine pB1 ?_|exact True.intro)
          exact ft _ fun tail => tail _ zf zf (by rw [hdd]; exact zf) (by rw [hff]; exact zf) zf zf zf (.inl hk1)
      · have hP : ¬ P := fun h => by
          have hiff := fin2 _ fun _ _ hi _ _ => hi
          have := (hiff.1 h).1.1
          dsimp only at this
          omega
        clear tail
        repeat (with_reducible first|(first|refine pI1 ?_|refine pS1 ?_);intros|refine pA1 ?_|refine pX1 ?_|refine pB1 ?_|exact True.intro)
        exact ⟨by rw [fin2 _ fun hn _ _ _ _ => hn hP], fin3 _ fun _ w => w⟩
  · obtain rfl : i = n := by omega
    have hxt : ¬ (i : Int) < (i : Int) := by omega
    repeat (with_reducible first|(first|refine pI1 ?_|refine pS1 ?_);intros|refine pA1 ?_|refine pX1 ?_|refine pB1 ?_|exact True.intro)
    have hT : c.okPorts := ⟨by have := fin0 _ fun _ hn _ => hn; omega, fun p hp => by
      obtain ⟨k, hk, rfl⟩ := port_of hp
      have := fin0 _ fun _ hn _ => hn
      exact fin1 _ fun h _ => h k (by omega)⟩
    exact ⟨by rw [dB_t hT], by omega, fun b hb => by rw [fin1 _ fun _ xk => xk b (by omega)]; exact fy1 _ fun x1 => x1 b (by omega)⟩
end Go.Proofs.Ytbgmbnikpjjmcaa.AM.D07
