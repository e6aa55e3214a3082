/- What the document's functions of chapter 2 come to: clocks, partitions. -/
import Derived.Test.YtbgmbnikpjjmcaaD07C02k
set_option linter.unusedVariables false
set_option linter.unusedSimpArgs false
set_option linter.unusedSectionVars false
namespace Go.Proofs.Ytbgmbnikpjjmcaa.AM.D07
open Go Go.Proofs.Ytbgmbnikpjjmcaa.AM Go.Proofs.Ytbgmbnikpjjmcaa.AM.C02
set_option maxHeartbeats 2000000
set_option maxRecDepth 100000
attribute [local go_sem] tn_add1 tn_sub1 put_all' nums_len sub12 sub3 sub6
section
variable {N : Nat} {H : Heap} {c : Cfg} {h : Hd}
theorem s_rclock : WC F fn_rotaref02_clock [.agg (c.cells h)] H fun v H' => v = .c (.bool (dB c.okClock)) ∧ Xt H H' := by
  have hP : ∀ Hx : Heap, (0 ≤ c.drift ∧ c.drift ≤ 1048576 ∧ 0 ≤ c.reading ∧ c.reading ≤ 1048576) → _ := fun Hx h1 => s_rPrec (H := Hx) (c := c) (h := h) h1
  have hpr : c.prec = 2 * (c.drift + c.reading) + 1 := rfl
  have hok : c.okClock ↔ (0 ≤ c.drift ∧ c.drift ≤ 1048576 ∧ 0 ≤ c.reading ∧ c.reading ≤ 1048576 ∧ 2 * c.prec + c.reading ≤ c.margin ∧ c.margin ≤ 16777216 ∧ 2 * c.prec + c.reading ≤ c.bound ∧ c.bound ≤ 16777216 ∧ 1 ≤ c.rejoin ∧ c.rejoin ≤ 8 ∧ 1 ≤ c.quota ∧ c.quota ≤ 16) := Iff.rfl
  rw [dB_iff hok]
  clear hok
  unfold Cfg.cells at *
  generalize c.prec = p at *
  generalize c.drift = d at *
  generalize c.reading = r at *
  generalize c.margin = m at *
  generalize c.bound = bo at *
  generalize c.rejoin = rj at *
  generalize c.quota = q at *
  refine WC_start e_rotaref02_clock (by simp) ?_
  unfold c_rotaref02_clock
  by_cases h1 : d < 0
  · clear hP
    repeat (with_reducible first|(first|refine pI1 ?_|refine pS1 ?_);intros|refine pA1 ?_|refine pX1 ?_|refine pB1 ?_|exact True.intro)
    rename_i b1 H1 p1 g1 x1
    repeat (with_reducible first|(first|refine pI1 ?_|refine pS1 ?_);intros|refine pA1 ?_|refine pX1 ?_|refine pB1 ?_|exact True.intro)
    exact ⟨by rw [dB_f (by omega)], by omega, fun b hb => x1 b (by omega)⟩
  by_cases h2 : 1048576 < d
  · clear hP
    repeat (with_reducible first|(first|refine pI1 ?_|refine pS1 ?_);intros|refine pA1 ?_|refine pX1 ?_|refine pB1 ?_|exact True.intro)
    rename_i b1 H1 p1 g1 x1
    repeat (with_reducible first|(first|refine pI1 ?_|refine pS1 ?_);intros|refine pA1 ?_|refine pX1 ?_|refine pB1 ?_|exact True.intro)
    exact ⟨by rw [dB_f (by omega)], by omega, fun b hb => x1 b (by omega)⟩
  by_cases h3 : r < 0
  · clear hP
    repeat (with_reducible first|(first|refine pI1 ?_|refine pS1 ?_);intros|refine pA1 ?_|refine pX1 ?_|refine pB1 ?_|exact True.intro)
    rename_i b1 H1 p1 g1 x1
    repeat (with_reducible first|(first|refine pI1 ?_|refine pS1 ?_);intros|refine pA1 ?_|refine pX1 ?_|refine pB1 ?_|exact True.intro)
    exact ⟨by rw [dB_f (by omega)], by omega, fun b hb => x1 b (by omega)⟩
  by_cases h4 : 1048576 < r
  · clear hP
    repeat (with_reducible first|(first|refine pI1 ?_|refine pS1 ?_);intros|refine pA1 ?_|refine pX1 ?_|refine pB1 ?_|exact True.intro)
    rename_i b1 H1 p1 g1 x1
    repeat (with_reducible first|(first|refine pI1 ?_|refine pS1 ?_);intros|refine pA1 ?_|refine pX1 ?_|refine pB1 ?_|exact True.intro)
    exact ⟨by rw [dB_f (by omega)], by omega, fun b hb => x1 b (by omega)⟩
  have hP := fun Hx => hP Hx ⟨by omega, by omega, by omega, by omega⟩
  have hpb : 1 ≤ p ∧ p ≤ 4194305 := by omega
  obtain ⟨p1, p2⟩ := hpb
  have fp : Hid _ := fun (A : Prop) (h : _ → _ → A) => h hP hpr
  clear hP hpr
  repeat (with_reducible first|(first|refine pI1 ?_|refine pS1 ?_);intros|refine pA1 ?_|refine pX1 ?_|refine pB1 ?_|exact True.intro)
  rename_i b1 H1 q1 g1 x1
  have fx : Hid _ := fun (A : Prop) (h : _ → A) => h x1
  clear x1
  repeat (with_reducible first|(first|refine pI1 ?_|refine pS1 ?_);intros|refine pA1 ?_|refine pX1 ?_|refine pB1 ?_|exact True.intro)
  refine outM_call (fp _ fun hP _ => hP H1) ?_
  rintro _ H2 ⟨rfl, l2, x2⟩
  have g2 : H2[b1]? = _ := (x2 b1 (by omega)).trans g1
  have fx2 : Hid _ := fun (A : Prop) (h : _ → A) => h x2
  clear x2 g1
  repeat (with_reducible first|(first|refine pI1 ?_|refine pS1 ?_);intros|refine pA1 ?_|refine pX1 ?_|refine pB1 ?_|exact True.intro)
  refine outM_call (fp _ fun hP _ => hP H2) ?_
  rintro _ H3 ⟨rfl, l3, x3⟩
  have g3 : H3[b1]? = _ := (x3 b1 (by omega)).trans g2
  have y3 : ∀ b, b < H.length → H3[b]? = H[b]? := fun b hb => by rw [x3 b (by omega), fx2 _ fun x2 => x2 b (by omega)]; exact fx _ fun x1 => x1 b (by omega)
  have fy : Hid _ := fun (A : Prop) (h : _ → A) => h y3
  clear x3 g2 y3 fx fx2
  obtain ⟨least, hle⟩ : ∃ least, p + p + r = least := ⟨_, rfl⟩
  by_cases m1 : least ≤ m
  case neg =>
    have m1' : ¬ m ≥ least := m1
    repeat (with_reducible first|(first|refine pI1 ?_|refine pS1 ?_);intros|refine pA1 ?_|refine pX1 ?_|refine pB1 ?_|exact True.intro)
    exact ⟨by rw [dB_f (by omega)], by omega, fy _ fun y => y⟩
  by_cases m2 : m ≤ 16777216
  case neg =>
    repeat (with_reducible first|(first|refine pI1 ?_|refine pS1 ?_);intros|refine pA1 ?_|refine pX1 ?_|refine pB1 ?_|exact True.intro)
    exact ⟨by rw [dB_f (by omega)], by omega, fy _ fun y => y⟩
  by_cases m3 : least ≤ bo
  case neg =>
    repeat (with_reducible first|(first|refine pI1 ?_|refine pS1 ?_);intros|refine pA1 ?_|refine pX1 ?_|refine pB1 ?_|exact True.intro)
    exact ⟨by rw [dB_f (by omega)], by omega, fy _ fun y => y⟩
  by_cases m4 : bo ≤ 16777216
  case neg =>
    repeat (with_reducible first|(first|refine pI1 ?_|refine pS1 ?_);intros|refine pA1 ?_|refine pX1 ?_|refine pB1 ?_|exact True.intro)
    exact ⟨by rw [dB_f (by omega)], by omega, fy _ fun y => y⟩
  by_cases m5 : 1 ≤ rj
  case neg =>
    repeat (with_reducible first|(first|refine pI1 ?_|refine pS1 ?_);intros|refine pA1 ?_|refine pX1 ?_|refine pB1 ?_|exact True.intro)
    exact ⟨by rw [dB_f (by omega)], by omega, fy _ fun y => y⟩
  by_cases m6 : rj ≤ 8
  case neg =>
    repeat (with_reducible first|(first|refine pI1 ?_|refine pS1 ?_);intros|refine pA1 ?_|refine pX1 ?_|refine pB1 ?_|exact True.intro)
    exact ⟨by rw [dB_f (by omega)], by omega, fy _ fun y => y⟩
  by_cases m7 : 1 ≤ q
  case neg =>
    repeat (with_reducible first|(first|refine pI1 ?_|refine pS1 ?_);intros|refine pA1 ?_|refine pX1 ?_|refine pB1 ?_|exact True.intro)
    exact ⟨by rw [dB_f (by omega)], by omega, fy _ fun y => y⟩
  by_cases m8 : q ≤ 16
  case neg =>
    repeat (with_reducible first|(first|refine pI1 ?_|refine pS1 ?_);intros|refine pA1 ?_|refine pX1 ?_|refine pB1 ?_|exact True.intro)
    exact ⟨by rw [dB_f (by omega)], by omega, fy _ fun y => y⟩
  repeat (with_reducible first|(first|refine pI1 ?_|refine pS1 ?_);intros|refine pA1 ?_|refine pX1 ?_|refine pB1 ?_|exact True.intro)
  exact ⟨by rw [dB_t (by omega)], by omega, fy _ fun y => y⟩
end
end Go.Proofs.Ytbgmbnikpjjmcaa.AM.D07
