/- What the functions of chapter 2 come to: the check. -/
import Derived.Test.YtbgmbnikpjjmcaaD07C02i
set_option linter.unusedVariables false
set_option linter.unusedSimpArgs false
set_option linter.unusedSectionVars false
namespace Go.Proofs.Ytbgmbnikpjjmcaa.AM.D07
open Go Go.Proofs.Ytbgmbnikpjjmcaa.AM Go.Proofs.Ytbgmbnikpjjmcaa.AM.C02
set_option maxHeartbeats 2000000
set_option maxRecDepth 100000
attribute [local go_sem] tn_add1 tn_sub1 put_all' nums_len sub12
def okE (c : Cfg) (e : Int) : Prop := if e = 21 then c.okNodes else if e = 22 then c.okClock else if e = 23 then c.okParts else if e = 24 then c.okWins else if e = 25 then c.okPorts else c.okLinks
def okA (c : Cfg) (e : Int) : Prop := ∀ d, 21 ≤ d → d < e → okE c d
theorem s_fine {N : Nat} {H : Heap} {c : Cfg} {h : Hd} {e : Int} (he : 21 ≤ e ∧ e ≤ 26) (ha : okA c e) (hc : CfgM N H c h) (hN : N ≤ H.length) : WC F fn_config_fine [.c (.int .i64 e), .agg (c.cells h)] H fun v H' => v = .c (.bool (dB (okE c e))) ∧ Xt H H' := by
  refine WC_start e_config_fine (by simp) ?_
  unfold c_config_fine
  obtain ⟨C, hC⟩ : ∃ C, C = c.cells h := ⟨_, rfl⟩
  have hsub : sub C 0 12 = some C := by rw [hC]; rfl
  rw [← hC]
  have a1 : 21 < e → c.okNodes := fun h => by have := ha 21 (by omega) h; unfold okE at this; rwa [if_pos rfl] at this
  have a3 : 23 < e → c.okParts := fun h => by have := ha 23 (by omega) h; unfold okE at this; rwa [if_neg (by omega), if_neg (by omega), if_pos rfl] at this
  have a5 : 25 < e → c.okPorts := fun h => by have := ha 25 (by omega) h; unfold okE at this; rwa [if_neg (by omega), if_neg (by omega), if_neg (by omega), if_neg (by omega), if_pos rfl] at this
  have fin0 : Hid _ := fun (A : Prop) (h : _ → _ → _ → _ → _ → A) => h a1 a3 a5 hc hC
  have hcases : e = 21 ∨ e = 22 ∨ e = 23 ∨ e = 24 ∨ e = 25 ∨ e = 26 := by omega
  clear a1 a3 a5 hc ha he hC
  repeat (with_reducible first|(first|refine pI1 ?_|refine pS1 ?_);intros|refine pA1 ?_|refine pX1 ?_|refine pB1 ?_|exact True.intro)
  rename_i b1 H1 p1 g1 x1
  have hk : ∀ b, b < N → H1[b]? = H[b]? := fun b hb => x1 b (by omega)
  have fk : Hid _ := fun (A : Prop) (h : _ → _ → A) => h hk x1
  clear hk x1
  rcases hcases with rfl | rfl | rfl | rfl | rfl | rfl
  · repeat (with_reducible first|(first|refine pI1 ?_|refine pS1 ?_);intros|refine pA1 ?_|refine pX1 ?_|refine pB1 ?_|exact True.intro)
    refine fin0 _ fun a1 a3 a5 hc hC => fk _ fun hk x1 => ?_
    subst hC
    refine outM_call (s_cnodes (hc.keep (H' := H1) hk) (by omega)) ?_
    rintro _ H2 ⟨rfl, l2, x2⟩
    have fe : okE c 21 = c.okNodes := by unfold okE; rw [if_pos rfl]
    rw [fe]
    clear hc hk a1 a3 a5 fin0 fk
    repeat (with_reducible first|(first|refine pI1 ?_|refine pS1 ?_);intros|refine pA1 ?_|refine pX1 ?_|refine pB1 ?_|exact True.intro)
    exact ⟨rfl, by omega, fun b hb => by rw [x2 b (by omega), x1 b (by omega)]⟩
  · repeat (with_reducible first|(first|refine pI1 ?_|refine pS1 ?_);intros|refine pA1 ?_|refine pX1 ?_|refine pB1 ?_|exact True.intro)
    refine fin0 _ fun a1 a3 a5 hc hC => fk _ fun hk x1 => ?_
    subst hC
    refine outM_call (s_cclocks (c := c) (h := h)) ?_
    rintro _ H2 ⟨rfl, l2, x2⟩
    have fe : okE c 22 = c.okClock := by unfold okE; rw [if_neg (by omega), if_pos rfl]
    rw [fe]
    clear hc hk a1 a3 a5 fin0 fk
    repeat (with_reducible first|(first|refine pI1 ?_|refine pS1 ?_);intros|refine pA1 ?_|refine pX1 ?_|refine pB1 ?_|exact True.intro)
    exact ⟨rfl, by omega, fun b hb => by rw [x2 b (by omega), x1 b (by omega)]⟩
  · repeat (with_reducible first|(first|refine pI1 ?_|refine pS1 ?_);intros|refine pA1 ?_|refine pX1 ?_|refine pB1 ?_|exact True.intro)
    refine fin0 _ fun a1 a3 a5 hc hC => fk _ fun hk x1 => ?_
    subst hC
    have hn := a1 (by omega)
    refine outM_call (s_cparts (hc.keep (H' := H1) hk) (by omega) ⟨hn.1, hn.2.1⟩) ?_
    rintro _ H2 ⟨rfl, l2, x2⟩
    have fe : okE c 23 = c.okParts := by unfold okE; rw [if_neg (by omega), if_neg (by omega), if_pos rfl]
    rw [fe]
    clear hc hk a1 a3 a5 fin0 fk hn
    repeat (with_reducible first|(first|refine pI1 ?_|refine pS1 ?_);intros|refine pA1 ?_|refine pX1 ?_|refine pB1 ?_|exact True.intro)
    exact ⟨rfl, by omega, fun b hb => by rw [x2 b (by omega), x1 b (by omega)]⟩
  · repeat (with_reducible first|(first|refine pI1 ?_|refine pS1 ?_);intros|refine pA1 ?_|refine pX1 ?_|refine pB1 ?_|exact True.intro)
    refine fin0 _ fun a1 a3 a5 hc hC => fk _ fun hk x1 => ?_
    subst hC
    have hn := a1 (by omega)
    refine outM_call (s_cwins (hc.keep (H' := H1) hk) (by omega) ⟨hn.1, hn.2.1⟩ (a3 (by omega)).1) ?_
    rintro _ H2 ⟨rfl, l2, x2⟩
    have fe : okE c 24 = c.okWins := by unfold okE; rw [if_neg (by omega), if_neg (by omega), if_neg (by omega), if_pos rfl]
    rw [fe]
    clear hc hk a1 a3 a5 fin0 fk hn
    repeat (with_reducible first|(first|refine pI1 ?_|refine pS1 ?_);intros|refine pA1 ?_|refine pX1 ?_|refine pB1 ?_|exact True.intro)
    exact ⟨rfl, by omega, fun b hb => by rw [x2 b (by omega), x1 b (by omega)]⟩
  · repeat (with_reducible first|(first|refine pI1 ?_|refine pS1 ?_);intros|refine pA1 ?_|refine pX1 ?_|refine pB1 ?_|exact True.intro)
    refine fin0 _ fun a1 a3 a5 hc hC => fk _ fun hk x1 => ?_
    subst hC
    refine outM_call (s_cports (hc.keep (H' := H1) hk) (by omega) (a3 (by omega)).1) ?_
    rintro _ H2 ⟨rfl, l2, x2⟩
    have fe : okE c 25 = c.okPorts := by unfold okE; rw [if_neg (by omega), if_neg (by omega), if_neg (by omega), if_neg (by omega), if_pos rfl]
    rw [fe]
    clear hc hk a1 a3 a5 fin0 fk
    repeat (with_reducible first|(first|refine pI1 ?_|refine pS1 ?_);intros|refine pA1 ?_|refine pX1 ?_|refine pB1 ?_|exact True.intro)
    exact ⟨rfl, by omega, fun b hb => by rw [x2 b (by omega), x1 b (by omega)]⟩
  · repeat (with_reducible first|(first|refine pI1 ?_|refine pS1 ?_);intros|refine pA1 ?_|refine pX1 ?_|refine pB1 ?_|exact True.intro)
    refine fin0 _ fun a1 a3 a5 hc hC => fk _ fun hk x1 => ?_
    subst hC
    refine outM_call (s_clinks (hc.keep (H' := H1) hk) (by omega) (a3 (by omega)) (a5 (by omega))) ?_
    rintro _ H2 ⟨rfl, l2, x2⟩
    have fe : okE c 26 = c.okLinks := by unfold okE; rw [if_neg (by omega), if_neg (by omega), if_neg (by omega), if_neg (by omega), if_neg (by omega)]
    rw [fe]
    clear hc hk a1 a3 a5 fin0 fk
    repeat (with_reducible first|(first|refine pI1 ?_|refine pS1 ?_);intros|refine pA1 ?_|refine pX1 ?_|refine pB1 ?_|exact True.intro)
    exact ⟨rfl, by omega, fun b hb => by rw [x2 b (by omega), x1 b (by omega)]⟩
theorem check_is {c : Cfg} {e : Int} (he : 21 ≤ e ∧ e ≤ 26) (ha : okA c e) (h : ¬ okE c e) : c.check = e := by
  have k : ∀ d, 21 ≤ d → d < e → okE c d := ha
  have h1 : 21 < e → dB c.okNodes = true := fun h => dB_t (by have := k 21 (by omega) h; unfold okE at this; rwa [if_pos rfl] at this)
  have h2 : 22 < e → dB c.okClock = true := fun h => dB_t (by have := k 22 (by omega) h; unfold okE at this; rwa [if_neg (by omega), if_pos rfl] at this)
  have h3 : 23 < e → dB c.okParts = true := fun h => dB_t (by have := k 23 (by omega) h; unfold okE at this; rwa [if_neg (by omega), if_neg (by omega), if_pos rfl] at this)
  have h4 : 24 < e → dB c.okWins = true := fun h => dB_t (by have := k 24 (by omega) h; unfold okE at this; rwa [if_neg (by omega), if_neg (by omega), if_neg (by omega), if_pos rfl] at this)
  have h5 : 25 < e → dB c.okPorts = true := fun h => dB_t (by have := k 25 (by omega) h; unfold okE at this; rwa [if_neg (by omega), if_neg (by omega), if_neg (by omega), if_neg (by omega), if_pos rfl] at this)
  have hcases : e = 21 ∨ e = 22 ∨ e = 23 ∨ e = 24 ∨ e = 25 ∨ e = 26 := by omega
  unfold okE at h
  unfold Cfg.check
  rcases hcases with rfl | rfl | rfl | rfl | rfl | rfl
  · rw [if_pos rfl] at h; rw [dB_f h]; rfl
  · rw [if_neg (by omega), if_pos rfl] at h; rw [dB_f h, h1 (by omega)]; rfl
  · rw [if_neg (by omega), if_neg (by omega), if_pos rfl] at h; rw [dB_f h, h1 (by omega), h2 (by omega)]; rfl
  · rw [if_neg (by omega), if_neg (by omega), if_neg (by omega), if_pos rfl] at h; rw [dB_f h, h1 (by omega), h2 (by omega), h3 (by omega)]; rfl
  · rw [if_neg (by omega), if_neg (by omega), if_neg (by omega), if_neg (by omega), if_pos rfl] at h; rw [dB_f h, h1 (by omega), h2 (by omega), h3 (by omega), h4 (by omega)]; rfl
  · rw [if_neg (by omega), if_neg (by omega), if_neg (by omega), if_neg (by omega), if_neg (by omega)] at h; rw [dB_f h, h1 (by omega), h2 (by omega), h3 (by omega), h4 (by omega), h5 (by omega)]; rfl
theorem check_all {c : Cfg} (ha : okA c 27) : c.check = 0 := by
  have k : ∀ d, 21 ≤ d → d < 27 → okE c d := ha
  refine Cfg.check_ok.2 ⟨?_, ?_, ?_, ?_, ?_, ?_⟩
  · have := k 21 (by omega) (by omega); unfold okE at this; rwa [if_pos rfl] at this
  · have := k 22 (by omega) (by omega); unfold okE at this; rwa [if_neg (by omega), if_pos rfl] at this
  · have := k 23 (by omega) (by omega); unfold okE at this; rwa [if_neg (by omega), if_neg (by omega), if_pos rfl] at this
  · have := k 24 (by omega) (by omega); unfold okE at this; rwa [if_neg (by omega), if_neg (by omega), if_neg (by omega), if_pos rfl] at this
  · have := k 25 (by omega) (by omega); unfold okE at this; rwa [if_neg (by omega), if_neg (by omega), if_neg (by omega), if_neg (by omega), if_pos rfl] at this
  · have := k 26 (by omega) (by omega); unfold okE at this; rwa [if_neg (by omega), if_neg (by omega), if_neg (by omega), if_neg (by omega), if_neg (by omega)] at this
theorem s_Check {N : Nat} {H : Heap} {c : Cfg} {h : Hd} (hc : CfgM N H c h) (hN : N ≤ H.length) : WC F fn_config_Check [.agg (c.cells h)] H fun v H' => v = .c (.int .i64 c.check) ∧ Xt H H' := by
  refine WC_start e_config_Check (by simp) ?_
  unfold c_config_Check
  obtain ⟨C, hC⟩ : ∃ C, C = c.cells h := ⟨_, rfl⟩
  have hsub : sub C 0 12 = some C := by rw [hC]; rfl
  rw [← hC]
  have fin0 : Hid _ := fun (A : Prop) (h : _ → _ → A) => h hc hC
  clear hc hC
  repeat (with_reducible first|(first|refine pI1 ?_|refine pS1 ?_);intros|refine pA1 ?_|refine pX1 ?_|refine pB1 ?_|exact True.intro)
  rename_i b1 H1 p1 g1 x1
  refine W_loop (fun m st => ∃ ρ, ∃ k : Nat, ∃ Hk, st = ⟨L 13 ρ, [], Hk⟩ ∧ m = 6 - k ∧ k ≤ 6 ∧ ρ 1 = .c (.ptr (some (b1, 0))) ∧ ρ 3 = .c (.int .i64 (21 + k : Int)) ∧ okA c (21 + k) ∧ Xt H1 Hk) 6 ⟨_, 0, H1, rfl, rfl, by omega, zf, zf, fun d h1 h2 => by omega, Nat.le_refl _, fun _ _ => rfl⟩ ?_
  rintro m st ⟨ρ, k, Hk, rfl, rfl, hk, e1, e3, ha, lk, xk⟩
  unfold b_config_Check_6
  have k1 : Hk[b1]? = _ := (xk b1 (by omega)).trans g1
  have yk : ∀ b, b < H.length → Hk[b]? = H[b]? := fun b hb => by rw [xk b (by omega), x1 b (by omega)]
  have fy : Hid _ := fun (A : Prop) (h : _ → _ → _ → A) => h yk xk ha
  clear yk xk ha x1
  by_cases h6 : (21 + k : Int) ≤ 26
  · repeat (with_reducible first|(first|refine pI1 ?_|refine pS1 ?_);intros|refine pA1 ?_|refine pX1 ?_|refine pB1 ?_|exact True.intro)
    refine fin0 _ fun hc hC => fy _ fun yk xk ha => ?_
    subst hC
    refine outM_call (s_fine (e := 21 + k) (by omega) ha (hc.keep (H' := Hk) fun b hb => yk b (by omega)) (by omega)) ?_
    rintro _ H2 ⟨rfl, l2, x2⟩
    have fz : Hid _ := fun (A : Prop) (h : _ → A) => h x2
    clear hc yk xk ha x2
    by_cases hok : okE c (21 + k)
    · rw [dB_t hok]
      repeat (with_reducible first|(first|refine pI1 ?_|refine pS1 ?_);intros|refine pA1 ?_|refine pX1 ?_|refine pB1 ?_|exact True.intro)
      exact loopQ_n (6 - (k + 1)) (by omega) ⟨_, k + 1, H2, rfl, rfl, by omega, zf, by rw [show (21 + ((k + 1 : Nat) : Int)) = 21 + (k : Int) + 1 by omega]; simp (disch := first | with_reducible assumption | omega) only [go_sem, *, reduceCtorEq, ↓reduceIte, Nat.reduceLT, Nat.reduceBEq, Nat.reduceAdd, Nat.reduceSub, Nat.reduceMul, Nat.reduceDiv, Nat.reduceMod, Nat.reducePow, Nat.reduceEqDiff, Nat.reduceLeDiff, Int.reduceLT, Int.reduceLE, Int.reduceNeg, Int.reduceToNat, Int.reduceAdd, Int.reduceSub, Int.reduceMul, Int.reduceEq, Int.reduceNe, Int.reduceBEq, Int.reduceBNe, Int.reducePow]; first | done | rfl, fun d h1 h2 => by
        by_cases e : d = 21 + k
        · subst e; exact hok
        · exact fy _ fun _ _ ha => ha d h1 (by omega), by omega, fun b hb => by rw [fz _ fun x2 => x2 b (by omega)]; exact fy _ fun _ xk _ => xk b hb⟩
    · rw [dB_f hok]
      repeat (with_reducible first|(first|refine pI1 ?_|refine pS1 ?_);intros|refine pA1 ?_|refine pX1 ?_|refine pB1 ?_|exact True.intro)
      exact ⟨by rw [check_is (by omega) (fy _ fun _ _ ha => ha) hok], by omega, fun b hb => by rw [fz _ fun x2 => x2 b (by omega)]; exact fy _ fun yk _ _ => yk b hb⟩
  · obtain rfl : k = 6 := by omega
    repeat (with_reducible first|(first|refine pI1 ?_|refine pS1 ?_);intros|refine pA1 ?_|refine pX1 ?_|refine pB1 ?_|exact True.intro)
    exact ⟨by rw [check_all (fy _ fun _ _ ha => ha)], by omega, fy _ fun yk _ _ => yk⟩
end Go.Proofs.Ytbgmbnikpjjmcaa.AM.D07
