/- What the functions that this law reaches come to, each walked once, and the plain laws that stand behind them. -/
import Derived.Test.YteiiddefimpplaaB2
import Derived.Test.YteiiddefimpplaaA4
set_option linter.unusedVariables false
set_option linter.unusedSimpArgs false
set_option linter.unusedSectionVars false
namespace Go.Proofs.Yteiiddefimpplaa.AM.D08
open Go Go.Proofs.Yteiiddefimpplaa.AM Go.Proofs.Yteiiddefimpplaa.AM.C02
set_option maxHeartbeats 2000000
set_option maxRecDepth 100000
attribute [local go_sem] tn_add1 tn_sub1 put_all' nums_len sub12
def okE (c : Cfg) (e : Int) : Prop := if e = 21 then c.okNodes else if e = 22 then c.okClock else if e = 23 then c.okParts else if e = 24 then c.okWins else if e = 25 then c.okPorts else c.okLinks
def okA (c : Cfg) (e : Int) : Prop := ∀ d, 21 ≤ d → d < e → okE c d
theorem s_fine {N : Nat} {H : Heap} {c : Cfg} {h : Hd} {e : Int} (he : 21 ≤ e ∧ e ≤ 26) (ha : okA c e) (hc : CfgM N H c h) (hN : N ≤ H.length) : WC F fn_config_fine [.c (.int .i64 e), .agg (c.cells h)] H fun v H' => v = .c (.bool (dB (okE c e))) ∧ Xt H H' := by
  refine WC_start e_config_fine (by simp) ?_
  unfold c_config_fine
  obtain ⟨C, hC⟩ : ∃ C, C = c.cells h := ⟨_, rfl⟩
  have hsub : sub C 0 12 = some C := by rw [hC]; rfl
  rw [← hC]
  have a1 : 21 < e → c.okNodes := fun h => by have := ha 21 (by omega) h; unfold okE at this; rwa [if_pos rfl] at this
  have a3 : 23 < e → c.okParts := fun h => by have := ha 23 (by omega) h; unfold okE at this; rwa [if_neg (by omega), if_neg (by omega), if_pos rfl] at this
  have a5 : 25 < e → c.okPorts := fun h => by have := ha 25 (by omega) h; unfold okE at this; rwa [if_neg (by omega), if_neg (by omega), if_neg (by omega), if_neg (by omega), if_pos rfl] at this
  have fin0 : Hid _ := fun (A : Prop) (h : _ → _ → _ → _ → _ → A) => h a1 a3 a5 hc hC
  have hcases : e = 21 ∨ e = 22 ∨ e = 23 ∨ e = 24 ∨ e = 25 ∨ e = 26 := by omega
  clear a1 a3 a5 hc ha he hC
  repeat (with_reducible first|(first|refine pI1 ?_|refine pS1 ?_);intros|refine pA1 ?_|refine pX1 ?_|refine pB1 ?_|exact True.intro)
  rename_i b1 H1 p1 g1 x1
  have hk : ∀ b, b < N → H1[b]? = H[b]? := fun b hb => x1 b (by omega)
  have fk : Hid _ := fun (A : Prop) (h : _ → _ → A) => h hk x1
  clear hk x1
  rcases hcases with rfl | rfl | rfl | rfl | rfl | rfl
  · repeat (with_reducible first|(first|refine pI1 ?_|refine pS1 ?_);intros|refine pA1 ?_|refine pX1 ?_|refine pB1 ?_|exact True.intro)
    refine fin0 _ fun a1 a3 a5 hc hC => fk _ fun hk x1 => ?_
    subst hC
    refine outM_call (s_cnodes (hc.keep (H' := H1) hk) (by omega)) ?_
    rintro _ H2 ⟨rfl, l2, x2⟩
    have fe : okE c 21 = c.okNodes := by unfold okE; rw [if_pos rfl]
    rw [fe]
    clear hc hk a1 a3 a5 fin0 fk
    repeat (with_reducible first|(first|refine pI1 ?_|refine pS1 ?_);intros|refine pA1 ?_|refine pX1 ?_|refine pB1 ?_|exact True.intro)
    exact ⟨rfl, by omega, fun b hb => by rw [x2 b (by omega), x1 b (by omega)]⟩
  · repeat (with_reducible first|(first|refine pI1 ?_|refine pS1 ?_);intros|refine pA1 ?_|refine pX1 ?_|refine pB1 ?_|exact True.intro)
    refine fin0 _ fun a1 a3 a5 hc hC => fk _ fun hk x1 => ?_
    subst hC
    refine outM_call (s_cclocks (c := c) (h := h)) ?_
    rintro _ H2 ⟨rfl, l2, x2⟩
    have fe : okE c 22 = c.okClock := by unfold okE; rw [if_neg (by omega), if_pos rfl]
    rw [fe]
    clear hc hk a1 a3 a5 fin0 fk
    repeat (with_reducible first|(first|refine pI1 ?_|refine pS1 ?_);intros|refine pA1 ?_|refine pX1 ?_|refine pB1 ?_|exact True.intro)
    exact ⟨rfl, by omega, fun b hb => by rw [x2 b (by omega), x1 b (by omega)]⟩
  · repeat (with_reducible first|(first|refine pI1 ?_|refine pS1 ?_);intros|refine pA1 ?_|refine pX1 ?_|refine pB1 ?_|exact True.intro)
    refine fin0 _ fun a1 a3 a5 hc hC => fk _ fun hk x1 => ?_
    subst hC
    have hn := a1 (by omega)
    refine outM_call (s_cparts (hc.keep (H' := H1) hk) (by omega) ⟨hn.1, hn.2.1⟩) ?_
    rintro _ H2 ⟨rfl, l2, x2⟩
    have fe : okE c 23 = c.okParts := by unfold okE; rw [if_neg (by omega), if_neg (by omega), if_pos rfl]
    rw [fe]
    clear hc hk a1 a3 a5 fin0 fk hn
    repeat (with_reducible first|(first|refine pI1 ?_|refine pS1 ?_);intros|refine pA1 ?_|refine pX1 ?_|refine pB1 ?_|exact True.intro)
    exact ⟨rfl, by omega, fun b hb => by rw [x2 b (by omega), x1 b (by omega)]⟩
  · repeat (with_reducible first|(first|refine pI1 ?_|refine pS1 ?_);intros|refine pA1 ?_|refine pX1 ?_|refine pB1 ?_|exact True.intro)
    refine fin0 _ fun a1 a3 a5 hc hC => fk _ fun hk x1 => ?_
    subst hC
    have hn := a1 (by omega)
    refine outM_call (s_cwins (hc.keep (H' := H1) hk) (by omega) ⟨hn.1, hn.2.1⟩ (a3 (by omega)).1) ?_
    rintro _ H2 ⟨rfl, l2, x2⟩
    have fe : okE c 24 = c.okWins := by unfold okE; rw [if_neg (by omega), if_neg (by omega), if_neg (by omega), if_pos rfl]
    rw [fe]
    clear hc hk a1 a3 a5 fin0 fk hn
    repeat (with_reducible first|(first|refine pI1 ?_|refine pS1 ?_);intros|refine pA1 ?_|refine pX1 ?_|refine pB1 ?_|exact True.intro)
    exact ⟨rfl, by omega, fun b hb => by rw [x2 b (by omega), x1 b (by omega)]⟩
  · repeat (with_reducible first|(first|refine pI1 ?_|refine pS1 ?_);intros|refine pA1 ?_|refine pX1 ?_|refine pB1 ?_|exact True.intro)
    refine fin0 _ fun a1 a3 a5 hc hC => fk _ fun hk x1 => ?_
    subst hC
    refine outM_call (s_cports (hc.keep (H' := H1) hk) (by omega) (a3 (by omega)).1) ?_
    rintro _ H2 ⟨rfl, l2, x2⟩
    have fe : okE c 25 = c.okPorts := by unfold okE; rw [if_neg (by omega), if_neg (by omega), if_neg (by omega), if_neg (by omega), if_pos rfl]
    rw [fe]
    clear hc hk a1 a3 a5 fin0 fk
    repeat (with_reducible first|(first|refine pI1 ?_|refine pS1 ?_);intros|refine pA1 ?_|refine pX1 ?_|refine pB1 ?_|exact True.intro)
    exact ⟨rfl, by omega, fun b hb => by rw [x2 b (by omega), x1 b (by omega)]⟩
  · repeat (with_reducible first|(first|refine pI1 ?_|refine pS1 ?_);intros|refine pA1 ?_|refine pX1 ?_|refine pB1 ?_|exact True.intro)
    refine fin0 _ fun a1 a3 a5 hc hC => fk _ fun hk x1 => ?_
    subst hC
    refine outM_call (s_clinks (hc.keep (H' := H1) hk) (by omega) (a3 (by omega)) (a5 (by omega))) ?_
    rintro _ H2 ⟨rfl, l2, x2⟩
    have fe : okE c 26 = c.okLinks := by unfold okE; rw [if_neg (by omega), if_neg (by omega), if_neg (by omega), if_neg (by omega), if_neg (by omega)]
    rw [fe]
    clear hc hk a1 a3 a5 fin0 fk
    repeat (with_reducible first|(first|refine pI1 ?_|refine pS1 ?_);intros|refine pA1 ?_|refine pX1 ?_|refine pB1 ?_|exact True.intro)
    exact ⟨rfl, by omega, fun b hb => by rw [x2 b (by omega), x1 b (by omega)]⟩
theorem check_is {c : Cfg} {e : Int} (he : 21 ≤ e ∧ e ≤ 26) (ha : okA c e) (h : ¬ okE c e) : c.check = e := by
  have k : ∀ d, 21 ≤ d → d < e → okE c d := ha
  have h1 : 21 < e → dB c.okNodes = true := fun h => dB_t (by have := k 21 (by omega) h; unfold okE at this; rwa [if_pos rfl] at this)
  have h2 : 22 < e → dB c.okClock = true := fun h => dB_t (by have := k 22 (by omega) h; unfold okE at this; rwa [if_neg (by omega), if_pos rfl] at this)
  have h3 : 23 < e → dB c.okParts = true := fun h => dB_t (by have := k 23 (by omega) h; unfold okE at this; rwa [if_neg (by omega), if_neg (by omega), if_pos rfl] at this)
  have h4 : 24 < e → dB c.okWins = true := fun h => dB_t (by have := k 24 (by omega) h; unfold okE at this; rwa [if_neg (by omega), if_neg (by omega), if_neg (by omega), if_pos rfl] at this)
  have h5 : 25 < e → dB c.okPorts = true := fun h => dB_t (by have := k 25 (by omega) h; unfold okE at this; rwa [if_neg (by omega), if_neg (by omega), if_neg (by omega), if_neg (by omega), if_pos rfl] at this)
  have hcases : e = 21 ∨ e = 22 ∨ e = 23 ∨ e = 24 ∨ e = 25 ∨ e = 26 := by omega
  unfold okE at h
  unfold Cfg.check
  rcases hcases with rfl | rfl | rfl | rfl | rfl | rfl
  · rw [if_pos rfl] at h; rw [dB_f h]; rfl
  · rw [if_neg (by omega), if_pos rfl] at h; rw [dB_f h, h1 (by omega)]; rfl
  · rw [if_neg (by omega), if_neg (by omega), if_pos rfl] at h; rw [dB_f h, h1 (by omega), h2 (by omega)]; rfl
  · rw [if_neg (by omega), if_neg (by omega), if_neg (by omega), if_pos rfl] at h; rw [dB_f h, h1 (by omega), h2 (by omega), h3 (by omega)]; rfl
  · rw [if_neg (by omega), if_neg (by omega), if_neg (by omega), if_neg (by omega), if_pos rfl] at h; rw [dB_f h, h1 (by omega), h2 (by omega), h3 (by omega), h4 (by omega)]; rfl
  · rw [if_neg (by omega), if_neg (by omega), if_neg (by omega), if_neg (by omega), if_neg (by omega)] at h; rw [dB_f h, h1 (by omega), h2 (by omega), h3 (by omega), h4 (by omega), h5 (by omega)]; rfl
theorem check_all {c : Cfg} (ha : okA c 27) : c.check = 0 := by
  have k : ∀ d, 21 ≤ d → d < 27 → okE c d := ha
  refine Cfg.check_ok.2 ⟨?_, ?_, ?_, ?_, ?_, ?_⟩
  · have := k 21 (by omega) (by omega); unfold okE at this; rwa [if_pos rfl] at this
  · have := k 22 (by omega) (by omega); unfold okE at this; rwa [if_neg (by omega), if_pos rfl] at this
  · have := k 23 (by omega) (by omega); unfold okE at this; rwa [if_neg (by omega), if_neg (by omega), if_pos rfl] at this
  · have := k 24 (by omega) (by omega); unfold okE at this; rwa [if_neg (by omega), if_neg (by omega), if_neg (by omega), if_pos rfl] at this
  · have := k 25 (by omega) (by omega); unfold okE at this; rwa [if_neg (by omega), if_neg (by omega), if_neg (by omega), if_neg (by omega), if_pos rfl] at this
  · have := k 26 (by omega) (by omega); unfold okE at this; rwa [if_neg (by omega), if_neg (by omega), if_neg (by omega), if_neg (by omega), if_neg (by omega)] at this
theorem s_Check {N : Nat} {H : Heap} {c : Cfg} {h : Hd} (hc : CfgM N H c h) (hN : N ≤ H.length) : WC F fn_config_Check [.agg (c.cells h)] H fun v H' => v = .c (.int .i64 c.check) ∧ Xt H H' := by
  refine WC_start e_config_Check (by simp) ?_
  unfold c_config_Check
  obtain ⟨C, hC⟩ : ∃ C, C = c.cells h := ⟨_, rfl⟩
  have hsub : sub C 0 12 = some C := by rw [hC]; rfl
  rw [← hC]
  have fin0 : Hid _ := fun (A : Prop) (h : _ → _ → A) => h hc hC
  clear hc hC
  repeat (with_reducible first|(first|refine pI1 ?_|refine pS1 ?_);intros|refine pA1 ?_|refine pX1 ?_|refine pB1 ?_|exact True.intro)
  rename_i b1 H1 p1 g1 x1
  refine W_loop (fun m st => ∃ ρ, ∃ k : Nat, ∃ Hk, st = ⟨L 13 ρ, [], Hk⟩ ∧ m = 6 - k ∧ k ≤ 6 ∧ ρ 1 = .c (.ptr (some (b1, 0))) ∧ ρ 3 = .c (.int .i64 (21 + k : Int)) ∧ okA c (21 + k) ∧ Xt H1 Hk) 6 ⟨_, 0, H1, rfl, rfl, by omega, zf, zf, fun d h1 h2 => by omega, Nat.le_refl _, fun _ _ => rfl⟩ ?_
  rintro m st ⟨ρ, k, Hk, rfl, rfl, hk, e1, e3, ha, lk, xk⟩
  unfold b_config_Check_6
  have k1 : Hk[b1]? = _ := (xk b1 (by omega)).trans g1
  have yk : ∀ b, b < H.length → Hk[b]? = H[b]? := fun b hb => by rw [xk b (by omega), x1 b (by omega)]
  have fy : Hid _ := fun (A : Prop) (h : _ → _ → _ → A) => h yk xk ha
  clear yk xk ha x1
  by_cases h6 : (21 + k : Int) ≤ 26
  · repeat (with_reducible first|(first|refine pI1 ?_|refine pS1 ?_);intros|refine pA1 ?_|refine pX1 ?_|refine pB1 ?_|exact True.intro)
    refine fin0 _ fun hc hC => fy _ fun yk xk ha => ?_
    subst hC
    refine outM_call (s_fine (e := 21 + k) (by omega) ha (hc.keep (H' := Hk) fun b hb => yk b (by omega)) (by omega)) ?_
    rintro _ H2 ⟨rfl, l2, x2⟩
    have fz : Hid _ := fun (A : Prop) (h : _ → A) => h x2
    clear hc yk xk ha x2
    by_cases hok : okE c (21 + k)
    · rw [dB_t hok]
      repeat (with_reducible first|(first|refine pI1 ?_|refine pS1 ?_);intros|refine pA1 ?_|refine pX1 ?_|refine pB1 ?_|exact True.intro)
      exact loopQ_n (6 - (k + 1)) (by omega) ⟨_, k + 1, H2, rfl, rfl, by omega, zf, by rw [show (21 + ((k + 1 : Nat) : Int)) = 21 + (k : Int) + 1 by omega]; simp (disch := first | with_reducible assumption | omega) only [go_sem, *, reduceCtorEq, ↓reduceIte, Nat.reduceLT, Nat.reduceBEq, Nat.reduceAdd, Nat.reduceSub, Nat.reduceMul, Nat.reduceDiv, Nat.reduceMod, Nat.reducePow, Nat.reduceEqDiff, Nat.reduceLeDiff, Int.reduceLT, Int.reduceLE, Int.reduceNeg, Int.reduceToNat, Int.reduceAdd, Int.reduceSub, Int.reduceMul, Int.reduceEq, Int.reduceNe, Int.reduceBEq, Int.reduceBNe, Int.reducePow]; first | done | rfl, fun d h1 h2 => by
        by_cases e : d = 21 + k
        · subst e; exact hok
        · exact fy _ fun _ _ ha => ha d h1 (by omega), by omega, fun b hb => by rw [fz _ fun x2 => x2 b (by omega)]; exact fy _ fun _ xk _ => xk b hb⟩
    · rw [dB_f hok]
      repeat (with_reducible first|(first|refine pI1 ?_|refine pS1 ?_);intros|refine pA1 ?_|refine pX1 ?_|refine pB1 ?_|exact True.intro)
      exact ⟨by rw [check_is (by omega) (fy _ fun _ _ ha => ha) hok], by omega, fun b hb => by rw [fz _ fun x2 => x2 b (by omega)]; exact fy _ fun yk _ _ => yk b hb⟩
  · obtain rfl : k = 6 := by omega
    repeat (with_reducible first|(first|refine pI1 ?_|refine pS1 ?_);intros|refine pA1 ?_|refine pX1 ?_|refine pB1 ?_|exact True.intro)
    exact ⟨by rw [check_all (fy _ fun _ _ ha => ha)], by omega, fy _ fun yk _ _ => yk⟩
end Go.Proofs.Yteiiddefimpplaa.AM.D08

namespace Go.Proofs.Yteiiddefimpplaa.AM.D08
open Go Go.Proofs.Yteiiddefimpplaa.AM Go.Proofs.Yteiiddefimpplaa.AM.C02
set_option maxHeartbeats 2000000
set_option maxRecDepth 100000
attribute [local go_sem] tn_add1 tn_sub1 put_all' nums_len sub12 sub3 sub6
theorem cn_take {ws : List Int} {x : Int} {i : Nat} (h : i < ws.length) : cn x (ws.take (i + 1)) = cn x (ws.take i) + if gn ws i = x then 1 else 0 := by
  have e : gn ws i = ws[i] := by simp [gn, h]
  rw [List.take_succ_eq_append_getElem h, cn_app, cn_one, e]
theorem s_rcount {H : Heap} {n c : Nat} {a : Option Ad} {o : Bool} {ws : List Int} {x : Int} (hn : n ≤ 10000000) (hl : ws.length = n) (hs : Sl H 1 a n (nums ws)) :
    WC F fn_rotaref02_count [.c (.sl a n c o), .c (.int .i64 x)] H fun v H' => v = .c (.int .i64 (cn x ws : Nat)) ∧ H' = H := by
  refine WC_start e_rotaref02_count (by simp) ?_
  unfold c_rotaref02_count
  have fin0 : Hid _ := fun (A : Prop) (h : _ → _ → A) => h hs hl
  have hcl : ∀ i, cn x (ws.take i) ≤ n := fun i => by
    have h1 : cn x (ws.take i) ≤ (ws.take i).length := List.countP_le_length
    rw [List.length_take] at h1; omega
  have fcl : Hid _ := fun (A : Prop) (h : _ → A) => h hcl
  clear hs hl hcl
  repeat (with_reducible first|(first|refine pI1 ?_|refine pS1 ?_);intros|refine pA1 ?_|refine pX1 ?_|refine pB1 ?_|exact True.intro)
  refine W_loop (fun m st => ∃ ρ, ∃ i : Nat, st = ⟨L 22 ρ, [], H⟩ ∧ m = n - i ∧ i ≤ n ∧ ρ 0 = .c (.sl a n c o) ∧ ρ 1 = .c (.int .i64 x) ∧ ρ 5 = .c (.int .i64 (cn x (ws.take i) : Nat)) ∧ ρ 6 = .c (.int .i64 (i : Nat))) n ⟨_, 0, rfl, by omega, by omega, zf, zf, zf, zf⟩ ?_
  rintro m st ⟨ρ, i, rfl, rfl, hi, e0, e1, e5, e6⟩
  unfold b_rotaref02_count_7
  by_cases hin : i < n
  · obtain ⟨⟨lb, y⟩, ea⟩ := fin0 _ fun hs _ => hs.is_some (by omega)
    have hld := fin0 _ fun hs hl => Sl.gn (by rw [ea] at hs; exact hs) hl hin
    dsimp only at hld
    have hct := fin0 _ fun _ hl => cn_take (x := x) (by rw [hl]; exact hin)
    have hc1 := fcl _ fun h => h i
    rw [ea] at e0
    have hxt : (i : Int) < (n : Int) := by omega
    generalize cn x (ws.take i) = k at *
    generalize gn ws i = u at *
    have f1 : Hid _ := fun (A : Prop) (h : _ → _ → A) => h hct ea
    clear hct ea
    by_cases h1 : u = x
    · have hk : cn x (ws.take (i + 1)) = k + 1 := f1 _ fun h _ => by rw [h, if_pos h1]
      have fk : Hid _ := fun (A : Prop) (h : _ → A) => h hk
      clear hk
      subst h1
      repeat (with_reducible first|(first|refine pI1 ?_|refine pS1 ?_);intros|refine pA1 ?_|refine pX1 ?_|refine pB1 ?_|exact True.intro)
      exact loopQ_n (n - (i + 1)) (by omega) ⟨_, i + 1, rfl, by omega, by omega, by rw [f1 _ fun _ h => h]; exact zf, zf, by rw [fk _ fun h => h]; exact zf, zf⟩
    · have hk : cn x (ws.take (i + 1)) = k := f1 _ fun h _ => by rw [h, if_neg h1]; rfl
      have fk : Hid _ := fun (A : Prop) (h : _ → A) => h hk
      clear hk
      repeat (with_reducible first|(first|refine pI1 ?_|refine pS1 ?_);intros|refine pA1 ?_|refine pX1 ?_|refine pB1 ?_|exact True.intro)
      exact loopQ_n (n - (i + 1)) (by omega) ⟨_, i + 1, rfl, by omega, by omega, by rw [f1 _ fun _ h => h]; exact zf, zf, by rw [fk _ fun h => h]; exact zf, zf⟩
  · obtain rfl : i = n := by omega
    have e : ws.take i = ws := fin0 _ fun _ hl => by rw [← hl]; exact List.take_length
    rw [e] at e5
    have hxt : ¬ (i : Int) < (i : Int) := by omega
    clear fcl fin0 e
    repeat (with_reducible first|(first|refine pI1 ?_|refine pS1 ?_);intros|refine pA1 ?_|refine pX1 ?_|refine pB1 ?_|exact True.intro)
    exact ⟨rfl, rfl⟩
theorem s_rmeet {H : Heap} {a b c d : Nat} (hb : b ≤ 1000000) : WC F fn_rotaref02_meet [.c (.int .i64 (a : Nat)), .c (.int .i64 (b : Nat)), .c (.int .i64 (c : Nat)), .c (.int .i64 (d : Nat))] H fun v H' => v = .c (.bool (dB (Cfg.meets a b c d))) ∧ H' = H := by
  refine WC_start e_rotaref02_meet (by simp) ?_
  unfold c_rotaref02_meet
  have hmt : Cfg.meets a b c d ↔ max (a : Int) c < min (b : Int) d := Iff.rfl
  have fm : Hid _ := fun (A : Prop) (h : _ → A) => h hmt
  clear hmt
  repeat (with_reducible first|(first|refine pI1 ?_|refine pS1 ?_);intros|refine pA1 ?_|refine pX1 ?_|refine pB1 ?_|exact True.intro)
  refine W_loop (fun m st => ∃ ρ, ∃ i : Nat, st = ⟨L 24 ρ, [], H⟩ ∧ m = b - i ∧ a ≤ i ∧ ρ 0 = .c (.int .i64 (a : Nat)) ∧ ρ 1 = .c (.int .i64 (b : Nat)) ∧ ρ 2 = .c (.int .i64 (c : Nat)) ∧ ρ 3 = .c (.int .i64 (d : Nat)) ∧ ρ 9 = .c (.int .i64 (i : Nat)) ∧ ∀ j, a ≤ j → j < i → j < b → ¬ (c ≤ j ∧ j < d)) (b - a) ⟨_, a, rfl, by omega, by omega, zf, zf, zf, zf, zf, fun j h1 h2 => by omega⟩ ?_
  rintro m st ⟨ρ, i, rfl, rfl, hi, e0, e1, e2, e3, e9, hall⟩
  unfold b_rotaref02_meet_6
  have fa : Hid _ := fun (A : Prop) (h : _ → A) => h hall
  clear hall
  by_cases hin : i < b
  · have hxt : (i : Int) < (b : Int) := by omega
    by_cases h1 : c ≤ i
    · by_cases h2 : i < d
      · have e : dB (Cfg.meets a b c d) = true := dB_t (fm _ fun h => h.2 (by omega))
        rw [e]
        repeat (with_reducible first|(first|refine pI1 ?_|refine pS1 ?_);intros|refine pA1 ?_|refine pX1 ?_|refine pB1 ?_|exact True.intro)
        exact ⟨rfl, rfl⟩
      · repeat (with_reducible first|(first|refine pI1 ?_|refine pS1 ?_);intros|refine pA1 ?_|refine pX1 ?_|refine pB1 ?_|exact True.intro)
        exact loopQ_n (b - (i + 1)) (by omega) ⟨_, i + 1, rfl, by omega, by omega, zf, zf, zf, zf, zf, fun j q1 q2 q3 => by
          by_cases e : j = i
          · subst e; omega
          · exact fa _ fun h => h j q1 (by omega) q3⟩
    · repeat (with_reducible first|(first|refine pI1 ?_|refine pS1 ?_);intros|refine pA1 ?_|refine pX1 ?_|refine pB1 ?_|exact True.intro)
      exact loopQ_n (b - (i + 1)) (by omega) ⟨_, i + 1, rfl, by omega, by omega, zf, zf, zf, zf, zf, fun j q1 q2 q3 => by
        by_cases e : j = i
        · subst e; omega
        · exact fa _ fun h => h j q1 (by omega) q3⟩
  · have hxt : ¬ (i : Int) < (b : Int) := by omega
    have e : dB (Cfg.meets a b c d) = false := dB_f (fm _ fun hm h => by
      have h := hm.1 h
      exact fa _ fun hall => hall (max a c) (by omega) (by omega) (by omega) ⟨by omega, by omega⟩)
    rw [e]
    repeat (with_reducible first|(first|refine pI1 ?_|refine pS1 ?_);intros|refine pA1 ?_|refine pX1 ?_|refine pB1 ?_|exact True.intro)
    exact ⟨rfl, rfl⟩
section
variable {N : Nat} {H : Heap} {c : Cfg} {h : Hd}
theorem s_rPrec (hd : 0 ≤ c.drift ∧ c.drift ≤ 1048576 ∧ 0 ≤ c.reading ∧ c.reading ≤ 1048576) : WC F fn_rotaref02_Precision [.agg (c.cells h)] H fun v H' => v = .c (.int .i64 c.prec) ∧ Xt H H' := by
  refine WC_start e_rotaref02_Precision (by simp) ?_
  unfold c_rotaref02_Precision Cfg.prec Cfg.cells
  obtain ⟨d1, d2, d3, d4⟩ := hd
  repeat (with_reducible first|(first|refine pI1 ?_|refine pS1 ?_);intros|refine pA1 ?_|refine pX1 ?_|refine pB1 ?_|exact True.intro)
  rename_i b1 H1 p1 g1 x1
  repeat (with_reducible first|(first|refine pI1 ?_|refine pS1 ?_);intros|refine pA1 ?_|refine pX1 ?_|refine pB1 ?_|exact True.intro)
  exact ⟨rfl, by omega, fun b hb => x1 b (by omega)⟩
theorem s_ris {n : Int} : WC F fn_rotaref02_is [.agg (c.cells h), .c (.int .i64 n)] H fun v H' => v = .c (.bool (decide (0 ≤ n ∧ n < (c.ports.length : Int)))) ∧ Xt H H' := by
  refine WC_start e_rotaref02_is (by simp) ?_
  unfold c_rotaref02_is Cfg.cells
  obtain ⟨k, hk⟩ : ∃ k, c.ports.length = k := ⟨_, rfl⟩
  rw [hk]
  clear hk
  by_cases h1 : 0 ≤ n
  · by_cases h2 : n < k
    · repeat (with_reducible first|(first|refine pI1 ?_|refine pS1 ?_);intros|refine pA1 ?_|refine pX1 ?_|refine pB1 ?_|exact True.intro)
      rename_i b1 H1 p1 g1 x1
      repeat (with_reducible first|(first|refine pI1 ?_|refine pS1 ?_);intros|refine pA1 ?_|refine pX1 ?_|refine pB1 ?_|exact True.intro)
      exact ⟨by simp [h1, h2], by omega, fun b hb => x1 b (by omega)⟩
    · repeat (with_reducible first|(first|refine pI1 ?_|refine pS1 ?_);intros|refine pA1 ?_|refine pX1 ?_|refine pB1 ?_|exact True.intro)
      rename_i b1 H1 p1 g1 x1
      repeat (with_reducible first|(first|refine pI1 ?_|refine pS1 ?_);intros|refine pA1 ?_|refine pX1 ?_|refine pB1 ?_|exact True.intro)
      exact ⟨by simp [h2], by omega, fun b hb => x1 b (by omega)⟩
  · repeat (with_reducible first|(first|refine pI1 ?_|refine pS1 ?_);intros|refine pA1 ?_|refine pX1 ?_|refine pB1 ?_|exact True.intro)
    rename_i b1 H1 p1 g1 x1
    repeat (with_reducible first|(first|refine pI1 ?_|refine pS1 ?_);intros|refine pA1 ?_|refine pX1 ?_|refine pB1 ?_|exact True.intro)
    exact ⟨by simp [h1], by omega, fun b hb => x1 b (by omega)⟩
theorem s_rnodes (hc : CfgM N H c h) (hN : N ≤ H.length) (hw : c.owners.length ≤ 10000000) : WC F fn_rotaref02_nodes [.agg (c.cells h)] H fun v H' => v = .c (.bool (dB c.okNodes)) ∧ Xt H H' := by
  refine WC_start e_rotaref02_nodes (by simp) ?_
  unfold c_rotaref02_nodes Cfg.cells
  obtain ⟨n, hn⟩ : ∃ n, c.owners.length = n := ⟨_, rfl⟩
  rw [hn] at hw ⊢
  obtain ⟨nd, hnd⟩ : ∃ nd, c.nodes = nd := ⟨_, rfl⟩
  rw [hnd]
  have ho := hc.owners
  rw [hn] at ho
  have hlt : ∀ b x, h.a1 = some (b, x) → b < H.length := fun b x e => by have := hc.ownersN b x e; omega
  have hok : c.okNodes ↔ (4 ≤ nd ∧ nd ≤ 16 ∧ (n : Int) = nd ∧ ∀ k : Nat, (k : Int) < nd → (k : Int) ∈ c.owners) := by unfold Cfg.okNodes; rw [hnd, hn]
  have fin0 : Hid _ := fun (A : Prop) (h : _ → _ → _ → _ → A) => h ho hn hlt hok
  clear hnd hc hok ho hn hlt
  by_cases h1 : nd < 4
  · have e : dB c.okNodes = false := dB_f fun h => fin0 _ fun _ _ _ hok => by have := (hok.1 h).1; omega
    rw [e]
    repeat (with_reducible first|(first|refine pI1 ?_|refine pS1 ?_);intros|refine pA1 ?_|refine pX1 ?_|refine pB1 ?_|exact True.intro)
    rename_i b1 H1 p1 g1 x1
    repeat (with_reducible first|(first|refine pI1 ?_|refine pS1 ?_);intros|refine pA1 ?_|refine pX1 ?_|refine pB1 ?_|exact True.intro)
    exact ⟨rfl, by omega, fun b hb => x1 b (by omega)⟩
  by_cases h2 : 16 < nd
  · have e : dB c.okNodes = false := dB_f fun h => fin0 _ fun _ _ _ hok => by have := (hok.1 h).2.1; omega
    rw [e]
    repeat (with_reducible first|(first|refine pI1 ?_|refine pS1 ?_);intros|refine pA1 ?_|refine pX1 ?_|refine pB1 ?_|exact True.intro)
    rename_i b1 H1 p1 g1 x1
    repeat (with_reducible first|(first|refine pI1 ?_|refine pS1 ?_);intros|refine pA1 ?_|refine pX1 ?_|refine pB1 ?_|exact True.intro)
    exact ⟨rfl, by omega, fun b hb => x1 b (by omega)⟩
  by_cases h3 : (n : Int) = nd
  case neg =>
    have e : dB c.okNodes = false := dB_f fun h => fin0 _ fun _ _ _ hok => h3 (hok.1 h).2.2.1
    rw [e]
    repeat (with_reducible first|(first|refine pI1 ?_|refine pS1 ?_);intros|refine pA1 ?_|refine pX1 ?_|refine pB1 ?_|exact True.intro)
    rename_i b1 H1 p1 g1 x1
    repeat (with_reducible first|(first|refine pI1 ?_|refine pS1 ?_);intros|refine pA1 ?_|refine pX1 ?_|refine pB1 ?_|exact True.intro)
    exact ⟨rfl, by omega, fun b hb => x1 b (by omega)⟩
  subst h3
  repeat (with_reducible first|(first|refine pI1 ?_|refine pS1 ?_);intros|refine pA1 ?_|refine pX1 ?_|refine pB1 ?_|exact True.intro)
  rename_i b1 H1 p1 g1 x1
  have ho1 : Sl H1 1 h.a1 n (nums c.owners) := fin0 _ fun ho _ hlt _ => ho.keep fun b x e => x1 b (by have := hlt b x e; omega)
  have fx : Hid _ := fun (A : Prop) (h : _ → _ → A) => h x1 ho1
  clear x1 ho1
  repeat (with_reducible first|(first|refine pI1 ?_|refine pS1 ?_);intros|refine pA1 ?_|refine pX1 ?_|refine pB1 ?_|exact True.intro)
  refine W_loop (fun m st => ∃ ρ, ∃ i : Nat, st = ⟨L 31 ρ, [], H1⟩ ∧ m = n - i ∧ i ≤ n ∧ ρ 1 = .c (.ptr (some (b1, 0))) ∧ ρ 3 = .c (.int .i64 (i : Nat)) ∧ ∀ j : Nat, j < i → cn (j : Int) c.owners = 1) n ⟨_, 0, rfl, by omega, by omega, zf, zf, fun j hj => by omega⟩ ?_
  rintro m st ⟨ρ, i, rfl, rfl, hi, e1, e3, hall⟩
  unfold b_rotaref02_nodes_8
  have fa : Hid _ := fun (A : Prop) (h : _ → A) => h hall
  clear hall
  by_cases hin : i < n
  · have hxt : (i : Int) < (n : Int) := by omega
    have hcnt := fx _ fun _ ho1 => fin0 _ fun _ hn _ _ => s_rcount (c := h.c1) (o := false) (x := (i : Nat)) hw hn ho1
    have hyes : cn (i : Int) c.owners = 1 → ∀ j : Nat, j < i + 1 → cn (j : Int) c.owners = 1 := fun h1 j hj => by
      by_cases e : j = i
      · subst e; exact h1
      · exact fa _ fun hall => hall j (by omega)
    have hno : cn (i : Int) c.owners ≠ 1 → dB c.okNodes = false := fun hne => dB_f fun h => fin0 _ fun _ hn _ hok => by
      obtain ⟨q1, q2, q3, q4⟩ := hok.1 h
      exact hne (once hn (fun k hk => q4 k (by omega)) i hin)
    have hkb : cn (i : Int) c.owners ≤ n := fin0 _ fun _ hn _ _ => by rw [← hn]; exact List.countP_le_length
    generalize cn (i : Int) c.owners = k at *
    have fy : Hid _ := fun (A : Prop) (h : _ → _ → A) => h hyes hno
    clear hyes hno
    repeat (with_reducible first|(first|refine pI1 ?_|refine pS1 ?_);intros|refine pA1 ?_|refine pX1 ?_|refine pB1 ?_|exact True.intro)
    refine outM_call hcnt ?_
    rintro _ H1 ⟨rfl, rfl⟩
    clear hcnt
    by_cases hk : k = 1
    · have hk' := fy _ fun hy _ => hy hk
      have fk : Hid _ := fun (A : Prop) (h : _ → A) => h hk'
      clear hk'
      subst hk
      repeat (with_reducible first|(first|refine pI1 ?_|refine pS1 ?_);intros|refine pA1 ?_|refine pX1 ?_|refine pB1 ?_|exact True.intro)
      exact loopQ_n (n - (i + 1)) (by omega) ⟨_, i + 1, rfl, by omega, by omega, zf, zf, fk _ fun h => h⟩
    · have hk' : ¬ (k : Int) = 1 := by omega
      have e := fy _ fun _ hno => hno hk
      rw [e]
      repeat (with_reducible first|(first|refine pI1 ?_|refine pS1 ?_);intros|refine pA1 ?_|refine pX1 ?_|refine pB1 ?_|exact True.intro)
      exact ⟨rfl, by omega, fx _ fun x1 _ b hb => x1 b (by omega)⟩
  · obtain rfl : i = n := by omega
    have hxt : ¬ (i : Int) < (i : Int) := by omega
    have e : dB c.okNodes = true := dB_t (fin0 _ fun _ hn _ hok => hok.2 ⟨by omega, by omega, rfl, fun k hk => cn_pos.1 (by have := fa _ fun hall => hall k (by omega); omega)⟩)
    rw [e]
    repeat (with_reducible first|(first|refine pI1 ?_|refine pS1 ?_);intros|refine pA1 ?_|refine pX1 ?_|refine pB1 ?_|exact True.intro)
    exact ⟨rfl, by omega, fx _ fun x1 _ b hb => x1 b (by omega)⟩
end
end Go.Proofs.Yteiiddefimpplaa.AM.D08

namespace Go.Proofs.Yteiiddefimpplaa.AM.D08
open Go Go.Proofs.Yteiiddefimpplaa.AM Go.Proofs.Yteiiddefimpplaa.AM.C02
set_option maxHeartbeats 2000000
set_option maxRecDepth 100000
attribute [local go_sem] tn_add1 tn_sub1 put_all' nums_len sub12 sub3 sub6
section
variable {N : Nat} {H : Heap} {c : Cfg} {h : Hd}
theorem s_rclock : WC F fn_rotaref02_clock [.agg (c.cells h)] H fun v H' => v = .c (.bool (dB c.okClock)) ∧ Xt H H' := by
  have hP : ∀ Hx : Heap, (0 ≤ c.drift ∧ c.drift ≤ 1048576 ∧ 0 ≤ c.reading ∧ c.reading ≤ 1048576) → _ := fun Hx h1 => s_rPrec (H := Hx) (c := c) (h := h) h1
  have hpr : c.prec = 2 * (c.drift + c.reading) + 1 := rfl
  have hok : c.okClock ↔ (0 ≤ c.drift ∧ c.drift ≤ 1048576 ∧ 0 ≤ c.reading ∧ c.reading ≤ 1048576 ∧ 2 * c.prec + c.reading ≤ c.margin ∧ c.margin ≤ 16777216 ∧ 2 * c.prec + c.reading ≤ c.bound ∧ c.bound ≤ 16777216 ∧ 1 ≤ c.rejoin ∧ c.rejoin ≤ 8 ∧ 1 ≤ c.quota ∧ c.quota ≤ 16) := Iff.rfl
  rw [dB_iff hok]
  clear hok
  unfold Cfg.cells at *
  generalize c.prec = p at *
  generalize c.drift = d at *
  generalize c.reading = r at *
  generalize c.margin = m at *
  generalize c.bound = bo at *
  generalize c.rejoin = rj at *
  generalize c.quota = q at *
  refine WC_start e_rotaref02_clock (by simp) ?_
  unfold c_rotaref02_clock
  by_cases h1 : d < 0
  · clear hP
    repeat (with_reducible first|(first|refine pI1 ?_|refine pS1 ?_);intros|refine pA1 ?_|refine pX1 ?_|refine pB1 ?_|exact True.intro)
    rename_i b1 H1 p1 g1 x1
    repeat (with_reducible first|(first|refine pI1 ?_|refine pS1 ?_);intros|refine pA1 ?_|refine pX1 ?_|refine pB1 ?_|exact True.intro)
    exact ⟨by rw [dB_f (by omega)], by omega, fun b hb => x1 b (by omega)⟩
  by_cases h2 : 1048576 < d
  · clear hP
    repeat (with_reducible first|(first|refine pI1 ?_|refine pS1 ?_);intros|refine pA1 ?_|refine pX1 ?_|refine pB1 ?_|exact True.intro)
    rename_i b1 H1 p1 g1 x1
    repeat (with_reducible first|(first|refine pI1 ?_|refine pS1 ?_);intros|refine pA1 ?_|refine pX1 ?_|refine pB1 ?_|exact True.intro)
    exact ⟨by rw [dB_f (by omega)], by omega, fun b hb => x1 b (by omega)⟩
  by_cases h3 : r < 0
  · clear hP
    repeat (with_reducible first|(first|refine pI1 ?_|refine pS1 ?_);intros|refine pA1 ?_|refine pX1 ?_|refine pB1 ?_|exact True.intro)
    rename_i b1 H1 p1 g1 x1
    repeat (with_reducible first|(first|refine pI1 ?_|refine pS1 ?_);intros|refine pA1 ?_|refine pX1 ?_|refine pB1 ?_|exact True.intro)
    exact ⟨by rw [dB_f (by omega)], by omega, fun b hb => x1 b (by omega)⟩
  by_cases h4 : 1048576 < r
  · clear hP
    repeat (with_reducible first|(first|refine pI1 ?_|refine pS1 ?_);intros|refine pA1 ?_|refine pX1 ?_|refine pB1 ?_|exact True.intro)
    rename_i b1 H1 p1 g1 x1
    repeat (with_reducible first|(first|refine pI1 ?_|refine pS1 ?_);intros|refine pA1 ?_|refine pX1 ?_|refine pB1 ?_|exact True.intro)
    exact ⟨by rw [dB_f (by omega)], by omega, fun b hb => x1 b (by omega)⟩
  have hP := fun Hx => hP Hx ⟨by omega, by omega, by omega, by omega⟩
  have hpb : 1 ≤ p ∧ p ≤ 4194305 := by omega
  obtain ⟨p1, p2⟩ := hpb
  have fp : Hid _ := fun (A : Prop) (h : _ → _ → A) => h hP hpr
  clear hP hpr
  repeat (with_reducible first|(first|refine pI1 ?_|refine pS1 ?_);intros|refine pA1 ?_|refine pX1 ?_|refine pB1 ?_|exact True.intro)
  rename_i b1 H1 q1 g1 x1
  have fx : Hid _ := fun (A : Prop) (h : _ → A) => h x1
  clear x1
  repeat (with_reducible first|(first|refine pI1 ?_|refine pS1 ?_);intros|refine pA1 ?_|refine pX1 ?_|refine pB1 ?_|exact True.intro)
  refine outM_call (fp _ fun hP _ => hP H1) ?_
  rintro _ H2 ⟨rfl, l2, x2⟩
  have g2 : H2[b1]? = _ := (x2 b1 (by omega)).trans g1
  have fx2 : Hid _ := fun (A : Prop) (h : _ → A) => h x2
  clear x2 g1
  repeat (with_reducible first|(first|refine pI1 ?_|refine pS1 ?_);intros|refine pA1 ?_|refine pX1 ?_|refine pB1 ?_|exact True.intro)
  refine outM_call (fp _ fun hP _ => hP H2) ?_
  rintro _ H3 ⟨rfl, l3, x3⟩
  have g3 : H3[b1]? = _ := (x3 b1 (by omega)).trans g2
  have y3 : ∀ b, b < H.length → H3[b]? = H[b]? := fun b hb => by rw [x3 b (by omega), fx2 _ fun x2 => x2 b (by omega)]; exact fx _ fun x1 => x1 b (by omega)
  have fy : Hid _ := fun (A : Prop) (h : _ → A) => h y3
  clear x3 g2 y3 fx fx2
  obtain ⟨least, hle⟩ : ∃ least, p + p + r = least := ⟨_, rfl⟩
  by_cases m1 : least ≤ m
  case neg =>
    have m1' : ¬ m ≥ least := m1
    repeat (with_reducible first|(first|refine pI1 ?_|refine pS1 ?_);intros|refine pA1 ?_|refine pX1 ?_|refine pB1 ?_|exact True.intro)
    exact ⟨by rw [dB_f (by omega)], by omega, fy _ fun y => y⟩
  by_cases m2 : m ≤ 16777216
  case neg =>
    repeat (with_reducible first|(first|refine pI1 ?_|refine pS1 ?_);intros|refine pA1 ?_|refine pX1 ?_|refine pB1 ?_|exact True.intro)
    exact ⟨by rw [dB_f (by omega)], by omega, fy _ fun y => y⟩
  by_cases m3 : least ≤ bo
  case neg =>
    repeat (with_reducible first|(first|refine pI1 ?_|refine pS1 ?_);intros|refine pA1 ?_|refine pX1 ?_|refine pB1 ?_|exact True.intro)
    exact ⟨by rw [dB_f (by omega)], by omega, fy _ fun y => y⟩
  by_cases m4 : bo ≤ 16777216
  case neg =>
    repeat (with_reducible first|(first|refine pI1 ?_|refine pS1 ?_);intros|refine pA1 ?_|refine pX1 ?_|refine pB1 ?_|exact True.intro)
    exact ⟨by rw [dB_f (by omega)], by omega, fy _ fun y => y⟩
  by_cases m5 : 1 ≤ rj
  case neg =>
    repeat (with_reducible first|(first|refine pI1 ?_|refine pS1 ?_);intros|refine pA1 ?_|refine pX1 ?_|refine pB1 ?_|exact True.intro)
    exact ⟨by rw [dB_f (by omega)], by omega, fy _ fun y => y⟩
  by_cases m6 : rj ≤ 8
  case neg =>
    repeat (with_reducible first|(first|refine pI1 ?_|refine pS1 ?_);intros|refine pA1 ?_|refine pX1 ?_|refine pB1 ?_|exact True.intro)
    exact ⟨by rw [dB_f (by omega)], by omega, fy _ fun y => y⟩
  by_cases m7 : 1 ≤ q
  case neg =>
    repeat (with_reducible first|(first|refine pI1 ?_|refine pS1 ?_);intros|refine pA1 ?_|refine pX1 ?_|refine pB1 ?_|exact True.intro)
    exact ⟨by rw [dB_f (by omega)], by omega, fy _ fun y => y⟩
  by_cases m8 : q ≤ 16
  case neg =>
    repeat (with_reducible first|(first|refine pI1 ?_|refine pS1 ?_);intros|refine pA1 ?_|refine pX1 ?_|refine pB1 ?_|exact True.intro)
    exact ⟨by rw [dB_f (by omega)], by omega, fy _ fun y => y⟩
  repeat (with_reducible first|(first|refine pI1 ?_|refine pS1 ?_);intros|refine pA1 ?_|refine pX1 ?_|refine pB1 ?_|exact True.intro)
  exact ⟨by rw [dB_t (by omega)], by omega, fy _ fun y => y⟩
end
end Go.Proofs.Yteiiddefimpplaa.AM.D08

namespace Go.Proofs.Yteiiddefimpplaa.AM.D08
open Go Go.Proofs.Yteiiddefimpplaa.AM Go.Proofs.Yteiiddefimpplaa.AM.C02
set_option maxHeartbeats 2000000
set_option maxRecDepth 100000
attribute [local go_sem] tn_add1 tn_sub1 put_all' nums_len sub12 sub3 sub6
section
variable {N : Nat} {H : Heap} {c : Cfg} {h : Hd}
theorem s_rparts (hc : CfgM N H c h) (hN : N ≤ H.length) (hnd : 4 ≤ c.nodes ∧ c.nodes ≤ 16) : WC F fn_rotaref02_parts [.agg (c.cells h)] H fun v H' => v = .c (.bool (dB c.okParts)) ∧ Xt H H' := by
  refine WC_start e_rotaref02_parts (by simp) ?_
  unfold c_rotaref02_parts Cfg.cells
  obtain ⟨n, hn⟩ : ∃ n, c.parts.length = n := ⟨_, rfl⟩
  rw [hn]
  obtain ⟨n1, n2⟩ := hnd
  obtain ⟨nd, hnd⟩ : ∃ nd, c.nodes = nd := ⟨_, rfl⟩
  rw [hnd] at n1 n2 ⊢
  have fin0 : Hid _ := fun (A : Prop) (h : _ → _ → _ → A) => h hc hn hnd
  clear hc hn hnd
  by_cases hbig : 32 < n
  · have e : dB c.okParts = false := dB_f fun h => fin0 _ fun _ hn _ => by have := h.1; omega
    rw [e]
    repeat (with_reducible first|(first|refine pI1 ?_|refine pS1 ?_);intros|refine pA1 ?_|refine pX1 ?_|refine pB1 ?_|exact True.intro)
    rename_i b1 H1 p1 g1 x1
    repeat (with_reducible first|(first|refine pI1 ?_|refine pS1 ?_);intros|refine pA1 ?_|refine pX1 ?_|refine pB1 ?_|exact True.intro)
    exact ⟨rfl, by omega, fun b hb => x1 b (by omega)⟩
  repeat (with_reducible first|(first|refine pI1 ?_|refine pS1 ?_);intros|refine pA1 ?_|refine pX1 ?_|refine pB1 ?_|exact True.intro)
  rename_i b1 H1 p1 g1 x1
  have fx : Hid _ := fun (A : Prop) (h : _ → A) => h x1
  clear x1
  repeat (with_reducible first|(first|refine pI1 ?_|refine pS1 ?_);intros|refine pA1 ?_|refine pX1 ?_|refine pB1 ?_|exact True.intro)
  refine W_loop (fun m st => ∃ ρ, ∃ i : Nat, ∃ Hk, st = ⟨L 90 ρ, [], Hk⟩ ∧ m = n - i ∧ i ≤ n ∧ ρ 1 = .c (.ptr (some (b1, 0))) ∧ ρ 3 = .c (.int .i64 (i : Nat)) ∧ H1.length ≤ Hk.length ∧ Hid ((∀ d, d < H1.length → Hk[d]? = H1[d]?) ∧ ∀ j, j < i → c.okPart (c.part (j : Nat)))) n ⟨_, 0, H1, rfl, rfl, by omega, zf, zf, Nat.le_refl _, fun _ _ => rfl, fun j hj => by omega⟩ ?_
  rintro m st ⟨ρ, i, Hk, rfl, rfl, hi, e1, e3, lk, hall⟩
  unfold b_rotaref02_parts_9
  have k1 : Hk[b1]? = _ := (hall.1 b1 (by omega)).trans g1
  by_cases hin : i < n
  · have hxt : (i : Int) < (n : Int) := by omega
    obtain ⟨la, y, ea, hla, hld, hmem⟩ := fin0 _ fun hc hn _ => part_at hc (i := i) (by omega)
    have yk : ∀ b, b < H.length → Hk[b]? = H[b]? := fun b hb => (hall.1 b (by omega)).trans (fx _ fun x1 => x1 b (by omega))
    rw [← yk la (by omega)] at hld
    have hokp : c.okPart (c.part (i : Nat)) ↔ (0 ≤ (c.part (i : Nat)).node ∧ (c.part (i : Nat)).node ≤ nd - 1 ∧ 0 ≤ (c.part (i : Nat)).lo ∧ (c.part (i : Nat)).lo ≤ (c.part (i : Nat)).hi ∧ (c.part (i : Nat)).hi ≤ 256) := fin0 _ fun _ _ hnd => by rw [← hnd]; exact Iff.rfl
    have hnot : ¬ c.okPart (c.part (i : Nat)) → dB c.okParts = false := fun h => dB_f fun h' => h (h'.2.1 _ hmem)
    have hnext : c.okPart (c.part (i : Nat)) → ∀ j, j < i + 1 → c.okPart (c.part (j : Nat)) := fun h j hj => by
      by_cases e : j = i
      · subst e; exact h
      · exact hall.2 j (by omega)
    generalize c.okPart (c.part (i : Nat)) = P at *
    generalize c.part (i : Nat) = p at *
    obtain ⟨pn, lo, hi_⟩ := p
    dsimp only [Pa.cells] at hld hokp
    have fin2 : Hid _ := fun (A : Prop) (h : _ → _ → _ → _ → _ → A) => h hnot hnext hall yk hokp
    clear hnot hnext hmem hall yk hokp
    have hout : ¬ (0 ≤ pn ∧ pn ≤ nd - 1 ∧ 0 ≤ lo ∧ lo ≤ hi_ ∧ hi_ ≤ 256) → dB c.okParts = false := fun h => fin2 _ fun hnot _ _ _ hokp => hnot fun hp => h (hokp.1 hp)
    have fo : Hid _ := fun (A : Prop) (h : _ → A) => h hout
    clear hout
    rw [ea] at k1
    have fea : Hid _ := fun (A : Prop) (h : _ → A) => h ea
    clear ea
    have hend : ∀ H', Hk.length ≤ H'.length → (∀ b, b < Hk.length → H'[b]? = Hk[b]?) → Xt H H' := fun H' l x => ⟨by omega, fun b hb => by rw [x b (by omega)]; exact fin2 _ fun _ _ _ yk _ => yk b hb⟩
    have fe : Hid _ := fun (A : Prop) (h : _ → A) => h hend
    clear hend
    by_cases c1 : pn < 0
    · have e := fo _ fun h => h (by omega)
      rw [e]
      repeat (with_reducible first|(first|refine pI1 ?_|refine pS1 ?_);intros|refine pA1 ?_|refine pX1 ?_|refine pB1 ?_|exact True.intro)
      rename_i b3 H3 p3 g3 x3 H4 l4 g4 x4
      repeat (with_reducible first|(first|refine pI1 ?_|refine pS1 ?_);intros|refine pA1 ?_|refine pX1 ?_|refine pB1 ?_|exact True.intro)
      exact ⟨rfl, fe _ fun h => h _ (by omega) fun b hb => by rw [x4 b (by omega), x3 b (by omega)]⟩
    by_cases c2 : nd ≤ pn
    · have e := fo _ fun h => h (by omega)
      rw [e]
      repeat (with_reducible first|(first|refine pI1 ?_|refine pS1 ?_);intros|refine pA1 ?_|refine pX1 ?_|refine pB1 ?_|exact True.intro)
      rename_i b3 H3 p3 g3 x3 H4 l4 g4 x4
      have k1' := (x4 b1 (by omega)).trans ((x3 b1 (by omega)).trans k1)
      repeat (with_reducible first|(first|refine pI1 ?_|refine pS1 ?_);intros|refine pA1 ?_|refine pX1 ?_|refine pB1 ?_|exact True.intro)
      exact ⟨rfl, fe _ fun h => h _ (by omega) fun b hb => by rw [x4 b (by omega), x3 b (by omega)]⟩
    by_cases c3 : lo < 0
    · have e := fo _ fun h => h (by omega)
      rw [e]
      repeat (with_reducible first|(first|refine pI1 ?_|refine pS1 ?_);intros|refine pA1 ?_|refine pX1 ?_|refine pB1 ?_|exact True.intro)
      rename_i b3 H3 p3 g3 x3 H4 l4 g4 x4
      have k1' := (x4 b1 (by omega)).trans ((x3 b1 (by omega)).trans k1)
      repeat (with_reducible first|(first|refine pI1 ?_|refine pS1 ?_);intros|refine pA1 ?_|refine pX1 ?_|refine pB1 ?_|exact True.intro)
      exact ⟨rfl, fe _ fun h => h _ (by omega) fun b hb => by rw [x4 b (by omega), x3 b (by omega)]⟩
    by_cases c4 : hi_ < lo
    · have e := fo _ fun h => h (by omega)
      rw [e]
      repeat (with_reducible first|(first|refine pI1 ?_|refine pS1 ?_);intros|refine pA1 ?_|refine pX1 ?_|refine pB1 ?_|exact True.intro)
      rename_i b3 H3 p3 g3 x3 H4 l4 g4 x4
      have k1' := (x4 b1 (by omega)).trans ((x3 b1 (by omega)).trans k1)
      repeat (with_reducible first|(first|refine pI1 ?_|refine pS1 ?_);intros|refine pA1 ?_|refine pX1 ?_|refine pB1 ?_|exact True.intro)
      exact ⟨rfl, fe _ fun h => h _ (by omega) fun b hb => by rw [x4 b (by omega), x3 b (by omega)]⟩
    by_cases c5 : 256 < hi_
    · have e := fo _ fun h => h (by omega)
      rw [e]
      repeat (with_reducible first|(first|refine pI1 ?_|refine pS1 ?_);intros|refine pA1 ?_|refine pX1 ?_|refine pB1 ?_|exact True.intro)
      rename_i b3 H3 p3 g3 x3 H4 l4 g4 x4
      have k1' := (x4 b1 (by omega)).trans ((x3 b1 (by omega)).trans k1)
      repeat (with_reducible first|(first|refine pI1 ?_|refine pS1 ?_);intros|refine pA1 ?_|refine pX1 ?_|refine pB1 ?_|exact True.intro)
      exact ⟨rfl, fe _ fun h => h _ (by omega) fun b hb => by rw [x4 b (by omega), x3 b (by omega)]⟩
    repeat (with_reducible first|(first|refine pI1 ?_|refine pS1 ?_);intros|refine pA1 ?_|refine pX1 ?_|refine pB1 ?_|exact True.intro)
    rename_i b3 H3 p3 g3 x3 H4 l4 g4 x4
    have k1' := (x4 b1 (by omega)).trans ((x3 b1 (by omega)).trans k1)
    repeat (with_reducible first|(first|refine pI1 ?_|refine pS1 ?_);intros|refine pA1 ?_|refine pX1 ?_|refine pB1 ?_|exact True.intro)
    exact loopQ_n (n - (i + 1)) (by omega) ⟨_, i + 1, H4, rfl, rfl, by omega, zf, zf, by omega, fin2 _ fun _ hnext hall _ hokp => ⟨fun d hd => by rw [x4 d (by omega), x3 d (by omega)]; exact hall.1 d hd, hnext (hokp.2 (by omega))⟩⟩
  obtain rfl : i = n := by omega
  have hxt : ¬ (i : Int) < (i : Int) := by omega
  have f1 : Hid _ := fun (A : Prop) (h : _ → A) => h hall
  clear hall g1
  repeat (with_reducible first|(first|refine pI1 ?_|refine pS1 ?_);intros|refine pA1 ?_|refine pX1 ?_|refine pB1 ?_|exact True.intro)
  refine W_loop (fun m st => ∃ ρ, ∃ k : Nat, ∃ Hl, st = ⟨L 90 ρ, [], Hl⟩ ∧ m = i - k ∧ k ≤ i ∧ ρ 1 = .c (.ptr (some (b1, 0))) ∧ ρ 5 = .c (.int .i64 (k : Nat)) ∧ Hk.length ≤ Hl.length ∧ Hid ((∀ d, d < Hk.length → Hl[d]? = Hk[d]?) ∧ ∀ j l, l < j → j < k → c.apartP l j)) i ⟨_, 0, Hk, rfl, rfl, by omega, zf, zf, Nat.le_refl _, fun _ _ => rfl, fun j l hl hj => by omega⟩ ?_
  clear e1 e3
  rintro m st ⟨ρ, k, Hl, rfl, rfl, hk, e1, e5, ll, hap⟩
  unfold b_rotaref02_parts_21
  have k2 : Hl[b1]? = _ := (hap.1 b1 (by omega)).trans k1
  by_cases hkn : k < i
  · have hxt : (k : Int) < (i : Int) := by omega
    have f2 : Hid _ := fun (A : Prop) (h : _ → A) => h hap
    clear hap k1
    repeat (with_reducible first|(first|refine pI1 ?_|refine pS1 ?_);intros|refine pA1 ?_|refine pX1 ?_|refine pB1 ?_|exact True.intro)
    refine W_loop (fun m st => ∃ ρ, ∃ l : Nat, ∃ Hm, st = ⟨L 90 ρ, [], Hm⟩ ∧ m = k - l ∧ l ≤ k ∧ ρ 1 = .c (.ptr (some (b1, 0))) ∧ ρ 5 = .c (.int .i64 (k : Nat)) ∧ ρ 6 = .c (.int .i64 (l : Nat)) ∧ Hl.length ≤ Hm.length ∧ Hid ((∀ d, d < Hl.length → Hm[d]? = Hl[d]?) ∧ ∀ j, j < l → c.apartP j k)) k ⟨_, 0, Hl, rfl, rfl, by omega, zf, zf, zf, Nat.le_refl _, fun _ _ => rfl, fun j hj => by omega⟩ ?_
    clear e1 e5
    rintro m st ⟨ρ, l, Hm, rfl, rfl, hl, e1, e5, e6, lm, hal⟩
    unfold b_rotaref02_parts_19
    have k3 : Hm[b1]? = _ := (hal.1 b1 (by omega)).trans k2
    by_cases hlk : l < k
    · have hxl : (l : Int) < (k : Int) := by omega
      obtain ⟨la, y, ea, hla, hldk, -⟩ := fin0 _ fun hc hn _ => part_at hc (i := k) (by omega)
      obtain ⟨la', y', ea', -, hldl, -⟩ := fin0 _ fun hc hn _ => part_at hc (i := l) (by omega)
      rw [ea] at ea'
      cases ea'
      have ym : ∀ b, b < H.length → Hm[b]? = H[b]? := fun b hb => (hal.1 b (by omega)).trans (f2 _ fun hap => (hap.1 b (by omega)).trans (f1 _ fun hall => (hall.1 b (by omega)).trans (fx _ fun x1 => x1 b (by omega))))
      rw [← ym la (by omega)] at hldk hldl
      have okk : c.okPart (c.part (k : Nat)) := f1 _ fun hall => hall.2 k hkn
      have okl : c.okPart (c.part (l : Nat)) := f1 _ fun hall => hall.2 l (by omega)
      have hapd : c.apartP l k ↔ ¬ ((c.part (l : Nat)).node = (c.part (k : Nat)).node ∧ Cfg.meets (c.part (l : Nat)).lo (c.part (l : Nat)).hi (c.part (k : Nat)).lo (c.part (k : Nat)).hi) := Iff.rfl
      have hnot : ¬ c.apartP l k → dB c.okParts = false := fun h => dB_f fun h' => h (h'.2.2 l k hlk (fin0 _ fun _ hn _ => by omega))
      have hnext : c.apartP l k → ∀ j, j < l + 1 → c.apartP j k := fun h j hj => by
        by_cases e : j = l
        · subst e; exact h
        · exact hal.2 j (by omega)
      unfold Cfg.okPart at okk okl
      generalize c.apartP l k = P at *
      generalize c.part (k : Nat) = p at *
      generalize c.part (l : Nat) = q at *
      obtain ⟨pn, lo, hi_⟩ := p
      obtain ⟨qn, lo', hi'⟩ := q
      obtain ⟨-, -, w1, w2, w3⟩ := okk
      obtain ⟨-, -, w4, w5, w6⟩ := okl
      dsimp only [Pa.cells] at hldk hldl hapd w1 w2 w3 w4 w5 w6
      obtain ⟨a, rfl⟩ : ∃ a : Nat, lo = a := ⟨lo.toNat, by omega⟩
      obtain ⟨b, rfl⟩ : ∃ b : Nat, hi_ = b := ⟨hi_.toNat, by omega⟩
      obtain ⟨a', rfl⟩ : ∃ a' : Nat, lo' = a' := ⟨lo'.toNat, by omega⟩
      obtain ⟨b', rfl⟩ : ∃ b' : Nat, hi' = b' := ⟨hi'.toNat, by omega⟩
      have hcom : Cfg.meets a b a' b' ↔ Cfg.meets a' b' a b := by unfold Cfg.meets; omega
      have fin2 : Hid _ := fun (A : Prop) (h : _ → _ → _ → _ → _ → _ → A) => h hnot hnext hal ym hapd hcom
      clear hnot hnext hal ym hapd hcom
      rw [ea] at k3
      have fea : Hid _ := fun (A : Prop) (h : _ → A) => h ea
      clear ea k2
      by_cases c1 : pn = qn
      · subst c1
        repeat (with_reducible first|(first|refine pI1 ?_|refine pS1 ?_);intros|refine pA1 ?_|refine pX1 ?_|refine pB1 ?_|exact True.intro)
        rename_i b3 H3 p3 g3 x3 H4 l4 g4 x4 b5 H5 p5 g5 x5 H6 l6 g6 x6
        have k3' := (x4 b1 (by omega)).trans ((x3 b1 (by omega)).trans k3)
        have f4 : Hid _ := fun (A : Prop) (h : _ → _ → A) => h x3 x4
        clear x3 x4 hldk hldl g3 k3
        have k4 := (x6 b1 (by omega)).trans ((x5 b1 (by omega)).trans k3')
        have g4' := (x6 b3 (by omega)).trans ((x5 b3 (by omega)).trans g4)
        have f5 : Hid _ := fun (A : Prop) (h : _ → _ → A) => h x5 x6
        have hmt := s_rmeet (H := H6) (a := a) (b := b) (c := a') (d := b') (by omega)
        clear x5 x6 g4 k3' g5
        repeat (with_reducible first|(first|refine pI1 ?_|refine pS1 ?_);intros|refine pA1 ?_|refine pX1 ?_|refine pB1 ?_|exact True.intro)
        refine outM_call hmt ?_
        rintro _ H6 ⟨rfl, rfl⟩
        clear hmt
        have hx6 : ∀ d, d < Hm.length → H6[d]? = Hm[d]? := fun d hd => by rw [f5 _ fun _ x6 => x6 d (by omega), f5 _ fun x5 _ => x5 d (by omega), f4 _ fun _ x4 => x4 d (by omega)]; exact f4 _ fun x3 _ => x3 d (by omega)
        by_cases hme : Cfg.meets a b a' b'
        · have e := fin2 _ fun hnot _ _ _ hapd hcom => hnot fun hp => (hapd.1 hp) ⟨rfl, hcom.1 hme⟩
          rw [dB_t hme, e]
          have fh : Hid _ := fun (A : Prop) (h : _ → A) => h hx6
          clear hme hx6 e
          repeat (with_reducible first|(first|refine pI1 ?_|refine pS1 ?_);intros|refine pA1 ?_|refine pX1 ?_|refine pB1 ?_|exact True.intro)
          exact ⟨rfl, by omega, fun b hb => by rw [fh _ fun h => h b (by omega)]; exact fin2 _ fun _ _ _ ym _ _ => ym b hb⟩
        · rw [dB_f hme]
          have fh : Hid _ := fun (A : Prop) (h : _ → _ → A) => h hx6 hme
          clear hme hx6
          repeat (with_reducible first|(first|refine pI1 ?_|refine pS1 ?_);intros|refine pA1 ?_|refine pX1 ?_|refine pB1 ?_|exact True.intro)
          exact loopQ_n (k - (l + 1)) (by omega) ⟨_, l + 1, H6, rfl, rfl, by omega, zf, zf, zf, by omega, fh _ fun hx6 hme => fin2 _ fun _ hnext hal _ hapd hcom => ⟨fun d hd => by rw [hx6 d (by omega)]; exact hal.1 d hd, hnext (hapd.2 fun h => hme (hcom.2 h.2))⟩⟩
      · repeat (with_reducible first|(first|refine pI1 ?_|refine pS1 ?_);intros|refine pA1 ?_|refine pX1 ?_|refine pB1 ?_|exact True.intro)
        rename_i b3 H3 p3 g3 x3 H4 l4 g4 x4 b5 H5 p5 g5 x5 H6 l6 g6 x6
        have k3' := (x4 b1 (by omega)).trans ((x3 b1 (by omega)).trans k3)
        have f4 : Hid _ := fun (A : Prop) (h : _ → _ → A) => h x3 x4
        clear x3 x4 hldk hldl g3 k3
        have k4 := (x6 b1 (by omega)).trans ((x5 b1 (by omega)).trans k3')
        have g4' := (x6 b3 (by omega)).trans ((x5 b3 (by omega)).trans g4)
        have f5 : Hid _ := fun (A : Prop) (h : _ → _ → A) => h x5 x6
        clear x5 x6 g4 k3' g5
        repeat (with_reducible first|(first|refine pI1 ?_|refine pS1 ?_);intros|refine pA1 ?_|refine pX1 ?_|refine pB1 ?_|exact True.intro)
        have hx6 : ∀ d, d < Hm.length → H6[d]? = Hm[d]? := fun d hd => by rw [f5 _ fun _ x6 => x6 d (by omega), f5 _ fun x5 _ => x5 d (by omega), f4 _ fun _ x4 => x4 d (by omega)]; exact f4 _ fun x3 _ => x3 d (by omega)
        exact loopQ_n (k - (l + 1)) (by omega) ⟨_, l + 1, H6, rfl, rfl, by omega, zf, zf, zf, by omega, fin2 _ fun _ hnext hal _ hapd hcom => ⟨fun d hd => by rw [hx6 d (by omega)]; exact hal.1 d hd, hnext (hapd.2 fun h => c1 h.1.symm)⟩⟩
    · obtain rfl : l = k := by omega
      have hxl : ¬ (l : Int) < (l : Int) := by omega
      have fl : Hid _ := fun (A : Prop) (h : _ → A) => h hal
      clear hal
      repeat (with_reducible first|(first|refine pI1 ?_|refine pS1 ?_);intros|refine pA1 ?_|refine pX1 ?_|refine pB1 ?_|exact True.intro)
      exact loopQ_n (i - (l + 1)) (by omega) ⟨_, l + 1, Hm, rfl, rfl, by omega, zf, zf, by omega, fl _ fun hal => f2 _ fun hap => ⟨fun d hd => by rw [hal.1 d (by omega)]; exact hap.1 d hd, fun j q h1 h2 => by
        by_cases e : j = l
        · subst e; exact hal.2 q h1
        · exact hap.2 j q h1 (by omega)⟩⟩
  · obtain rfl : k = i := by omega
    have hxk : ¬ (k : Int) < (k : Int) := by omega
    have e : dB c.okParts = true := dB_t (fin0 _ fun _ hn _ => ⟨by omega, fun p hp => by
      obtain ⟨j, hj, rfl⟩ := part_of hp
      exact f1 _ fun hall => hall.2 j (by omega), fun j l h1 h2 => hap.2 l j h1 (by omega)⟩)
    rw [e]
    have fl : Hid _ := fun (A : Prop) (h : _ → A) => h hap
    clear hap
    repeat (with_reducible first|(first|refine pI1 ?_|refine pS1 ?_);intros|refine pA1 ?_|refine pX1 ?_|refine pB1 ?_|exact True.intro)
    exact ⟨rfl, by omega, fun b hb => by rw [fl _ fun hap => hap.1 b (by omega), f1 _ fun hall => hall.1 b (by omega)]; exact fx _ fun x1 => x1 b (by omega)⟩
end
end Go.Proofs.Yteiiddefimpplaa.AM.D08

namespace Go.Proofs.Yteiiddefimpplaa.AM.D08
open Go Go.Proofs.Yteiiddefimpplaa.AM Go.Proofs.Yteiiddefimpplaa.AM.C02
set_option maxHeartbeats 2000000
set_option maxRecDepth 100000
attribute [local go_sem] tn_add1 tn_sub1 put_all' nums_len sub12 sub3 sub6
section
variable {N : Nat} {H : Heap} {c : Cfg} {h : Hd}
theorem s_rwins (hc : CfgM N H c h) (hN : N ≤ H.length) (hnd : 4 ≤ c.nodes ∧ c.nodes ≤ 16) (hps : c.parts.length ≤ 32) : WC F fn_rotaref02_windows [.agg (c.cells h)] H fun v H' => v = .c (.bool (dB c.okWins)) ∧ Xt H H' := by
  refine WC_start e_rotaref02_windows (by simp) ?_
  unfold c_rotaref02_windows Cfg.cells
  obtain ⟨n, hn⟩ : ∃ n, c.wins.length = n := ⟨_, rfl⟩
  obtain ⟨np, hnp⟩ : ∃ n, c.parts.length = n := ⟨_, rfl⟩
  rw [hn, hnp]
  rw [hnp] at hps
  obtain ⟨nd, hnd'⟩ : ∃ nd : Nat, c.nodes = nd := ⟨c.nodes.toNat, by omega⟩
  rw [hnd'] at hnd ⊢
  obtain ⟨n1, n2⟩ := hnd
  have fin0 : Hid _ := fun (A : Prop) (h : _ → _ → _ → _ → A) => h hc hn hnp hnd'
  clear hc hn hnp hnd'
  by_cases hlen : n = nd
  case neg =>
    have hlen' : ¬ (n : Int) = (nd : Int) := by omega
    have e : dB c.okWins = false := dB_f fun h => fin0 _ fun _ hn _ hnd => by have := h.1; omega
    rw [e]
    repeat (with_reducible first|(first|refine pI1 ?_|refine pS1 ?_);intros|refine pA1 ?_|refine pX1 ?_|refine pB1 ?_|exact True.intro)
    rename_i b1 H1 p1 g1 x1
    repeat (with_reducible first|(first|refine pI1 ?_|refine pS1 ?_);intros|refine pA1 ?_|refine pX1 ?_|refine pB1 ?_|exact True.intro)
    exact ⟨rfl, by omega, fun b hb => x1 b (by omega)⟩
  subst hlen
  repeat (with_reducible first|(first|refine pI1 ?_|refine pS1 ?_);intros|refine pA1 ?_|refine pX1 ?_|refine pB1 ?_|exact True.intro)
  rename_i b1 H1 p1 g1 x1
  have fx : Hid _ := fun (A : Prop) (h : _ → A) => h x1
  clear x1
  repeat (with_reducible first|(first|refine pI1 ?_|refine pS1 ?_);intros|refine pA1 ?_|refine pX1 ?_|refine pB1 ?_|exact True.intro)
  refine W_loop (fun m st => ∃ ρ, ∃ i : Nat, st = ⟨L 64 ρ, [], H1⟩ ∧ m = n - i ∧ i ≤ n ∧ ρ 1 = .c (.ptr (some (b1, 0))) ∧ ρ 3 = .c (.int .i64 (i : Nat)) ∧ ∀ (j : Nat) row, j < i → c.wins[j]? = some row → (row.length : Int) = c.nodes ∧ ∀ p ∈ row, c.okWin j p) n ⟨_, 0, rfl, rfl, by omega, zf, zf, fun j r hj => by omega⟩ ?_
  rintro m st ⟨ρ, i, rfl, rfl, hi, e1, e3, hall⟩
  unfold b_rotaref02_windows_15
  have fin1 : Hid _ := fun (A : Prop) (h : _ → A) => h hall
  clear hall
  by_cases hin : i < n
  · have hxt : (i : Int) < (n : Int) := by omega
    obtain ⟨la, y, a, cc, row, ea, hla, hld, hrow, hsl, hsN⟩ := fin0 _ fun hc hn _ _ => win_at hc (i := i) (by omega)
    rw [← fx _ fun x1 => x1 la (by omega)] at hld
    rw [ea] at g1
    have hsl1 : Sl H1 1 a row.length (nums row) := hsl.keep fun b x e => fx _ fun x1 => x1 b (by have := hsN b x e; omega)
    clear hsl
    obtain ⟨rl, hrl⟩ : ∃ rl, row.length = rl := ⟨_, rfl⟩
    rw [hrl] at hld hsl1
    have hbad : ¬ ((row.length : Int) = c.nodes ∧ ∀ p ∈ row, c.okWin i p) → dB c.okWins = false := fun h => dB_f fun h' => h (h'.2 i row hrow)
    have hnext : ((row.length : Int) = c.nodes ∧ ∀ p ∈ row, c.okWin i p) → ∀ (j : Nat) r, j < i + 1 → c.wins[j]? = some r → (r.length : Int) = c.nodes ∧ ∀ p ∈ r, c.okWin j p := fun h j r hj hr => by
      by_cases e : j = i
      · subst e; rw [hrow] at hr; cases hr; exact h
      · exact fin1 _ fun hall => hall j r (by omega) hr
    have f2 : Hid _ := fun (A : Prop) (h : _ → _ → _ → _ → _ → A) => h hbad hnext hsl1 hrl ea
    clear hbad hnext hsl1 hrow hsN ea
    by_cases hr : rl = n
    case neg =>
      have hr' : ¬ (rl : Int) = (n : Int) := by omega
      have e := f2 _ fun hbad _ _ _ _ => hbad fun h => hr (fin0 _ fun _ _ _ hnd => by have := h.1; omega)
      have fr : Hid _ := fun (A : Prop) (h : _ → A) => h hrl
      clear hrl
      rw [e]
      repeat (with_reducible first|(first|refine pI1 ?_|refine pS1 ?_);intros|refine pA1 ?_|refine pX1 ?_|refine pB1 ?_|exact True.intro)
      exact ⟨rfl, by omega, fx _ fun x1 b hb => x1 b (by omega)⟩
    subst hr
    have fr : Hid _ := fun (A : Prop) (h : _ → A) => h hrl
    clear hrl
    repeat (with_reducible first|(first|refine pI1 ?_|refine pS1 ?_);intros|refine pA1 ?_|refine pX1 ?_|refine pB1 ?_|exact True.intro)
    refine W_loop (fun m st => ∃ ρ, ∃ k : Nat, st = ⟨L 64 ρ, [], H1⟩ ∧ m = rl - k ∧ k ≤ rl ∧ ρ 1 = .c (.ptr (some (b1, 0))) ∧ ρ 3 = .c (.int .i64 (i : Nat)) ∧ ρ 4 = .c (.int .i64 (k : Nat)) ∧ ∀ j, j < k → c.okWin i (gn row j)) rl ⟨_, 0, rfl, rfl, by omega, zf, zf, zf, fun j hj => by omega⟩ ?_
    clear e1 e3
    rintro m st ⟨ρ, k, rfl, rfl, hk, e1, e3, e4, hwk⟩
    unfold b_rotaref02_windows_13
    have f3 : Hid _ := fun (A : Prop) (h : _ → A) => h hwk
    clear hwk
    by_cases hkn : k < rl
    · have hxk : (k : Int) < (rl : Int) := by omega
      obtain ⟨⟨lb, z⟩, eb⟩ := f2 _ fun _ _ hsl _ _ => hsl.is_some (by omega)
      have hld2 := f2 _ fun _ _ hsl hrl _ => Sl.gn (by rw [eb] at hsl; exact hsl) hrl hkn
      dsimp only at hld2
      rw [eb] at hld
      have hokw : c.okWin i (gn row k) ↔ (gn row k = -1 ∨ (0 ≤ gn row k ∧ gn row k < c.parts.length ∧ (c.part (gn row k)).node = i)) := Iff.rfl
      have hbad : ¬ c.okWin i (gn row k) → dB c.okWins = false := fun h => f2 _ fun hbad _ _ hrl _ => hbad fun h' => h (h'.2 _ (gn_mem (by omega)))
      have hnext : c.okWin i (gn row k) → ∀ j, j < k + 1 → c.okWin i (gn row j) := fun h j hj => by
        by_cases e : j = k
        · subst e; exact h
        · exact f3 _ fun h => h j (by omega)
      have hpart : 0 ≤ gn row k → gn row k < np → ∃ la y, h.a8 = some (la, y) ∧ la < N ∧ ldnB H[la]? (y + (gn row k).toNat * 3) 3 = some (c.part (gn row k)).cells := fun h0 h1 => fin0 _ fun hc _ hnp _ => by
        obtain ⟨la, y, q1, q2, q3, -⟩ := part_at hc (i := (gn row k).toNat) (by omega)
        rw [show ((gn row k).toNat : Int) = gn row k by omega] at q3
        exact ⟨la, y, q1, q2, q3⟩
      have hnpe : (c.parts.length : Int) = np := fin0 _ fun _ _ hnp _ => by rw [hnp]
      rw [hnpe] at hokw
      clear hnpe
      generalize c.okWin i (gn row k) = P at *
      generalize gn row k = u at *
      have f4 : Hid _ := fun (A : Prop) (h : _ → _ → _ → _ → _ → A) => h hbad hnext hokw eb hpart
      clear hbad hnext hokw eb hpart
      by_cases c1 : u = -1
      · have hP := f4 _ fun _ hnext hokw _ _ => hnext (hokw.2 (.inl c1))
        have fP : Hid _ := fun (A : Prop) (h : _ → _ → A) => h hP c1
        clear hP
        subst c1
        repeat (with_reducible first|(first|refine pI1 ?_|refine pS1 ?_);intros|refine pA1 ?_|refine pX1 ?_|refine pB1 ?_|exact True.intro)
        exact loopQ_n (rl - (k + 1)) (by omega) ⟨_, k + 1, rfl, rfl, by omega, zf, zf, zf, fP _ fun h _ => h⟩
      by_cases c2 : u < 0
      · have e := f4 _ fun hbad _ hokw _ _ => hbad fun h => by rcases hokw.1 h with h | h; exact c1 h; omega
        rw [e]
        repeat (with_reducible first|(first|refine pI1 ?_|refine pS1 ?_);intros|refine pA1 ?_|refine pX1 ?_|refine pB1 ?_|exact True.intro)
        exact ⟨rfl, by omega, fx _ fun x1 b hb => x1 b (by omega)⟩
      by_cases c3 : (np : Int) ≤ u
      · have e := f4 _ fun hbad _ hokw _ _ => hbad fun h => by rcases hokw.1 h with h | h; exact c1 h; omega
        rw [e]
        repeat (with_reducible first|(first|refine pI1 ?_|refine pS1 ?_);intros|refine pA1 ?_|refine pX1 ?_|refine pB1 ?_|exact True.intro)
        exact ⟨rfl, by omega, fx _ fun x1 b hb => x1 b (by omega)⟩
      obtain ⟨u, rfl⟩ : ∃ w : Nat, u = w := ⟨u.toNat, by omega⟩
      obtain ⟨la', y', ea', hla', hlp⟩ := f4 _ fun _ _ _ _ hp => hp (by omega) (by omega)
      rw [Int.toNat_natCast] at hlp
      have hlp1 := ld_of_ldn3 hlp
      rw [← fx _ fun x1 => x1 la' (by omega)] at hlp1
      rw [ea'] at g1
      clear hlp
      generalize (c.part (u : Nat)).node = pn at *
      have fe' := fun (A : Prop) (h : _ → A) => h ea'
      clear ea'
      by_cases c4 : pn = i
      · have hP := f4 _ fun _ hnext hokw _ _ => hnext (hokw.2 (.inr ⟨by omega, by omega, c4⟩))
        have fP : Hid _ := fun (A : Prop) (h : _ → _ → A) => h hP c4
        clear hP
        subst c4
        repeat (with_reducible first|(first|refine pI1 ?_|refine pS1 ?_);intros|refine pA1 ?_|refine pX1 ?_|refine pB1 ?_|exact True.intro)
        exact loopQ_n (rl - (k + 1)) (by omega) ⟨_, k + 1, rfl, rfl, by omega, zf, zf, zf, fP _ fun h _ => h⟩
      · have e := f4 _ fun hbad _ hokw _ _ => hbad fun h => by rcases hokw.1 h with h | h; exact c1 h; exact c4 h.2.2
        rw [e]
        repeat (with_reducible first|(first|refine pI1 ?_|refine pS1 ?_);intros|refine pA1 ?_|refine pX1 ?_|refine pB1 ?_|exact True.intro)
        exact ⟨rfl, by omega, fx _ fun x1 b hb => x1 b (by omega)⟩
    · obtain rfl : k = rl := by omega
      have hxk : ¬ (k : Int) < (k : Int) := by omega
      have hg := f2 _ fun _ hnext _ hrl _ => hnext ⟨fin0 _ fun _ _ _ hnd => by rw [hrl, hnd], fun p hp => by
        obtain ⟨j, hj, rfl⟩ := gn_of hp
        exact f3 _ fun h => h j (by omega)⟩
      have fg : Hid _ := fun (A : Prop) (h : _ → A) => h hg
      clear hg
      repeat (with_reducible first|(first|refine pI1 ?_|refine pS1 ?_);intros|refine pA1 ?_|refine pX1 ?_|refine pB1 ?_|exact True.intro)
      exact loopQ_n (k - (i + 1)) (by omega) ⟨_, i + 1, rfl, rfl, by omega, zf, zf, fg _ fun h => h⟩
  · obtain rfl : i = n := by omega
    have hxt : ¬ (i : Int) < (i : Int) := by omega
    have e : dB c.okWins = true := dB_t (fin0 _ fun _ hn _ hnd => ⟨by rw [hn, hnd], fun j row hr => fin1 _ fun hall => hall j row (by have := (List.getElem?_eq_some_iff.1 hr).1; omega) hr⟩)
    rw [e]
    repeat (with_reducible first|(first|refine pI1 ?_|refine pS1 ?_);intros|refine pA1 ?_|refine pX1 ?_|refine pB1 ?_|exact True.intro)
    exact ⟨rfl, by omega, fx _ fun x1 b hb => x1 b (by omega)⟩
end
end Go.Proofs.Yteiiddefimpplaa.AM.D08

namespace Go.Proofs.Yteiiddefimpplaa.AM.D08
open Go Go.Proofs.Yteiiddefimpplaa.AM Go.Proofs.Yteiiddefimpplaa.AM.C02
set_option maxHeartbeats 2000000
set_option maxRecDepth 100000
attribute [local go_sem] tn_add1 tn_sub1 put_all' nums_len sub12 sub3 sub6
section
variable {N : Nat} {H : Heap} {c : Cfg} {h : Hd}
theorem s_rAlone {p : Pt} : WC F fn_rotaref02_Alone [.agg p.cells] H fun v H' => v = .c (.bool (dB p.ok)) ∧ Xt H H' := by
  refine WC_start e_rotaref02_Alone (by simp) ?_
  unfold c_rotaref02_Alone Pt.cells
  have hok : p.ok ↔ ((p.kind = 1 ∨ p.kind = 2) ∧ (p.dir = 1 ∨ p.dir = 2) ∧ 1 ≤ p.size ∧ p.size ≤ 32 ∧ (p.kind = 2 → 1 ≤ p.depth ∧ p.depth ≤ 8 ∧ p.fresh = 0) ∧ (p.kind ≠ 2 → p.depth = 0 ∧ (p.dir = 2 → 1 ≤ p.fresh ∧ p.fresh ≤ 65535) ∧ (p.dir ≠ 2 → p.fresh = 0))) := Iff.rfl
  generalize p.ok = P at *
  obtain ⟨pa, kd, dr, sz, dp, fr⟩ := p
  dsimp only at hok ⊢
  have fo : Hid _ := fun (A : Prop) (h : _ → A) => h hok
  clear hok
  by_cases a1 : kd < 1
  · have e : dB P = false := dB_f fun h => fo _ fun hok => by have := (hok.1 h).1; omega
    rw [e]
    repeat (with_reducible first|(first|refine pI1 ?_|refine pS1 ?_);intros|refine pA1 ?_|refine pX1 ?_|refine pB1 ?_|exact True.intro)
    rename_i b1 H1 p1 g1 x1
    repeat (with_reducible first|(first|refine pI1 ?_|refine pS1 ?_);intros|refine pA1 ?_|refine pX1 ?_|refine pB1 ?_|exact True.intro)
    exact ⟨rfl, by omega, fun b hb => x1 b (by omega)⟩
  by_cases a2 : 2 < kd
  · have e : dB P = false := dB_f fun h => fo _ fun hok => by have := (hok.1 h).1; omega
    rw [e]
    repeat (with_reducible first|(first|refine pI1 ?_|refine pS1 ?_);intros|refine pA1 ?_|refine pX1 ?_|refine pB1 ?_|exact True.intro)
    rename_i b1 H1 p1 g1 x1
    repeat (with_reducible first|(first|refine pI1 ?_|refine pS1 ?_);intros|refine pA1 ?_|refine pX1 ?_|refine pB1 ?_|exact True.intro)
    exact ⟨rfl, by omega, fun b hb => x1 b (by omega)⟩
  by_cases a3 : dr < 1
  · have e : dB P = false := dB_f fun h => fo _ fun hok => by have := (hok.1 h).2.1; omega
    rw [e]
    repeat (with_reducible first|(first|refine pI1 ?_|refine pS1 ?_);intros|refine pA1 ?_|refine pX1 ?_|refine pB1 ?_|exact True.intro)
    rename_i b1 H1 p1 g1 x1
    repeat (with_reducible first|(first|refine pI1 ?_|refine pS1 ?_);intros|refine pA1 ?_|refine pX1 ?_|refine pB1 ?_|exact True.intro)
    exact ⟨rfl, by omega, fun b hb => x1 b (by omega)⟩
  by_cases a4 : 2 < dr
  · have e : dB P = false := dB_f fun h => fo _ fun hok => by have := (hok.1 h).2.1; omega
    rw [e]
    repeat (with_reducible first|(first|refine pI1 ?_|refine pS1 ?_);intros|refine pA1 ?_|refine pX1 ?_|refine pB1 ?_|exact True.intro)
    rename_i b1 H1 p1 g1 x1
    repeat (with_reducible first|(first|refine pI1 ?_|refine pS1 ?_);intros|refine pA1 ?_|refine pX1 ?_|refine pB1 ?_|exact True.intro)
    exact ⟨rfl, by omega, fun b hb => x1 b (by omega)⟩
  by_cases a5 : sz < 1
  · have e : dB P = false := dB_f fun h => fo _ fun hok => by have := (hok.1 h).2.2.1; omega
    rw [e]
    repeat (with_reducible first|(first|refine pI1 ?_|refine pS1 ?_);intros|refine pA1 ?_|refine pX1 ?_|refine pB1 ?_|exact True.intro)
    rename_i b1 H1 p1 g1 x1
    repeat (with_reducible first|(first|refine pI1 ?_|refine pS1 ?_);intros|refine pA1 ?_|refine pX1 ?_|refine pB1 ?_|exact True.intro)
    exact ⟨rfl, by omega, fun b hb => x1 b (by omega)⟩
  by_cases a6 : 32 < sz
  · have e : dB P = false := dB_f fun h => fo _ fun hok => by have := (hok.1 h).2.2.2.1; omega
    rw [e]
    repeat (with_reducible first|(first|refine pI1 ?_|refine pS1 ?_);intros|refine pA1 ?_|refine pX1 ?_|refine pB1 ?_|exact True.intro)
    rename_i b1 H1 p1 g1 x1
    repeat (with_reducible first|(first|refine pI1 ?_|refine pS1 ?_);intros|refine pA1 ?_|refine pX1 ?_|refine pB1 ?_|exact True.intro)
    exact ⟨rfl, by omega, fun b hb => x1 b (by omega)⟩
  by_cases k2 : kd = 2
  · by_cases d1 : 1 ≤ dp
    case neg =>
      have e : dB P = false := dB_f fun h => fo _ fun hok => by have := (hok.1 h).2.2.2.2.1 k2; omega
      rw [e]
      repeat (with_reducible first|(first|refine pI1 ?_|refine pS1 ?_);intros|refine pA1 ?_|refine pX1 ?_|refine pB1 ?_|exact True.intro)
      rename_i b1 H1 p1 g1 x1
      repeat (with_reducible first|(first|refine pI1 ?_|refine pS1 ?_);intros|refine pA1 ?_|refine pX1 ?_|refine pB1 ?_|exact True.intro)
      exact ⟨rfl, by omega, fun b hb => x1 b (by omega)⟩
    by_cases d2 : dp ≤ 8
    case neg =>
      have e : dB P = false := dB_f fun h => fo _ fun hok => by have := (hok.1 h).2.2.2.2.1 k2; omega
      rw [e]
      repeat (with_reducible first|(first|refine pI1 ?_|refine pS1 ?_);intros|refine pA1 ?_|refine pX1 ?_|refine pB1 ?_|exact True.intro)
      rename_i b1 H1 p1 g1 x1
      repeat (with_reducible first|(first|refine pI1 ?_|refine pS1 ?_);intros|refine pA1 ?_|refine pX1 ?_|refine pB1 ?_|exact True.intro)
      exact ⟨rfl, by omega, fun b hb => x1 b (by omega)⟩
    by_cases d3 : fr = 0
    · have e : dB P = true := dB_t (fo _ fun hok => hok.2 ⟨by omega, by omega, by omega, by omega, fun _ => ⟨d1, d2, d3⟩, fun h => absurd k2 h⟩)
      rw [e]
      repeat (with_reducible first|(first|refine pI1 ?_|refine pS1 ?_);intros|refine pA1 ?_|refine pX1 ?_|refine pB1 ?_|exact True.intro)
      rename_i b1 H1 p1 g1 x1
      repeat (with_reducible first|(first|refine pI1 ?_|refine pS1 ?_);intros|refine pA1 ?_|refine pX1 ?_|refine pB1 ?_|exact True.intro)
      exact ⟨rfl, by omega, fun b hb => x1 b (by omega)⟩
    · have e : dB P = false := dB_f fun h => fo _ fun hok => by have := (hok.1 h).2.2.2.2.1 k2; omega
      rw [e]
      repeat (with_reducible first|(first|refine pI1 ?_|refine pS1 ?_);intros|refine pA1 ?_|refine pX1 ?_|refine pB1 ?_|exact True.intro)
      rename_i b1 H1 p1 g1 x1
      repeat (with_reducible first|(first|refine pI1 ?_|refine pS1 ?_);intros|refine pA1 ?_|refine pX1 ?_|refine pB1 ?_|exact True.intro)
      exact ⟨rfl, by omega, fun b hb => x1 b (by omega)⟩
  by_cases d1 : dp = 0
  case neg =>
    have e : dB P = false := dB_f fun h => fo _ fun hok => d1 ((hok.1 h).2.2.2.2.2 k2).1
    rw [e]
    by_cases r2 : dr = 2
    · repeat (with_reducible first|(first|refine pI1 ?_|refine pS1 ?_);intros|refine pA1 ?_|refine pX1 ?_|refine pB1 ?_|exact True.intro)
      rename_i b1 H1 p1 g1 x1
      repeat (with_reducible first|(first|refine pI1 ?_|refine pS1 ?_);intros|refine pA1 ?_|refine pX1 ?_|refine pB1 ?_|exact True.intro)
      exact ⟨rfl, by omega, fun b hb => x1 b (by omega)⟩
    · repeat (with_reducible first|(first|refine pI1 ?_|refine pS1 ?_);intros|refine pA1 ?_|refine pX1 ?_|refine pB1 ?_|exact True.intro)
      rename_i b1 H1 p1 g1 x1
      repeat (with_reducible first|(first|refine pI1 ?_|refine pS1 ?_);intros|refine pA1 ?_|refine pX1 ?_|refine pB1 ?_|exact True.intro)
      exact ⟨rfl, by omega, fun b hb => x1 b (by omega)⟩
  by_cases r2 : dr = 2
  · by_cases f1 : 1 ≤ fr
    case neg =>
      have e : dB P = false := dB_f fun h => fo _ fun hok => by have := ((hok.1 h).2.2.2.2.2 k2).2.1 r2; omega
      rw [e]
      repeat (with_reducible first|(first|refine pI1 ?_|refine pS1 ?_);intros|refine pA1 ?_|refine pX1 ?_|refine pB1 ?_|exact True.intro)
      rename_i b1 H1 p1 g1 x1
      repeat (with_reducible first|(first|refine pI1 ?_|refine pS1 ?_);intros|refine pA1 ?_|refine pX1 ?_|refine pB1 ?_|exact True.intro)
      exact ⟨rfl, by omega, fun b hb => x1 b (by omega)⟩
    by_cases f2 : fr ≤ 65535
    · have e : dB P = true := dB_t (fo _ fun hok => hok.2 ⟨by omega, by omega, by omega, by omega, fun h => absurd h k2, fun _ => ⟨d1, fun _ => ⟨f1, f2⟩, fun h => absurd r2 h⟩⟩)
      rw [e]
      repeat (with_reducible first|(first|refine pI1 ?_|refine pS1 ?_);intros|refine pA1 ?_|refine pX1 ?_|refine pB1 ?_|exact True.intro)
      rename_i b1 H1 p1 g1 x1
      repeat (with_reducible first|(first|refine pI1 ?_|refine pS1 ?_);intros|refine pA1 ?_|refine pX1 ?_|refine pB1 ?_|exact True.intro)
      exact ⟨rfl, by omega, fun b hb => x1 b (by omega)⟩
    · have e : dB P = false := dB_f fun h => fo _ fun hok => by have := ((hok.1 h).2.2.2.2.2 k2).2.1 r2; omega
      rw [e]
      repeat (with_reducible first|(first|refine pI1 ?_|refine pS1 ?_);intros|refine pA1 ?_|refine pX1 ?_|refine pB1 ?_|exact True.intro)
      rename_i b1 H1 p1 g1 x1
      repeat (with_reducible first|(first|refine pI1 ?_|refine pS1 ?_);intros|refine pA1 ?_|refine pX1 ?_|refine pB1 ?_|exact True.intro)
      exact ⟨rfl, by omega, fun b hb => x1 b (by omega)⟩
  · by_cases f1 : fr = 0
    · have e : dB P = true := dB_t (fo _ fun hok => hok.2 ⟨by omega, by omega, by omega, by omega, fun h => absurd h k2, fun _ => ⟨d1, fun h => absurd h r2, fun _ => f1⟩⟩)
      rw [e]
      repeat (with_reducible first|(first|refine pI1 ?_|refine pS1 ?_);intros|refine pA1 ?_|refine pX1 ?_|refine pB1 ?_|exact True.intro)
      rename_i b1 H1 p1 g1 x1
      repeat (with_reducible first|(first|refine pI1 ?_|refine pS1 ?_);intros|refine pA1 ?_|refine pX1 ?_|refine pB1 ?_|exact True.intro)
      exact ⟨rfl, by omega, fun b hb => x1 b (by omega)⟩
    · have e : dB P = false := dB_f fun h => fo _ fun hok => f1 (((hok.1 h).2.2.2.2.2 k2).2.2 r2)
      rw [e]
      repeat (with_reducible first|(first|refine pI1 ?_|refine pS1 ?_);intros|refine pA1 ?_|refine pX1 ?_|refine pB1 ?_|exact True.intro)
      rename_i b1 H1 p1 g1 x1
      repeat (with_reducible first|(first|refine pI1 ?_|refine pS1 ?_);intros|refine pA1 ?_|refine pX1 ?_|refine pB1 ?_|exact True.intro)
      exact ⟨rfl, by omega, fun b hb => x1 b (by omega)⟩
theorem s_rports (hc : CfgM N H c h) (hN : N ≤ H.length) (hps : c.parts.length ≤ 32) (hpo : c.ports.length ≤ 10000000) : WC F fn_rotaref02_ports [.agg (c.cells h)] H fun v H' => v = .c (.bool (dB c.okPorts)) ∧ Xt H H' := by
  refine WC_start e_rotaref02_ports (by simp) ?_
  unfold c_rotaref02_ports Cfg.cells
  obtain ⟨n, hn⟩ : ∃ n, c.ports.length = n := ⟨_, rfl⟩
  obtain ⟨np, hnp⟩ : ∃ n, c.parts.length = n := ⟨_, rfl⟩
  rw [hn, hnp]
  rw [hnp] at hps
  rw [hn] at hpo
  have fin0 : Hid _ := fun (A : Prop) (h : _ → _ → _ → A) => h hc hn hnp
  clear hc hn hnp
  repeat (with_reducible first|(first|refine pI1 ?_|refine pS1 ?_);intros|refine pA1 ?_|refine pX1 ?_|refine pB1 ?_|exact True.intro)
  rename_i b1 H1 p1 g1 x1
  have fx : Hid _ := fun (A : Prop) (h : _ → A) => h x1
  clear x1
  repeat (with_reducible first|(first|refine pI1 ?_|refine pS1 ?_);intros|refine pA1 ?_|refine pX1 ?_|refine pB1 ?_|exact True.intro)
  refine W_loop (fun m st => ∃ ρ, ∃ i : Nat, ∃ Hk, st = ⟨L 43 ρ, [], Hk⟩ ∧ m = n - i ∧ i ≤ n ∧ ρ 1 = .c (.ptr (some (b1, 0))) ∧ ρ 3 = .c (.int .i64 (i : Nat)) ∧ H1.length ≤ Hk.length ∧ Hid ((∀ d, d < H1.length → Hk[d]? = H1[d]?) ∧ ∀ j, j < i → c.okPort (c.port (j : Nat)))) n ⟨_, 0, H1, rfl, rfl, by omega, zf, zf, Nat.le_refl _, fun _ _ => rfl, fun j hj => by omega⟩ ?_
  rintro m st ⟨ρ, i, Hk, rfl, rfl, hi, e1, e3, lk, hall⟩
  unfold b_rotaref02_ports_6
  have k1 := (hall.1 b1 (by omega)).trans g1
  clear g1
  by_cases hin : i < n
  · have hxt : (i : Int) < (n : Int) := by omega
    obtain ⟨la, y, ea, hla, hld, hmem⟩ := fin0 _ fun hc hn _ => port_at hc (i := i) (by omega)
    have yk : ∀ b, b < H.length → Hk[b]? = H[b]? := fun b hb => (hall.1 b (by omega)).trans (fx _ fun x1 => x1 b (by omega))
    rw [← yk la (by omega)] at hld
    have hokp : c.okPort (c.port (i : Nat)) ↔ ((c.port (i : Nat)).ok ∧ 0 ≤ (c.port (i : Nat)).part ∧ (c.port (i : Nat)).part < np) := fin0 _ fun _ _ hnp => by rw [← hnp]; exact Iff.rfl
    have hnot : ¬ c.okPort (c.port (i : Nat)) → dB c.okPorts = false := fun h => dB_f fun h' => h (h'.2 _ hmem)
    have hnext : c.okPort (c.port (i : Nat)) → ∀ j, j < i + 1 → c.okPort (c.port (j : Nat)) := fun h j hj => by
      by_cases e : j = i
      · subst e; exact h
      · exact hall.2 j (by omega)
    generalize c.okPort (c.port (i : Nat)) = P at *
    generalize c.port (i : Nat) = p at *
    have hal := fun Hx => s_rAlone (H := Hx) (p := p)
    obtain ⟨pa, kd, dr, sz, dp, fr⟩ := p
    generalize (Pt.mk pa kd dr sz dp fr).ok = K at *
    dsimp only [Pt.cells] at hld hokp hal
    have fin2 : Hid _ := fun (A : Prop) (h : _ → _ → _ → _ → _ → A) => h hnot hnext hall yk hokp
    clear hnot hnext hmem hall yk hokp
    rw [ea] at k1
    have fea : Hid _ := fun (A : Prop) (h : _ → A) => h ea
    clear ea
    have halk := hal Hk
    have fal : Hid _ := fun (A : Prop) (h : _ → A) => h hal
    clear hal
    repeat (with_reducible first|(first|refine pI1 ?_|refine pS1 ?_);intros|refine pA1 ?_|refine pX1 ?_|refine pB1 ?_|exact True.intro)
    refine outM_call halk ?_
    rintro _ H2 ⟨rfl, l2, x2⟩
    clear halk
    have k2 := (x2 b1 (by omega)).trans k1
    rw [← x2 la (by omega)] at hld
    have hx : ∀ b, b < H.length → H2[b]? = H[b]? := fun b hb => by rw [x2 b (by omega)]; exact fin2 _ fun _ _ _ yk _ => yk b hb
    have hld1 : ldB H2[la]? (y + i * 6) = some (.int .i64 pa) := by
      unfold ldnB at hld
      unfold ldB
      generalize H2[la]? = q at *
      split at hld
      · unfold sub at hld
        split at hld
        · have h' := Option.some.inj hld
          have := congrArg (fun (l : List Cell) => l[0]?) h'
          simpa using this
        · cases hld
      · cases hld
    have f3 : Hid _ := fun (A : Prop) (h : _ → _ → A) => h x2 hx
    clear x2 hx k1
    by_cases hK : K
    case neg =>
      have e := fin2 _ fun hnot _ _ _ hokp => hnot fun h => hK (hokp.1 h).1
      rw [dB_f hK, e]
      clear hld
      repeat (with_reducible first|(first|refine pI1 ?_|refine pS1 ?_);intros|refine pA1 ?_|refine pX1 ?_|refine pB1 ?_|exact True.intro)
      exact ⟨rfl, by omega, f3 _ fun _ hx => hx⟩
    rw [dB_t hK]
    by_cases c1 : pa < 0
    · have e := fin2 _ fun hnot _ _ _ hokp => hnot fun h => by have := (hokp.1 h).2; omega
      rw [e]
      clear hK hld
      repeat (with_reducible first|(first|refine pI1 ?_|refine pS1 ?_);intros|refine pA1 ?_|refine pX1 ?_|refine pB1 ?_|exact True.intro)
      exact ⟨rfl, by omega, f3 _ fun _ hx => hx⟩
    by_cases c2 : (np : Int) ≤ pa
    · have e := fin2 _ fun hnot _ _ _ hokp => hnot fun h => by have := (hokp.1 h).2; omega
      rw [e]
      clear hK hld
      repeat (with_reducible first|(first|refine pI1 ?_|refine pS1 ?_);intros|refine pA1 ?_|refine pX1 ?_|refine pB1 ?_|exact True.intro)
      exact ⟨rfl, by omega, f3 _ fun _ hx => hx⟩
    have fK : Hid _ := fun (A : Prop) (h : _ → A) => h hK
    clear hK hld
    repeat (with_reducible first|(first|refine pI1 ?_|refine pS1 ?_);intros|refine pA1 ?_|refine pX1 ?_|refine pB1 ?_|exact True.intro)
    exact loopQ_n (n - (i + 1)) (by omega) ⟨_, i + 1, H2, rfl, rfl, by omega, zf, zf, by omega, f3 _ fun x2 _ => fin2 _ fun _ hnext hall _ hokp => fK _ fun hK => ⟨fun d hd => by rw [x2 d (by omega)]; exact hall.1 d hd, hnext (hokp.2 ⟨hK, by omega, by omega⟩)⟩⟩
  · obtain rfl : i = n := by omega
    have hxt : ¬ (i : Int) < (i : Int) := by omega
    have f1 : Hid _ := fun (A : Prop) (h : _ → A) => h hall
    have hx : ∀ b, b < H.length → Hk[b]? = H[b]? := fun b hb => (hall.1 b (by omega)).trans (fx _ fun x1 => x1 b (by omega))
    have fh : Hid _ := fun (A : Prop) (h : _ → A) => h hx
    clear hx
    by_cases c1 : i ≤ 64
    · have e : dB c.okPorts = true := dB_t (fin0 _ fun _ hn _ => ⟨by omega, fun p hp => by
        obtain ⟨j, hj, rfl⟩ := List.mem_iff_getElem.1 hp
        have := hall.2 j (by omega)
        rwa [show c.port (j : Nat) = c.ports[j] by simp [Cfg.port, hj]] at this⟩)
      rw [e]
      clear hall
      repeat (with_reducible first|(first|refine pI1 ?_|refine pS1 ?_);intros|refine pA1 ?_|refine pX1 ?_|refine pB1 ?_|exact True.intro)
      exact ⟨rfl, by omega, fh _ fun h => h⟩
    · have e : dB c.okPorts = false := dB_f fun h => fin0 _ fun _ hn _ => by have := h.1; omega
      rw [e]
      clear hall
      repeat (with_reducible first|(first|refine pI1 ?_|refine pS1 ?_);intros|refine pA1 ?_|refine pX1 ?_|refine pB1 ?_|exact True.intro)
      exact ⟨rfl, by omega, fh _ fun h => h⟩
end
end Go.Proofs.Yteiiddefimpplaa.AM.D08

namespace Go.Proofs.Yteiiddefimpplaa.AM.D08
open Go Go.Proofs.Yteiiddefimpplaa.AM Go.Proofs.Yteiiddefimpplaa.AM.C02
set_option maxHeartbeats 2000000
set_option maxRecDepth 100000
attribute [local go_sem] tn_add1 tn_sub1 put_all' nums_len sub12 sub3 sub6 rep6
section
variable {N : Nat} {H : Heap} {c : Cfg} {h : Hd}
theorem lk_view (hc : CfgM N H c h) (hpt : c.okPorts) {j : Nat} (hj : j < c.links.length) (hl : c.okLink (c.link j)) : ∃ la y ad cd, ∃ s o z p : Nat, ∃ lp yp kd dr dp fr lq yq nd, h.a11 = some (la, y) ∧ la < N ∧ ldnB H[la]? (y + j * 3) 3 = some [.int .i64 (s : Nat), .sl ad (c.link j).dests.length cd false, .int .i64 (o : Nat)] ∧
    h.a10 = some (lp, yp) ∧ lp < N ∧ ldnB H[lp]? (yp + s * 6) 6 = some [.int .i64 (p : Nat), .int .i64 kd, .int .i64 dr, .int .i64 (z : Nat), .int .i64 dp, .int .i64 fr] ∧ h.a8 = some (lq, yq) ∧ lq < N ∧ ldB H[lq]? (yq + p * 3) = some (.int .i64 nd) ∧
    (c.part (c.port (c.link j).src).part).node = nd ∧ (c.link j).off = o ∧ (c.port (c.link j).src).size = z ∧ o + 1 + z ≤ 64 ∧ s < c.ports.length ∧ p < c.parts.length := by
  obtain ⟨⟨⟨q1, q2⟩, -, -, q3, q4⟩, -⟩ := hl
  obtain ⟨s, hs⟩ : ∃ s : Nat, (c.link j).src = s := ⟨(c.link j).src.toNat, by omega⟩
  rw [hs] at q1 q2 q4 ⊢
  obtain ⟨la, y, ad, cd, h1, h2, h3, -⟩ := link_at hc hj
  obtain ⟨lp, yp, h4, h5, h6, h7⟩ := port_at hc (i := s) (by omega)
  obtain ⟨h8, h9, h10⟩ := hpt.2 _ h7
  obtain ⟨-, -, z1, z2, -⟩ := h8
  obtain ⟨p, hp⟩ : ∃ p : Nat, (c.port s).part = p := ⟨(c.port s).part.toNat, by omega⟩
  obtain ⟨z, hz⟩ : ∃ z : Nat, (c.port s).size = z := ⟨(c.port s).size.toNat, by omega⟩
  obtain ⟨o, ho⟩ : ∃ o : Nat, (c.link j).off = o := ⟨(c.link j).off.toNat, by omega⟩
  obtain ⟨lq, yq, h11, h12, h13, -⟩ := part_at hc (i := p) (by omega)
  rw [hs, ho] at h3
  unfold Pt.cells at h6
  rw [hp, hz] at h6
  exact ⟨la, y, ad, cd, s, o, z, p, lp, yp, _, _, _, _, lq, yq, _, h1, h2, h3, h4, h5, h6, h11, h12, ld_of_ldn3 h13, by rw [hp], ho, hz, by omega, by omega, by omega⟩
theorem rl_pairs {Hk : Heap} {ρ : Env} {b1 : Nat} (hc : CfgM N H c h) (hN : N ≤ H.length) (hpt : c.okPorts) (hn64 : c.links.length ≤ 64) (e1 : ρ 1 = .c (.ptr (some (b1, 0)))) (k1 : Hk[b1]? = some (.cells (c.cells h) false none)) (lk : H.length ≤ Hk.length) (yk : ∀ b, b < H.length → Hk[b]? = H[b]?)
    (hall : ∀ j, j < c.links.length → c.okLink (c.link j)) (hcn : ∀ n : Int, cn n (Cfg.used c.links) ≤ 1) :
    WO F o_rotaref02_links_28 (L 227 ρ) Hk fun t H' => W F none ((IC.block 6 b_rotaref02_links_41.loop).seq ((IC.ops o_rotaref02_links_42).seq IC.ret)) ⟨t, [], H'⟩ (callQ [(2, none)] fun v H' => v = .c (.bool (dB c.okLinks)) ∧ Xt H H') := by
  unfold Cfg.cells at k1
  obtain ⟨n, hn⟩ : ∃ n, c.links.length = n := ⟨_, rfl⟩
  rw [hn] at hn64 k1
  have fin0 : Hid _ := fun (A : Prop) (h : _ → _ → _ → _ → _ → _ → A) => h hc hpt hall hcn hn yk
  have lb1 := lt_of_get k1
  clear hc hpt hall hcn hn yk
  repeat (with_reducible first|(first|refine pI1 ?_|refine pS1 ?_);intros|refine pA1 ?_|refine pX1 ?_|refine pB1 ?_|exact True.intro)
  refine W_loop (fun m st => ∃ ρ, ∃ k : Nat, ∃ Hl, st = ⟨L 227 ρ, [], Hl⟩ ∧ m = n - k ∧ k ≤ n ∧ ρ 1 = .c (.ptr (some (b1, 0))) ∧ ρ 9 = .c (.int .i64 (k : Nat)) ∧ Hk.length ≤ Hl.length ∧ Hid ((∀ d, d < Hk.length → Hl[d]? = Hk[d]?) ∧ ∀ j l, l < j → j < k → c.apartL l j)) n ⟨_, 0, Hk, rfl, rfl, by omega, zf, zf, Nat.le_refl _, fun _ _ => rfl, fun j l hl hj => by omega⟩ ?_
  clear e1
  rintro m st ⟨ρ, k, Hl, rfl, rfl, hk, e1, e9, ll, hap⟩
  unfold b_rotaref02_links_41
  have k2 := (hap.1 b1 lb1).trans k1
  by_cases hkn : k < n
  · have hxt : (k : Int) < (n : Int) := by omega
    have f2 : Hid _ := fun (A : Prop) (h : _ → A) => h hap
    clear hap k1
    repeat (with_reducible first|(first|refine pI1 ?_|refine pS1 ?_);intros|refine pA1 ?_|refine pX1 ?_|refine pB1 ?_|exact True.intro)
    refine W_loop (fun m st => ∃ ρ, ∃ l : Nat, ∃ Hm, st = ⟨L 227 ρ, [], Hm⟩ ∧ m = k - l ∧ l ≤ k ∧ ρ 1 = .c (.ptr (some (b1, 0))) ∧ ρ 9 = .c (.int .i64 (k : Nat)) ∧ ρ 10 = .c (.int .i64 (l : Nat)) ∧ Hl.length ≤ Hm.length ∧ Hid ((∀ d, d < Hl.length → Hm[d]? = Hl[d]?) ∧ ∀ j, j < l → c.apartL j k)) k ⟨_, 0, Hl, rfl, rfl, by omega, zf, zf, zf, Nat.le_refl _, fun _ _ => rfl, fun j hj => by omega⟩ ?_
    clear e1 e9
    rintro m st ⟨ρ, l, Hm, rfl, rfl, hl, e1, e9, e10, lm, hal⟩
    unfold b_rotaref02_links_39
    have k3 := (hal.1 b1 (by omega)).trans k2
    by_cases hlk : l < k
    · have hxl : (l : Int) < (k : Int) := by omega
      have ym : ∀ b, b < H.length → Hm[b]? = H[b]? := fun b hb => (hal.1 b (by omega)).trans (f2 _ fun hap => (hap.1 b (by omega)).trans (fin0 _ fun _ _ _ _ _ yk => yk b hb))
      obtain ⟨la, y, ad, cd, s, o, z, p, lp, yp, kd, dr, dp, fr, lq, yq, nd, ea, hla, v1, ep, hlp, v2, eq, hlq, v3, w1, w2, w3, w4, w5, w6⟩ := fin0 _ fun hc hpt hall _ hn _ => lk_view hc hpt (j := k) (by omega) (hall k (by omega))
      obtain ⟨la', y', ad', cd', s', o', z', p', lp', yp', kd', dr', dp', fr', lq', yq', nd', ea', -, v1', ep', -, v2', eq', -, v3', w1', w2', w3', w4', w5', w6'⟩ := fin0 _ fun hc hpt hall _ hn _ => lk_view hc hpt (j := l) (by omega) (hall l (by omega))
      rw [ea] at ea'
      cases ea'
      rw [ep] at ep'
      cases ep'
      rw [eq] at eq'
      cases eq'
      rw [← ym la (by omega)] at v1 v1'
      rw [← ym lp (by omega)] at v2 v2'
      rw [← ym lq (by omega)] at v3 v3'
      have hapd : c.apartL l k ↔ ¬ (nd' = nd ∧ Cfg.meets (o' : Nat) (o' + 1 + z' : Nat) (o : Nat) (o + 1 + z : Nat)) := by
        unfold Cfg.apartL
        rw [w1, w2, w3, w1', w2', w3', show ((o' + 1 + z' : Nat) : Int) = (o' : Int) + 1 + z' by omega, show ((o + 1 + z : Nat) : Int) = (o : Int) + 1 + z by omega]
      have hnot : ¬ c.apartL l k → dB c.okLinks = false := fun h => dB_f fun h' => h (h'.2.2.2 l k hlk (fin0 _ fun _ _ _ _ hn _ => by omega))
      have hnext : c.apartL l k → ∀ j, j < l + 1 → c.apartL j k := fun h j hj => by
        by_cases e : j = l
        · subst e; exact h
        · exact hal.2 j (by omega)
      generalize c.apartL l k = P at *
      obtain ⟨dl, hdl⟩ : ∃ dl, (c.link k).dests.length = dl := ⟨_, rfl⟩
      obtain ⟨dl', hdl'⟩ : ∃ dl, (c.link l).dests.length = dl := ⟨_, rfl⟩
      rw [hdl] at v1
      rw [hdl'] at v1'
      have hcom : Cfg.meets (o : Nat) (o + 1 + z : Nat) (o' : Nat) (o' + 1 + z' : Nat) ↔ Cfg.meets (o' : Nat) (o' + 1 + z' : Nat) (o : Nat) (o + 1 + z : Nat) := by unfold Cfg.meets; omega
      have fin2 : Hid _ := fun (A : Prop) (h : _ → _ → _ → _ → _ → _ → A) => h hnot hnext hal ym hapd hcom
      clear hnot hnext hal ym hapd hcom w1 w2 w3 w1' w2' w3' hdl hdl'
      rw [ea, ep, eq] at k3
      have fea : Hid _ := fun (A : Prop) (h : _ → _ → _ → A) => h ea ep eq
      clear ea ep eq k2
      have hmt := fun Hx => s_rmeet (H := Hx) (a := o) (b := o + 1 + z) (c := o') (d := o' + 1 + z') (by omega)
      rw [show ((o' + 1 + z' : Nat) : Int) = (o' : Int) + 1 + z' by omega, show ((o + 1 + z : Nat) : Int) = (o : Int) + 1 + z by omega] at hmt
      have fmt : Hid _ := fun (A : Prop) (h : _ → A) => h hmt
      clear hmt
      by_cases c1 : nd = nd'
      · subst c1
        repeat (with_reducible first|(first|refine pI1 ?_|refine pS1 ?_);intros|refine pA1 ?_|refine pX1 ?_|refine pB1 ?_|exact True.intro)
        rename_i b3 H3 p3 g3 x3 H4 l4 g4 x4 b5 H5 p5 g5 x5 H6 l6 g6 x6 b7 H7 p7 g7 x7 H8 l8 g8 x8 b9 H9 p9 g9 x9 Ha la_ ga xa
        have k3' := (xa b1 (by omega)).trans ((x9 b1 (by omega)).trans ((x8 b1 (by omega)).trans ((x7 b1 (by omega)).trans ((x6 b1 (by omega)).trans ((x5 b1 (by omega)).trans ((x4 b1 (by omega)).trans ((x3 b1 (by omega)).trans k3)))))))
        have hxa : ∀ d, d < Hm.length → Ha[d]? = Hm[d]? := fun d hd => by rw [xa d (by omega), x9 d (by omega), x8 d (by omega), x7 d (by omega), x6 d (by omega), x5 d (by omega), x4 d (by omega), x3 d (by omega)]
        have fh : Hid _ := fun (A : Prop) (h : _ → A) => h hxa
        clear x3 x4 x5 x6 x7 x8 x9 xa g3 g4 g5 g6 g7 g8 g9 ga k3 v1 v1' v2 v2' v3 v3' hxa
        repeat (with_reducible first|(first|refine pI1 ?_|refine pS1 ?_);intros|refine pA1 ?_|refine pX1 ?_|refine pB1 ?_|exact True.intro)
        refine outM_call (fmt _ fun h => h Ha) ?_
        rintro _ Ha ⟨rfl, rfl⟩
        by_cases hme : Cfg.meets o (o + 1 + z) o' (o' + 1 + z')
        · have e := fin2 _ fun hnot _ _ _ hapd hcom => hnot fun hp => (hapd.1 hp) ⟨rfl, hcom.1 (by rw [show ((o' + 1 + z' : Nat) : Int) = (o' : Int) + 1 + z' by omega, show ((o + 1 + z : Nat) : Int) = (o : Int) + 1 + z by omega]; exact hme)⟩
          rw [dB_t hme, e]
          clear hme e
          repeat (with_reducible first|(first|refine pI1 ?_|refine pS1 ?_);intros|refine pA1 ?_|refine pX1 ?_|refine pB1 ?_|exact True.intro)
          exact ⟨rfl, by omega, fun b hb => by rw [fh _ fun h => h b (by omega)]; exact fin2 _ fun _ _ _ ym _ _ => ym b hb⟩
        · rw [dB_f hme]
          have fm : Hid _ := fun (A : Prop) (h : _ → A) => h hme
          clear hme
          repeat (with_reducible first|(first|refine pI1 ?_|refine pS1 ?_);intros|refine pA1 ?_|refine pX1 ?_|refine pB1 ?_|exact True.intro)
          exact loopQ_n (k - (l + 1)) (by omega) ⟨_, l + 1, Ha, rfl, rfl, by omega, zf, zf, zf, by omega, fm _ fun hme => fh _ fun hxa => fin2 _ fun _ hnext hal _ hapd hcom => ⟨fun d hd => by rw [hxa d (by omega)]; exact hal.1 d hd, hnext (hapd.2 fun h => hme (by
            have := hcom.2 h.2
            rwa [show ((o' + 1 + z' : Nat) : Int) = (o' : Int) + 1 + z' by omega, show ((o + 1 + z : Nat) : Int) = (o : Int) + 1 + z by omega] at this))⟩⟩
      · repeat (with_reducible first|(first|refine pI1 ?_|refine pS1 ?_);intros|refine pA1 ?_|refine pX1 ?_|refine pB1 ?_|exact True.intro)
        rename_i b3 H3 p3 g3 x3 H4 l4 g4 x4 b5 H5 p5 g5 x5 H6 l6 g6 x6 b7 H7 p7 g7 x7 H8 l8 g8 x8 b9 H9 p9 g9 x9 Ha la_ ga xa
        have k3' := (xa b1 (by omega)).trans ((x9 b1 (by omega)).trans ((x8 b1 (by omega)).trans ((x7 b1 (by omega)).trans ((x6 b1 (by omega)).trans ((x5 b1 (by omega)).trans ((x4 b1 (by omega)).trans ((x3 b1 (by omega)).trans k3)))))))
        have hxa : ∀ d, d < Hm.length → Ha[d]? = Hm[d]? := fun d hd => by rw [xa d (by omega), x9 d (by omega), x8 d (by omega), x7 d (by omega), x6 d (by omega), x5 d (by omega), x4 d (by omega), x3 d (by omega)]
        have fh : Hid _ := fun (A : Prop) (h : _ → A) => h hxa
        clear x3 x4 x5 x6 x7 x8 x9 xa g3 g4 g5 g6 g7 g8 g9 ga k3 v1 v1' v2 v2' v3 v3' hxa
        repeat (with_reducible first|(first|refine pI1 ?_|refine pS1 ?_);intros|refine pA1 ?_|refine pX1 ?_|refine pB1 ?_|exact True.intro)
        exact loopQ_n (k - (l + 1)) (by omega) ⟨_, l + 1, Ha, rfl, rfl, by omega, zf, zf, zf, by omega, fh _ fun hxa => fin2 _ fun _ hnext hal _ hapd hcom => ⟨fun d hd => by rw [hxa d (by omega)]; exact hal.1 d hd, hnext (hapd.2 fun h => c1 h.1.symm)⟩⟩
    · obtain rfl : l = k := by omega
      have hxl : ¬ (l : Int) < (l : Int) := by omega
      have fl : Hid _ := fun (A : Prop) (h : _ → A) => h hal
      clear hal
      repeat (with_reducible first|(first|refine pI1 ?_|refine pS1 ?_);intros|refine pA1 ?_|refine pX1 ?_|refine pB1 ?_|exact True.intro)
      exact loopQ_n (n - (l + 1)) (by omega) ⟨_, l + 1, Hm, rfl, rfl, by omega, zf, zf, by omega, fl _ fun hal => f2 _ fun hap => ⟨fun d hd => by rw [hal.1 d (by omega)]; exact hap.1 d hd, fun j q h1 h2 => by
        by_cases e : j = l
        · subst e; exact hal.2 q h1
        · exact hap.2 j q h1 (by omega)⟩⟩
  · obtain rfl : k = n := by omega
    have hxk : ¬ (k : Int) < (k : Int) := by omega
    have e : dB c.okLinks = true := dB_t (fin0 _ fun _ _ hall hcn hn _ => ⟨by omega, fun l hl => by
      obtain ⟨j, hj, rfl⟩ := List.mem_iff_getElem.1 hl
      have := hall j hj
      rwa [show c.link j = c.links[j] by simp [Cfg.link, hj]] at this, hcn, fun j l h1 h2 => hap.2 l j h1 (by omega)⟩)
    rw [e]
    have fl : Hid _ := fun (A : Prop) (h : _ → A) => h hap
    clear hap
    repeat (with_reducible first|(first|refine pI1 ?_|refine pS1 ?_);intros|refine pA1 ?_|refine pX1 ?_|refine pB1 ?_|exact True.intro)
    exact ⟨rfl, by omega, fun b hb => by rw [fl _ fun hap => hap.1 b (by omega)]; exact fin0 _ fun _ _ _ _ _ yk => yk b hb⟩
end
end Go.Proofs.Yteiiddefimpplaa.AM.D08

namespace Go.Proofs.Yteiiddefimpplaa.AM.D08
open Go Go.Proofs.Yteiiddefimpplaa.AM Go.Proofs.Yteiiddefimpplaa.AM.C02
set_option maxHeartbeats 2000000
set_option maxRecDepth 100000
attribute [local go_sem] tn_add1 tn_sub1 put_all' nums_len sub12 sub3 sub6 rep6
section
variable {N : Nat} {H : Heap} {c : Cfg} {h : Hd}
theorem used_in : ∀ {i : Nat}, i ≤ c.links.length → (∀ j, j < i → c.okLink (c.link j)) → ∀ x ∈ Cfg.used (c.links.take i), c.isP x
  | 0, _, _, x, hx => by simp [Cfg.used] at hx
  | i + 1, hi, h, x, hx => by
    rw [used_take (by omega)] at hx
    rcases List.mem_append.1 hx with hx | hx
    · exact used_in (by omega) (fun j hj => h j (by omega)) x hx
    · have hl := h i (by omega)
      rcases List.mem_cons.1 hx with rfl | hx
      · exact hl.1.1
      · exact (hl.2 x hx).1
theorem used_few {i : Nat} (hi : i ≤ c.links.length) (h : ∀ j, j < i → c.okLink (c.link j)) (hcn : ∀ n : Int, cn n (Cfg.used (c.links.take i)) ≤ 1) : (Cfg.used (c.links.take i)).length ≤ c.ports.length := by
  have h1 := rng_all (l := Cfg.used (c.links.take i)) (n := c.ports.length) fun x hx => used_in hi h x hx
  have h2 := rng_few (l := Cfg.used (c.links.take i)) c.ports.length fun k _ => hcn k
  omega
theorem rl_counts {Hk : Heap} {ρ : Env} {b1 nu : Nat} {ua : Option Ad} {uo : Bool} (hc : CfgM N H c h) (hN : N ≤ H.length) (hpt : c.okPorts) (hn64 : c.links.length ≤ 64) (e1 : ρ 1 = .c (.ptr (some (b1, 0)))) (e3 : ρ 3 = .c (.sl ua nu nu uo)) (k1 : Hk[b1]? = some (.cells (c.cells h) false none)) (lk : H.length ≤ Hk.length) (yk : ∀ b, b < H.length → Hk[b]? = H[b]?)
    (hall : ∀ j, j < c.links.length → c.okLink (c.link j)) (hu : Sl Hk 1 ua nu (nums (Cfg.used c.links))) (hnu : (Cfg.used c.links).length = nu) (hn6 : nu ≤ 64) :
    WO F o_rotaref02_links_22 (L 227 ρ) Hk fun t H' => W F none ((IC.block 4 b_rotaref02_links_27.loop).seq (((IC.ops o_rotaref02_links_28).seq (IC.block 6 b_rotaref02_links_41.loop)).seq ((IC.ops o_rotaref02_links_42).seq IC.ret))) ⟨t, [], H'⟩ (callQ [(2, none)] fun v H' => v = .c (.bool (dB c.okLinks)) ∧ Xt H H') := by
  have hpairs : ∀ ρ : Env, ρ 1 = .c (.ptr (some (b1, 0))) → (∀ n : Int, cn n (Cfg.used c.links) ≤ 1) → _ := fun ρ e hcn => rl_pairs (ρ := ρ) hc hN hpt hn64 e k1 lk yk hall hcn
  obtain ⟨m, hm⟩ : ∃ m, c.ports.length = m := ⟨_, rfl⟩
  have hm64 : m ≤ 64 := by have := hpt.1; omega
  unfold Cfg.cells at k1
  rw [hm] at k1
  have hin : ∀ x ∈ Cfg.used c.links, c.isP x := fun x hx => used_in (c := c) (Nat.le_refl _) hall x (by rw [List.take_length]; exact hx)
  obtain ⟨o28, ho⟩ : ∃ o, o = o_rotaref02_links_28 := ⟨_, rfl⟩
  rw [← ho] at hpairs ⊢
  have hcb : ∀ x, cn x (Cfg.used c.links) ≤ nu := fun x => by rw [← hnu]; exact List.countP_le_length
  have fin0 : Hid _ := fun (A : Prop) (h : _ → _ → _ → _ → _ → _ → _ → _ → A) => h hpairs hu hnu hin ho hm yk hcb
  clear hc hpt hall hu hnu hin ho hm yk hpairs hcb
  repeat (with_reducible first|(first|refine pI1 ?_|refine pS1 ?_);intros|refine pA1 ?_|refine pX1 ?_|refine pB1 ?_|exact True.intro)
  refine W_loop (fun mm st => ∃ ρ, ∃ k : Nat, st = ⟨L 227 ρ, [], Hk⟩ ∧ mm = m - k ∧ k ≤ m ∧ ρ 1 = .c (.ptr (some (b1, 0))) ∧ ρ 3 = .c (.sl ua nu nu uo) ∧ ρ 8 = .c (.int .i64 (k : Nat)) ∧ ∀ j : Nat, j < k → cn (j : Int) (Cfg.used c.links) ≤ 1) m ⟨_, 0, rfl, rfl, by omega, zf, zf, zf, fun j hj => by omega⟩ ?_
  clear e1 e3
  rintro mm st ⟨ρ, k, rfl, rfl, hk, e1, e3, e8, hall⟩
  unfold b_rotaref02_links_27
  have fa : Hid _ := fun (A : Prop) (h : _ → A) => h hall
  clear hall
  by_cases hkm : k < m
  · have hxt : (k : Int) < (m : Int) := by omega
    have hcnt := fin0 _ fun _ hu hnu _ _ _ _ _ => s_rcount (c := nu) (o := uo) (x := (k : Nat)) (by omega) hnu hu
    have hcb := fin0 _ fun _ _ _ _ _ _ _ hcb => hcb (k : Nat)
    have hno : 1 < cn (k : Int) (Cfg.used c.links) → dB c.okLinks = false := fun h => dB_f fun h' => by have := h'.2.2.1 k; omega
    have hyes : cn (k : Int) (Cfg.used c.links) ≤ 1 → ∀ j : Nat, j < k + 1 → cn (j : Int) (Cfg.used c.links) ≤ 1 := fun h j hj => by
      by_cases e : j = k
      · subst e; exact h
      · exact fa _ fun hall => hall j (by omega)
    generalize cn (k : Int) (Cfg.used c.links) = q at *
    have fh : Hid _ := fun (A : Prop) (h : _ → _ → A) => h hno hyes
    clear hno hyes
    repeat (with_reducible first|(first|refine pI1 ?_|refine pS1 ?_);intros|refine pA1 ?_|refine pX1 ?_|refine pB1 ?_|exact True.intro)
    refine outM_call hcnt ?_
    rintro _ Hk ⟨rfl, rfl⟩
    clear hcnt
    by_cases hq : 1 < q
    · have e := fh _ fun hno _ => hno hq
      rw [e]
      repeat (with_reducible first|(first|refine pI1 ?_|refine pS1 ?_);intros|refine pA1 ?_|refine pX1 ?_|refine pB1 ?_|exact True.intro)
      exact ⟨rfl, by omega, fin0 _ fun _ _ _ _ _ _ yk _ => yk⟩
    · have hy := fh _ fun _ hyes => hyes (by omega)
      have fy : Hid _ := fun (A : Prop) (h : _ → A) => h hy
      clear hy
      repeat (with_reducible first|(first|refine pI1 ?_|refine pS1 ?_);intros|refine pA1 ?_|refine pX1 ?_|refine pB1 ?_|exact True.intro)
      exact loopQ_n (m - (k + 1)) (by omega) ⟨_, k + 1, rfl, rfl, by omega, zf, zf, zf, fy _ fun h => h⟩
  · obtain rfl : k = m := by omega
    have hxt : ¬ (k : Int) < (k : Int) := by omega
    repeat (with_reducible first|(first|refine pI1 ?_|refine pS1 ?_);intros|refine pA1 ?_|refine pX1 ?_|refine pB1 ?_|exact True.intro)
    refine fin0 _ fun hpairs _ _ hin _ hm _ _ => hpairs _ zf fun n => ?_
    by_cases hn : c.isP n
    · obtain ⟨j, rfl⟩ : ∃ j : Nat, n = j := ⟨n.toNat, by have := hn.1; omega⟩
      exact fa _ fun hall => hall j (by have := hn.2; omega)
    · have : ¬ 0 < cn n (Cfg.used c.links) := fun h => hn (hin n (cn_pos.1 h))
      omega
end
end Go.Proofs.Yteiiddefimpplaa.AM.D08

namespace Go.Proofs.Yteiiddefimpplaa.AM.D08
open Go Go.Proofs.Yteiiddefimpplaa.AM Go.Proofs.Yteiiddefimpplaa.AM.C02
set_option maxHeartbeats 2000000
set_option maxRecDepth 100000
attribute [local go_sem] tn_add1 tn_sub1 put_all' nums_len sub12 sub3 sub6 rep6
section
variable {N : Nat} {H : Heap} {c : Cfg} {h : Hd}
theorem ld6 {k : Option Blk} {o : Nat} {a b d w3 f g : Cell} (h : ldnB k o 6 = some [a, b, d, w3, f, g]) : ldB k (o + 2) = some d ∧ ldB k (o + 3) = some w3 ∧ ldB k (o + 1) = some b := by
  match k, h with
  | some (.cells cs ro gg), h =>
    have h : sub cs o 6 = some [a, b, d, w3, f, g] := h
    unfold sub at h
    split at h
    · have e := Option.some.inj h
      have e0 : ((cs.drop o).take 6)[1]? = some b := by rw [e]; rfl
      have e1 : ((cs.drop o).take 6)[2]? = some d := by rw [e]; rfl
      have e2 : ((cs.drop o).take 6)[3]? = some w3 := by rw [e]; rfl
      simp at e0 e1 e2
      exact ⟨by simpa [ldB] using e1, by simpa [ldB] using e2, by simpa [ldB] using e0⟩
    · cases h
theorem s_rlinks (hc : CfgM N H c h) (hN : N ≤ H.length) (hpt : c.okPorts) (hdest : ∀ l ∈ c.links, l.dests.length ≤ 1048576) : WC F fn_rotaref02_links [.agg (c.cells h)] H fun v H' => v = .c (.bool (dB c.okLinks)) ∧ Xt H H' := by
  refine WC_start e_rotaref02_links (by simp) ?_
  unfold c_rotaref02_links
  have hm64 : c.ports.length ≤ 64 := hpt.1
  by_cases hbig : 64 < c.links.length
  · have e : dB c.okLinks = false := dB_f fun h => by have := h.1; omega
    rw [e]
    clear hc hdest hpt
    unfold Cfg.cells
    repeat (with_reducible first|(first|refine pI1 ?_|refine pS1 ?_);intros|refine pA1 ?_|refine pX1 ?_|refine pB1 ?_|exact True.intro)
    rename_i b1 H1 p1 g1 x1
    repeat (with_reducible first|(first|refine pI1 ?_|refine pS1 ?_);intros|refine pA1 ?_|refine pX1 ?_|refine pB1 ?_|exact True.intro)
    exact ⟨rfl, by omega, fun b hb => x1 b (by omega)⟩
  have hcounts := fun (Hk : Heap) (ρ : Env) (b1 nu : Nat) (ua : Option Ad) (uo : Bool) e1 e3 k1 lk yk hall hu hnu hn6 => rl_counts (Hk := Hk) (ρ := ρ) (b1 := b1) (nu := nu) (ua := ua) (uo := uo) hc hN hpt (by omega) e1 e3 k1 lk yk hall hu hnu hn6
  obtain ⟨o22, ho⟩ : ∃ o, o = o_rotaref02_links_22 := ⟨_, rfl⟩
  rw [← ho] at hcounts ⊢
  have his := fun (Hx : Heap) (n : Int) => s_ris (H := Hx) (c := c) (h := h) (n := n)
  obtain ⟨a1, c1, a8, c8, a9, c9, a10, c10, a11, c11⟩ := h
  unfold Cfg.cells at hcounts his ⊢
  dsimp only at hcounts his ⊢
  obtain ⟨n, hn⟩ : ∃ n, c.links.length = n := ⟨_, rfl⟩
  obtain ⟨m, hm⟩ : ∃ m, c.ports.length = m := ⟨_, rfl⟩
  rw [hn] at hbig ⊢
  rw [hm] at hm64 ⊢
  rw [hn, hm] at his
  have fin0 : Hid _ := fun (A : Prop) (h : _ → _ → _ → _ → _ → _ → _ → A) => h hc hpt hdest hcounts hn hm ho
  have fis : Hid _ := fun (A : Prop) (h : _ → A) => h his
  clear hc hpt hdest hcounts hn hm ho his
  repeat (with_reducible first|(first|refine pI1 ?_|refine pS1 ?_);intros|refine pA1 ?_|refine pX1 ?_|refine pB1 ?_|exact True.intro)
  rename_i b1 H1 p1 g1 x1
  have fx : Hid _ := fun (A : Prop) (h : _ → A) => h x1
  clear x1
  repeat (with_reducible first|(first|refine pI1 ?_|refine pS1 ?_);intros|refine pA1 ?_|refine pX1 ?_|refine pB1 ?_|exact True.intro)
  refine W_loop (fun mm st => ∃ ρ, ∃ i nu : Nat, ∃ uo Hk ua, st = ⟨L 227 ρ, [], Hk⟩ ∧ mm = n - i ∧ i ≤ n ∧ ρ 1 = .c (.ptr (some (b1, 0))) ∧ ρ 3 = .c (.sl ua nu nu uo) ∧ ρ 4 = .c (.int .i64 (i : Nat)) ∧ H1.length ≤ Hk.length ∧ nu ≤ 64 ∧ Hid ((∀ d, d < H1.length → Hk[d]? = H1[d]?) ∧ Gr H1.length Hk 1 ua nu uo (nums (Cfg.used (c.links.take i))) ∧ ∀ j, j < i → c.okLink (c.link j))) n ⟨_, 0, 0, false, H1, none, rfl, rfl, by omega, zf, zf, zf, Nat.le_refl _, by omega, fun _ _ => rfl, Gr.none _ _ _, fun j hj => by omega⟩ ?_
  rintro mm st ⟨ρ, i, nu, uo, Hk, ua, rfl, rfl, hi, e1, e3, e4, lk, hnu, hall⟩
  unfold b_rotaref02_links_21
  have k1 := (hall.1 b1 (by omega)).trans g1
  by_cases hin : i < n
  · have hxt : (i : Int) < (n : Int) := by omega
    have yk : ∀ b, b < H.length → Hk[b]? = H[b]? := fun b hb => (hall.1 b (by omega)).trans (fx _ fun x1 => x1 b (by omega))
    obtain ⟨la, y, ad, cd, ea, hla, v1, hsl, hsN, hmem, -⟩ := fin0 _ fun hc _ _ _ hn _ _ => link_at hc (i := i) (by omega)
    rw [← yk la (by omega)] at v1
    have hdl := fin0 _ fun _ _ hdest _ _ _ _ => hdest _ hmem
    have hport : ∀ s : Nat, s < m → ∃ lp yp, a10 = some (lp, yp) ∧ lp < N ∧ ldnB H[lp]? (yp + s * 6) 6 = some (c.port (s : Nat)).cells := fun s hs => fin0 _ fun hc _ _ _ _ hm _ => by
      obtain ⟨lp, yp, q1, q2, q3, -⟩ := port_at hc (i := s) (by omega)
      exact ⟨lp, yp, q1, q2, q3⟩
    have hpsz : ∀ s : Nat, s < m → 1 ≤ (c.port (s : Nat)).size ∧ (c.port (s : Nat)).size ≤ 32 := fun s hs => fin0 _ fun hc hpt _ _ _ hm _ => by
      obtain ⟨-, -, -, -, -, q4⟩ := port_at hc (i := s) (by omega)
      have := (hpt.2 _ q4).1
      exact ⟨this.2.2.1, this.2.2.2.1⟩
    have fsz : Hid _ := fun (A : Prop) (h : _ → A) => h hpsz
    clear hpsz
    have hnosrc : ¬ c.okSrc (c.link i) → dB c.okLinks = false := fun h' => dB_f (no_src (fin0 _ fun _ _ _ _ hn _ _ => by omega) (.inl h'))
    have hosrc : c.okSrc (c.link i) ↔ ((0 ≤ (c.link i).src ∧ (c.link i).src < (m : Int)) ∧ (c.port (c.link i).src).dir = 1 ∧ (c.link i).dests ≠ [] ∧ 0 ≤ (c.link i).off ∧ (c.link i).off ≤ 63 - (c.port (c.link i).src).size) := by
      unfold Cfg.okSrc Cfg.isP
      rw [fin0 _ fun _ _ _ _ _ hm _ => hm]
    have hseq : c.link i = c.link i := rfl
    generalize hlk : c.link i = L0 at *
    obtain ⟨src, dests, off⟩ := L0
    dsimp only at v1 hsl hdl hosrc
    obtain ⟨dl, hdl'⟩ : ∃ dl, dests.length = dl := ⟨_, rfl⟩
    rw [hdl'] at v1 hsl hdl
    have hds : dests ≠ [] ↔ dl ≠ 0 := by rw [← hdl']; cases dests <;> simp
    rw [hds] at hosrc
    have f1 : Hid _ := fun (A : Prop) (h : _ → _ → _ → _ → _ → _ → _ → _ → _ → _ → A) => h hall yk hsl hsN hmem hport hnosrc hosrc hlk hdl'
    clear hall yk hsl hsN hmem hport hnosrc hosrc hlk hdl' hds hseq
    have hbad : ¬ ((0 ≤ src ∧ src < (m : Int)) ∧ (c.port src).dir = 1 ∧ dl ≠ 0 ∧ 0 ≤ off ∧ off ≤ 63 - (c.port src).size) → dB c.okLinks = false := fun h' => f1 _ fun _ _ _ _ _ _ hnosrc hosrc _ _ => hnosrc fun h'' => h' (hosrc.1 h'')
    have fb : Hid _ := fun (A : Prop) (h : _ → A) => h hbad
    clear hbad
    have ea : a11 = some (la, y) := ea
    subst ea
    repeat (with_reducible first|(first|refine pI1 ?_|refine pS1 ?_);intros|refine pA1 ?_|refine pX1 ?_|refine pB1 ?_|exact True.intro)
    rename_i b3 H3 p3 g3 x3 H4 l4 g4 x4
    have k1' := (x4 b1 (by omega)).trans ((x3 b1 (by omega)).trans k1)
    have hx4 : ∀ d, d < Hk.length → H4[d]? = Hk[d]? := fun d hd => by rw [x4 d (by omega), x3 d (by omega)]
    have f4 : Hid _ := fun (A : Prop) (h : _ → A) => h hx4
    clear x3 x4 hx4 k1 v1 g3
    repeat (with_reducible first|(first|refine pI1 ?_|refine pS1 ?_);intros|refine pA1 ?_|refine pX1 ?_|refine pB1 ?_|exact True.intro)
    refine outM_call (fis _ fun h => h H4 src) ?_
    rintro _ H5 ⟨rfl, l5, x5⟩
    have k5 := (x5 b1 (by omega)).trans k1'
    have g5 := (x5 b3 (by omega)).trans g4
    have hxe : ∀ b, b < H.length → H5[b]? = H[b]? := fun b hb => by rw [x5 b (by omega), f4 _ fun h => h b (by omega)]; exact f1 _ fun _ yk _ _ _ _ _ _ _ _ => yk b hb
    have f5 : Hid _ := fun (A : Prop) (h : _ → _ → A) => h x5 hxe
    clear x5 hxe k1' g4
    by_cases z1 : 0 ≤ src ∧ src < (m : Int)
    case neg =>
      have e := fb _ fun h => h fun h' => z1 h'.1
      rw [decide_eq_false z1, e]
      repeat (with_reducible first|(first|refine pI1 ?_|refine pS1 ?_);intros|refine pA1 ?_|refine pX1 ?_|refine pB1 ?_|exact True.intro)
      exact ⟨rfl, by omega, f5 _ fun _ h => h⟩
    rw [decide_eq_true z1]
    obtain ⟨z11, z12⟩ := z1
    obtain ⟨s, rfl⟩ : ∃ s : Nat, src = s := ⟨src.toNat, by omega⟩
    obtain ⟨lp, yp, ep, hlp, v2⟩ := f1 _ fun _ _ _ _ _ hport _ _ _ _ => hport s (by omega)
    rw [← f5 _ fun _ h => h lp (by omega)] at v2
    have hsz := fsz _ fun h => h s (by omega)
    generalize hps : c.port (s : Nat) = ps at *
    obtain ⟨pa, kd, dr, sz, dp, fr⟩ := ps
    dsimp only [Pt.cells] at v2 hsz
    obtain ⟨sz1, sz2⟩ := hsz
    have ep : a10 = some (lp, yp) := ep
    subst ep
    have fps : Hid _ := fun (A : Prop) (h : _ → A) => h hps
    clear hps
    have hbad : ¬ (dr = 1 ∧ dl ≠ 0 ∧ 0 ≤ off ∧ off ≤ 63 - sz) → dB c.okLinks = false := fun h => fb _ fun hb => hb fun h' => h h'.2
    have fb2 : Hid _ := fun (A : Prop) (h : _ → A) => h hbad
    clear hbad fb
    have hdir : ldB H5[lp]? (yp + s * 6 + 2) = some (.int .i64 dr) ∧ ldB H5[lp]? (yp + s * 6 + 3) = some (.int .i64 sz) ∧ ldB H5[lp]? (yp + s * 6 + 1) = some (.int .i64 kd) := ld6 v2
    obtain ⟨v21, v22, v23⟩ := hdir
    have fv : Hid _ := fun (A : Prop) (h : _ → _ → _ → _ → A) => h v2 v21 v22 v23
    clear v2 v23
    by_cases z2 : dr = 1
    case neg =>
      have e := fb2 _ fun h => h fun h' => z2 h'.1
      rw [e]
      repeat (with_reducible first|(first|refine pI1 ?_|refine pS1 ?_);intros|refine pA1 ?_|refine pX1 ?_|refine pB1 ?_|exact True.intro)
      exact ⟨rfl, by omega, f5 _ fun _ h => h⟩
    by_cases z3 : dl = 0
    · have e := fb2 _ fun h => h fun h' => h'.2.1 z3
      have fz : Hid _ := fun (A : Prop) (h : _ → A) => h z3
      subst z2
      subst z3
      rw [e]
      repeat (with_reducible first|(first|refine pI1 ?_|refine pS1 ?_);intros|refine pA1 ?_|refine pX1 ?_|refine pB1 ?_|exact True.intro)
      exact ⟨rfl, by omega, f5 _ fun _ h => h⟩
    have z3' : ¬ (dl : Int) = 0 := by omega
    by_cases z4 : off < 0
    · have e := fb2 _ fun h => h fun h' => by omega
      rw [e]
      subst z2
      repeat (with_reducible first|(first|refine pI1 ?_|refine pS1 ?_);intros|refine pA1 ?_|refine pX1 ?_|refine pB1 ?_|exact True.intro)
      exact ⟨rfl, by omega, f5 _ fun _ h => h⟩
    by_cases z5 : 64 < off
    · have e := fb2 _ fun h => h fun h' => by omega
      rw [e]
      subst z2
      repeat (with_reducible first|(first|refine pI1 ?_|refine pS1 ?_);intros|refine pA1 ?_|refine pX1 ?_|refine pB1 ?_|exact True.intro)
      exact ⟨rfl, by omega, f5 _ fun _ h => h⟩
    by_cases z6 : 64 < off + 1 + sz
    · have e := fb2 _ fun h => h fun h' => by omega
      rw [e]
      subst z2
      repeat (with_reducible first|(first|refine pI1 ?_|refine pS1 ?_);intros|refine pA1 ?_|refine pX1 ?_|refine pB1 ?_|exact True.intro)
      exact ⟨rfl, by omega, f5 _ fun _ h => h⟩
    subst z2
    have hsrc : c.okSrc (c.link i) := f1 _ fun _ _ _ _ _ _ _ hosrc hlk _ => by rw [hlk]; exact hosrc.2 ⟨⟨z11, z12⟩, rfl, z3, by omega, by show off ≤ 63 - sz; omega⟩
    have fsrc : Hid _ := fun (A : Prop) (h : _ → A) => h hsrc
    clear hsrc fb2
    repeat (with_reducible first|(first|refine pI1 ?_|refine pS1 ?_);intros|refine pA1 ?_|refine pX1 ?_|refine pB1 ?_|exact True.intro)
    rename_i b7 H7 p7 g7 x7
    have hx7 : ∀ d, d < Hk.length → H7[d]? = Hk[d]? := fun d hd => by rw [x7 d (by omega), f5 _ fun x5 _ => x5 d (by omega)]; exact f4 _ fun h => h d hd
    have hgr := f1 _ fun hall _ _ _ _ _ _ _ _ _ => hall.2.1.keepX (H' := H7) hx7
    have haw : away ua b3 := f1 _ fun hall _ _ _ _ _ _ _ _ _ x e => by have := (hall.2.1.lt x e).2; omega
    have k7 := (x7 b1 (by omega)).trans k5
    have g37 := (x7 b3 (by omega)).trans g5
    refine outM_appG (j := 1) hgr (by omega) (Sl.blk g7 rfl) (by omega) (by omega) ?_
    intro a' H8 q1 q2 q3 q4 q5
    have k8 := (q3 b1 (by omega)).trans k7
    have g8 := (q4 b3 (by omega) haw).trans g37
    rw [show nums (Cfg.used (List.take i c.links)) ++ [Cell.int .i64 (s : Nat)] = nums (Cfg.used (List.take i c.links) ++ ((s : Int) :: dests.take 0)) by rw [nums_app]; rfl] at q1
    have h8 : ∀ d, d < H1.length → H8[d]? = H1[d]? := fun d hd => by rw [q3 d hd, hx7 d (by omega)]; exact f1 _ fun hall _ _ _ _ _ _ _ _ _ => hall.1 d hd
    have haw' := q5 b3 (by omega)
    have f8 : Hid _ := fun (A : Prop) (h : _ → _ → _ → A) => h q1 h8 haw'
    clear hgr haw k7 g37 x7 g7 hx7 q1 q3 q4 q5 h8 haw' k5 g5 v21 v22 fv
    obtain ⟨⟨da, dz⟩, had⟩ := f1 _ fun _ _ hsl _ _ _ _ _ _ _ => hsl.is_some (by omega)
    subst had
    repeat (with_reducible first|(first|refine pI1 ?_|refine pS1 ?_);intros|refine pA1 ?_|refine pX1 ?_|refine pB1 ?_|exact True.intro)
    refine W_loop (fun mm st => ∃ ρ, ∃ k : Nat, ∃ oo Hm aa, st = ⟨L 227 ρ, [], Hm⟩ ∧ mm = dl - k ∧ k ≤ dl ∧ ρ 1 = .c (.ptr (some (b1, 0))) ∧ ρ 3 = .c (.sl aa (nu + 1 + k) (nu + 1 + k) oo) ∧ ρ 4 = .c (.int .i64 (i : Nat)) ∧ ρ 5 = .c (.ptr (some (b3, 0))) ∧ ρ 6 = .c (.int .i64 (k : Nat)) ∧ H8.length ≤ Hm.length ∧
      Hid ((∀ d, d < H1.length → Hm[d]? = H1[d]?) ∧ Hm[b3]? = H8[b3]? ∧ away aa b3 ∧ Gr H1.length Hm 1 aa (nu + 1 + k) oo (nums (Cfg.used (List.take i c.links) ++ ((s : Int) :: dests.take k))) ∧ ∀ j, j < k → c.okDest (s : Nat) (gn dests j))) dl ⟨_, 0, true, H8, a', rfl, rfl, by omega, zf, zf, zf, zf, zf, Nat.le_refl _, f8 _ fun q1 h8 haw' => ⟨h8, rfl, haw', q1, fun j hj => by omega⟩⟩ ?_
    clear e1 e3 e4
    rintro mm st ⟨ρ, k, oo, Hm, aa, rfl, rfl, hk, e1, e3, e4, e5, e6, lm, hall⟩
    unfold b_rotaref02_links_17
    have km := (hall.1 b1 (by omega)).trans g1
    have gm := hall.2.1.trans g8
    by_cases hkd : k < dl
    · have hxk : (k : Int) < (dl : Int) := by omega
      have ym : ∀ b, b < H.length → Hm[b]? = H[b]? := fun b hb => (hall.1 b (by omega)).trans (fx _ fun x1 => x1 b (by omega))
      have hld := f1 _ fun _ _ hsl _ _ _ _ _ _ hdl' => hsl.gn hdl' hkd
      have hda : da < N := f1 _ fun _ _ _ hsN _ _ _ _ _ _ => hsN _ _ rfl
      rw [← ym da (by omega)] at hld
      dsimp only at hld
      have hbad : ¬ c.okDest (s : Nat) (gn dests k) → dB c.okLinks = false := fun h => dB_f (no_dest (i := i) (k := k) (fin0 _ fun _ _ _ _ hn _ _ => by omega) (f1 _ fun _ _ _ _ _ _ _ _ hlk hdl' => by rw [hlk]; show k < dests.length; omega) (.inl (f1 _ fun _ _ _ _ _ _ _ _ hlk _ => by rw [hlk]; exact h)))
      have hnext : c.okDest (s : Nat) (gn dests k) → ∀ j, j < k + 1 → c.okDest (s : Nat) (gn dests j) := fun h j hj => by
        by_cases e : j = k
        · subst e; exact h
        · exact hall.2.2.2.2 j (by omega)
      have hod : c.okDest (s : Nat) (gn dests k) ↔ ((0 ≤ gn dests k ∧ gn dests k < (m : Int)) ∧ (c.port (gn dests k)).dir = 2 ∧ (c.port (gn dests k)).kind = kd ∧ (c.port (gn dests k)).size = sz) := by
        unfold Cfg.okDest Cfg.isP
        rw [fin0 _ fun _ _ _ _ _ hm _ => hm, fps _ fun h => h]
      have htk : (s : Int) :: dests.take (k + 1) = ((s : Int) :: dests.take k) ++ [gn dests k] := f1 _ fun _ _ _ _ _ _ _ _ _ hdl' => by
        have e1 : gn dests k = dests[k]'(by omega) := by simp [gn, show k < dests.length by omega]
        rw [List.take_succ_eq_append_getElem (by omega), e1]; rfl
      generalize c.okDest (s : Nat) (gn dests k) = P at *
      generalize gn dests k = u at *
      obtain ⟨lp1, v2⟩ := f1 _ fun _ _ _ _ _ hport _ _ _ _ => hport s (by omega)
      obtain ⟨yp1, ep1, -, v2⟩ := v2
      cases ep1
      rw [← ym lp (by omega), fps _ fun h => h] at v2
      obtain ⟨w1, w2, w3⟩ := ld6 v2
      have f9 : Hid _ := fun (A : Prop) (h : _ → _ → _ → _ → _ → _ → A) => h hall ym hbad hnext hod htk
      clear hall ym hbad hnext hod htk v2 k8 g8
      repeat (with_reducible first|(first|refine pI1 ?_|refine pS1 ?_);intros|refine pA1 ?_|refine pX1 ?_|refine pB1 ?_|exact True.intro)
      refine outM_call (fis _ fun h => h Hm u) ?_
      rintro _ Hn ⟨rfl, ln, xn⟩
      have kn := (xn b1 (by omega)).trans km
      have gn' := (xn b3 (by omega)).trans gm
      rw [← xn lp (by omega)] at w1 w2 w3
      have fn : Hid _ := fun (A : Prop) (h : _ → A) => h xn
      clear xn km gm
      by_cases y1 : 0 ≤ u ∧ u < (m : Int)
      case neg =>
        have e := f9 _ fun _ _ hbad _ hod _ => hbad fun h => y1 (hod.1 h).1
        rw [decide_eq_false y1, e]
        clear w1 w2 w3
        repeat (with_reducible first|(first|refine pI1 ?_|refine pS1 ?_);intros|refine pA1 ?_|refine pX1 ?_|refine pB1 ?_|exact True.intro)
        exact ⟨rfl, by omega, fun b hb => by rw [fn _ fun xn => xn b (by omega)]; exact f9 _ fun _ ym _ _ _ _ => ym b hb⟩
      rw [decide_eq_true y1]
      obtain ⟨y11, y12⟩ := y1
      obtain ⟨u, rfl⟩ : ∃ w : Nat, u = w := ⟨u.toNat, by omega⟩
      obtain ⟨lp2, yp2, ep2, hlp2, v3⟩ := f1 _ fun _ _ _ _ _ hport _ _ _ _ => hport u (by omega)
      cases ep2
      rw [← f9 _ fun _ ym _ _ _ _ => ym lp (by omega), ← fn _ fun xn => xn lp (by omega)] at v3
      generalize hpu : c.port (u : Nat) = pu at *
      obtain ⟨upa, ukd, udr, usz, udp, ufr⟩ := pu
      obtain ⟨w4, w5, w6⟩ := ld6 v3
      have fpu : Hid _ := fun (A : Prop) (h : _ → A) => h hpu
      clear hpu v3
      dsimp only at w4 w5 w6
      have hob : ¬ (udr = 2 ∧ ukd = kd ∧ usz = sz) → dB c.okLinks = false := fun h => f9 _ fun _ _ hbad _ hod _ => hbad fun h' => h (hod.1 h').2
      have fob : Hid _ := fun (A : Prop) (h : _ → A) => h hob
      clear hob
      by_cases y2 : udr = 2
      case neg =>
        have e := fob _ fun h => h fun h' => y2 h'.1
        rw [e]
        clear w1 w2 w3 w5 w6
        repeat (with_reducible first|(first|refine pI1 ?_|refine pS1 ?_);intros|refine pA1 ?_|refine pX1 ?_|refine pB1 ?_|exact True.intro)
        exact ⟨rfl, by omega, fun b hb => by rw [fn _ fun xn => xn b (by omega)]; exact f9 _ fun _ ym _ _ _ _ => ym b hb⟩
      by_cases y3 : ukd = kd
      case neg =>
        have e := fob _ fun h => h fun h' => y3 h'.2.1
        rw [e]
        subst y2
        repeat (with_reducible first|(first|refine pI1 ?_|refine pS1 ?_);intros|refine pA1 ?_|refine pX1 ?_|refine pB1 ?_|exact True.intro)
        exact ⟨rfl, by omega, fun b hb => by rw [fn _ fun xn => xn b (by omega)]; exact f9 _ fun _ ym _ _ _ _ => ym b hb⟩
      by_cases y4 : usz = sz
      case neg =>
        have e := fob _ fun h => h fun h' => y4 h'.2.2
        rw [e]
        subst y2
        subst y3
        repeat (with_reducible first|(first|refine pI1 ?_|refine pS1 ?_);intros|refine pA1 ?_|refine pX1 ?_|refine pB1 ?_|exact True.intro)
        exact ⟨rfl, by omega, fun b hb => by rw [fn _ fun xn => xn b (by omega)]; exact f9 _ fun _ ym _ _ _ _ => ym b hb⟩
      have hP := f9 _ fun _ _ _ hnext hod _ => hnext (hod.2 ⟨⟨y11, y12⟩, y2, y3, y4⟩)
      have fP : Hid _ := fun (A : Prop) (h : _ → A) => h hP
      clear hP fob
      subst y2
      subst y3
      subst y4
      repeat (with_reducible first|(first|refine pI1 ?_|refine pS1 ?_);intros|refine pA1 ?_|refine pX1 ?_|refine pB1 ?_|exact True.intro)
      rename_i b9 H9 p9 g9 x9
      have hx9 : ∀ d, d < Hm.length → H9[d]? = Hm[d]? := fun d hd => by rw [x9 d (by omega)]; exact fn _ fun xn => xn d hd
      have hgr := f9 _ fun hall _ _ _ _ _ => hall.2.2.2.1.keepX (H' := H9) hx9
      have haw : away aa b3 := f9 _ fun hall _ _ _ _ _ => hall.2.2.1
      refine outM_appG (j := 1) hgr (by omega) (Sl.blk g9 rfl) (by omega) (by omega) ?_
      intro a2 Ha r1 r2 r3 r4 r5
      have hb3 : Ha[b3]? = H8[b3]? := by rw [r4 b3 (by omega) haw, hx9 b3 (by omega)]; exact f9 _ fun hall _ _ _ _ _ => hall.2.1
      rw [show nums (Cfg.used (List.take i c.links) ++ (s : Int) :: List.take k dests) ++ [Cell.int .i64 (u : Nat)] = nums (Cfg.used (List.take i c.links) ++ ((s : Int) :: dests.take (k + 1))) by rw [f9 _ fun _ _ _ _ _ htk => htk, ← List.append_assoc, nums_app _ [(u : Int)]]; rfl] at r1
      have fr : Hid _ := fun (A : Prop) (h : _ → _ → _ → _ → _ → A) => h r1 r3 hx9 hb3 r5
      clear r1 r3 r4 r5 hx9 hb3 hgr haw x9 g9
      repeat (with_reducible first|(first|refine pI1 ?_|refine pS1 ?_);intros|refine pA1 ?_|refine pX1 ?_|refine pB1 ?_|exact True.intro)
      exact loopQ_n (dl - (k + 1)) (by omega) ⟨_, k + 1, true, Ha, a2, rfl, rfl, by omega, zf, zf, zf, zf, zf, by omega, fr _ fun r1 r3 hx9 hb3 r5 => ⟨fun d hd => by rw [r3 d hd, hx9 d (by omega)]; exact f9 _ fun hall _ _ _ _ _ => hall.1 d hd, hb3, r5 b3 (by omega), r1, fP _ fun h => h⟩⟩
    · obtain rfl : k = dl := by omega
      have hxk : ¬ (k : Int) < (k : Int) := by omega
      have hU : Cfg.used (c.links.take (i + 1)) = Cfg.used (c.links.take i) ++ ((s : Int) :: dests.take k) := f1 _ fun _ _ _ _ _ _ _ _ hlk hdl' => by
        rw [used_take (fin0 _ fun _ _ _ _ hn _ _ => by omega), hlk, ← hdl', List.take_length]
      have hok1 : ∀ j, j < i + 1 → c.okLink (c.link j) := fun j hj => by
        by_cases e : j = i
        · subst e
          refine ⟨fsrc _ fun h => h, fun x hx => ?_⟩
          rw [f1 _ fun _ _ _ _ _ _ _ _ hlk _ => hlk] at hx ⊢
          obtain ⟨t, ht, rfl⟩ := gn_of hx
          exact hall.2.2.2.2 t (by have : t < dests.length := ht; have := f1 _ fun _ _ _ _ _ _ _ _ _ hdl' => hdl'; omega)
        · exact f1 _ fun hall _ _ _ _ _ _ _ _ _ => hall.2.2 j (by omega)
      have hlenU : (Cfg.used (c.links.take (i + 1))).length = nu + 1 + k := by
        have := hall.2.2.2.1.len
        rw [nums_len, Nat.mul_one] at this
        rw [hU]; exact this
      have hmany : m < nu + 1 + k → dB c.okLinks = false := fun h => dB_f fun h' => by
        have := used_few (c := c) (i := i + 1) (fin0 _ fun _ _ _ _ hn _ _ => by omega) hok1 fun n => Nat.le_trans (used_le n) (h'.2.2.1 n)
        rw [hlenU, fin0 _ fun _ _ _ _ _ hm _ => hm] at this
        omega
      have f9 : Hid _ := fun (A : Prop) (h : _ → _ → _ → _ → A) => h hall hU hok1 hmany
      clear hall hU hok1 hmany hlenU
      by_cases hmm : m < nu + 1 + k
      · have e := f9 _ fun _ _ _ h => h hmm
        have hmi : (m : Int) < (nu : Int) + 1 + k := by omega
        rw [e]
        repeat (with_reducible first|(first|refine pI1 ?_|refine pS1 ?_);intros|refine pA1 ?_|refine pX1 ?_|refine pB1 ?_|exact True.intro)
        exact ⟨rfl, by omega, fun b hb => by rw [f9 _ fun hall _ _ _ => hall.1 b (by omega)]; exact fx _ fun x1 => x1 b (by omega)⟩
      · have hmi : ¬ (m : Int) < (nu : Int) + 1 + k := by omega
        repeat (with_reducible first|(first|refine pI1 ?_|refine pS1 ?_);intros|refine pA1 ?_|refine pX1 ?_|refine pB1 ?_|exact True.intro)
        exact loopQ_n (n - (i + 1)) (by omega) ⟨_, i + 1, nu + 1 + k, oo, Hm, aa, rfl, rfl, by omega, zf, zf, zf, by omega, by omega, f9 _ fun hall hU hok1 _ => ⟨hall.1, by rw [hU]; exact hall.2.2.2.1, hok1⟩⟩
  · obtain rfl : i = n := by omega
    have hxt : ¬ (i : Int) < (i : Int) := by omega
    have yk : ∀ b, b < H.length → Hk[b]? = H[b]? := fun b hb => (hall.1 b (by omega)).trans (fx _ fun x1 => x1 b (by omega))
    have htl : c.links.take i = c.links := fin0 _ fun _ _ _ _ hn _ _ => by rw [← hn]; exact List.take_length
    have fy : Hid _ := fun (A : Prop) (h : _ → _ → _ → A) => h yk htl hall
    clear yk htl hall
    repeat (with_reducible first|(first|refine pI1 ?_|refine pS1 ?_);intros|refine pA1 ?_|refine pX1 ?_|refine pB1 ?_|exact True.intro)
    refine fin0 _ fun _ _ _ hcounts hn hm _ => fy _ fun yk htl hall => ?_
    rw [htl] at hall
    have hl := hall.2.1.len
    rw [nums_len, Nat.mul_one] at hl
    rw [← hn, ← hm] at k1
    exact hcounts Hk _ b1 nu ua uo zf zf k1 (by omega) yk (fun j hj => hall.2.2 j (by omega)) hall.2.1.sl hl hnu
end
end Go.Proofs.Yteiiddefimpplaa.AM.D08

namespace Go.Proofs.Yteiiddefimpplaa.AM.D08
open Go Go.Proofs.Yteiiddefimpplaa.AM Go.Proofs.Yteiiddefimpplaa.AM.C02
set_option maxHeartbeats 2000000
set_option maxRecDepth 100000
attribute [local go_sem] tn_add1 tn_sub1 put_all' nums_len sub12
structure Few (c : Cfg) : Prop where
  owners : c.owners.length ≤ 10000000
  ports : c.ports.length ≤ 10000000
  dests : ∀ l ∈ c.links, l.dests.length ≤ 1048576
section
variable {N : Nat} {H : Heap} {c : Cfg} {h : Hd}
theorem s_rCheck (hc : CfgM N H c h) (hN : N ≤ H.length) (hf : Few c) : WC F fn_rotaref02_Check [.agg (c.cells h)] H fun v H' => v = .c (.int .i64 c.check) ∧ Xt H H' := by
  refine WC_start e_rotaref02_Check (by simp) ?_
  unfold c_rotaref02_Check
  have h1 := fun (Hx : Heap) (hx : Xt H Hx) => s_rnodes (H := Hx) (hc.keep fun b hb => hx.2 b (by omega)) (by have := hx.1; omega) hf.owners
  have h2 := fun (Hx : Heap) => s_rclock (H := Hx) (c := c) (h := h)
  have h3 := fun (Hx : Heap) (hx : Xt H Hx) (ho : c.okNodes) => s_rparts (H := Hx) (hc.keep fun b hb => hx.2 b (by omega)) (by have := hx.1; omega) ⟨ho.1, ho.2.1⟩
  have h4 := fun (Hx : Heap) (hx : Xt H Hx) (ho : c.okNodes) (hp : c.okParts) => s_rwins (H := Hx) (hc.keep fun b hb => hx.2 b (by omega)) (by have := hx.1; omega) ⟨ho.1, ho.2.1⟩ hp.1
  have h5 := fun (Hx : Heap) (hx : Xt H Hx) (hp : c.okParts) => s_rports (H := Hx) (hc.keep fun b hb => hx.2 b (by omega)) (by have := hx.1; omega) hp.1 hf.ports
  have h6 := fun (Hx : Heap) (hx : Xt H Hx) (hp : c.okPorts) => s_rlinks (H := Hx) (hc.keep fun b hb => hx.2 b (by omega)) (by have := hx.1; omega) hp hf.dests
  obtain ⟨C, hC⟩ : ∃ C, C = c.cells h := ⟨_, rfl⟩
  have hsub : sub C 0 12 = some C := by rw [hC]; rfl
  rw [← hC] at h1 h2 h3 h4 h5 h6 ⊢
  have hck : c.check = if dB c.okNodes = false then 21 else if dB c.okClock = false then 22 else if dB c.okParts = false then 23 else if dB c.okWins = false then 24 else if dB c.okPorts = false then 25 else if dB c.okLinks = false then 26 else 0 := rfl
  obtain ⟨ck, hck'⟩ : ∃ ck, c.check = ck := ⟨_, rfl⟩
  rw [hck'] at hck ⊢
  have fin0 : Hid _ := fun (A : Prop) (h : _ → _ → _ → _ → _ → _ → _ → A) => h h1 h2 h3 h4 h5 h6 hck
  clear h1 h2 h3 h4 h5 h6 hck hck' hC hc hf
  repeat (with_reducible first|(first|refine pI1 ?_|refine pS1 ?_);intros|refine pA1 ?_|refine pX1 ?_|refine pB1 ?_|exact True.intro)
  rename_i b1 H1 p1 g1 x1
  have t1 : Xt H H1 := ⟨by omega, fun b hb => x1 b (by omega)⟩
  have f1 : Hid _ := fun (A : Prop) (h : _ → A) => h t1
  clear x1 t1
  repeat (with_reducible first|(first|refine pI1 ?_|refine pS1 ?_);intros|refine pA1 ?_|refine pX1 ?_|refine pB1 ?_|exact True.intro)
  refine outM_call (fin0 _ fun h _ _ _ _ _ _ => f1 _ fun t => h H1 t) ?_
  rintro _ H2 ⟨rfl, l2, x2⟩
  have g2 := (x2 b1 (by omega)).trans g1
  have t2 : Xt H H2 := f1 _ fun t => ⟨by omega, fun b hb => (x2 b (by omega)).trans (t.2 b hb)⟩
  have f2 : Hid _ := fun (A : Prop) (h : _ → A) => h t2
  clear x2 t2 g1 f1
  by_cases o1 : c.okNodes
  case neg =>
    have e : ck = 21 := fin0 _ fun _ _ _ _ _ _ hck => by rw [hck, if_pos (dB_f o1)]
    rw [dB_f o1]
    subst e
    clear o1
    repeat (with_reducible first|(first|refine pI1 ?_|refine pS1 ?_);intros|refine pA1 ?_|refine pX1 ?_|refine pB1 ?_|exact True.intro)
    exact ⟨rfl, f2 _ fun t => t⟩
  rw [dB_t o1]
  have fo1 : Hid _ := fun (A : Prop) (h : _ → A) => h o1
  clear o1
  repeat (with_reducible first|(first|refine pI1 ?_|refine pS1 ?_);intros|refine pA1 ?_|refine pX1 ?_|refine pB1 ?_|exact True.intro)
  refine outM_call (fin0 _ fun _ h _ _ _ _ _ => h H2) ?_
  rintro _ H3 ⟨rfl, l3, x3⟩
  have g3 := (x3 b1 (by omega)).trans g2
  have t3 : Xt H H3 := f2 _ fun t => ⟨by omega, fun b hb => (x3 b (by omega)).trans (t.2 b hb)⟩
  have f3 : Hid _ := fun (A : Prop) (h : _ → A) => h t3
  clear x3 t3 g2 f2
  by_cases o2 : c.okClock
  case neg =>
    have e : ck = 22 := fin0 _ fun _ _ _ _ _ _ hck => fo1 _ fun o1 => by rw [hck, if_neg (by rw [dB_t o1]; decide), if_pos (dB_f o2)]
    rw [dB_f o2]
    subst e
    clear o2
    repeat (with_reducible first|(first|refine pI1 ?_|refine pS1 ?_);intros|refine pA1 ?_|refine pX1 ?_|refine pB1 ?_|exact True.intro)
    exact ⟨rfl, f3 _ fun t => t⟩
  rw [dB_t o2]
  have fo2 : Hid _ := fun (A : Prop) (h : _ → A) => h o2
  clear o2
  repeat (with_reducible first|(first|refine pI1 ?_|refine pS1 ?_);intros|refine pA1 ?_|refine pX1 ?_|refine pB1 ?_|exact True.intro)
  refine outM_call (fin0 _ fun _ _ h _ _ _ _ => f3 _ fun t => fo1 _ fun o1 => h H3 t o1) ?_
  rintro _ H4 ⟨rfl, l4, x4⟩
  have g4 := (x4 b1 (by omega)).trans g3
  have t4 : Xt H H4 := f3 _ fun t => ⟨by omega, fun b hb => (x4 b (by omega)).trans (t.2 b hb)⟩
  have f4 : Hid _ := fun (A : Prop) (h : _ → A) => h t4
  clear x4 t4 g3 f3
  by_cases o3 : c.okParts
  case neg =>
    have e : ck = 23 := fin0 _ fun _ _ _ _ _ _ hck => fo1 _ fun o1 => fo2 _ fun o2 => by rw [hck, if_neg (by rw [dB_t o1]; decide), if_neg (by rw [dB_t o2]; decide), if_pos (dB_f o3)]
    rw [dB_f o3]
    subst e
    clear o3
    repeat (with_reducible first|(first|refine pI1 ?_|refine pS1 ?_);intros|refine pA1 ?_|refine pX1 ?_|refine pB1 ?_|exact True.intro)
    exact ⟨rfl, f4 _ fun t => t⟩
  rw [dB_t o3]
  have fo3 : Hid _ := fun (A : Prop) (h : _ → A) => h o3
  clear o3
  repeat (with_reducible first|(first|refine pI1 ?_|refine pS1 ?_);intros|refine pA1 ?_|refine pX1 ?_|refine pB1 ?_|exact True.intro)
  refine outM_call (fin0 _ fun _ _ _ h _ _ _ => f4 _ fun t => fo1 _ fun o1 => fo3 _ fun o3 => h H4 t o1 o3) ?_
  rintro _ H5 ⟨rfl, l5, x5⟩
  have g5 := (x5 b1 (by omega)).trans g4
  have t5 : Xt H H5 := f4 _ fun t => ⟨by omega, fun b hb => (x5 b (by omega)).trans (t.2 b hb)⟩
  have f5 : Hid _ := fun (A : Prop) (h : _ → A) => h t5
  clear x5 t5 g4 f4
  by_cases o4 : c.okWins
  case neg =>
    have e : ck = 24 := fin0 _ fun _ _ _ _ _ _ hck => fo1 _ fun o1 => fo2 _ fun o2 => fo3 _ fun o3 => by rw [hck, if_neg (by rw [dB_t o1]; decide), if_neg (by rw [dB_t o2]; decide), if_neg (by rw [dB_t o3]; decide), if_pos (dB_f o4)]
    rw [dB_f o4]
    subst e
    clear o4
    repeat (with_reducible first|(first|refine pI1 ?_|refine pS1 ?_);intros|refine pA1 ?_|refine pX1 ?_|refine pB1 ?_|exact True.intro)
    exact ⟨rfl, f5 _ fun t => t⟩
  rw [dB_t o4]
  have fo4 : Hid _ := fun (A : Prop) (h : _ → A) => h o4
  clear o4
  repeat (with_reducible first|(first|refine pI1 ?_|refine pS1 ?_);intros|refine pA1 ?_|refine pX1 ?_|refine pB1 ?_|exact True.intro)
  refine outM_call (fin0 _ fun _ _ _ _ h _ _ => f5 _ fun t => fo3 _ fun o3 => h H5 t o3) ?_
  rintro _ H6 ⟨rfl, l6, x6⟩
  have g6 := (x6 b1 (by omega)).trans g5
  have t6 : Xt H H6 := f5 _ fun t => ⟨by omega, fun b hb => (x6 b (by omega)).trans (t.2 b hb)⟩
  have f6 : Hid _ := fun (A : Prop) (h : _ → A) => h t6
  clear x6 t6 g5 f5
  by_cases o5 : c.okPorts
  case neg =>
    have e : ck = 25 := fin0 _ fun _ _ _ _ _ _ hck => fo1 _ fun o1 => fo2 _ fun o2 => fo3 _ fun o3 => fo4 _ fun o4 => by rw [hck, if_neg (by rw [dB_t o1]; decide), if_neg (by rw [dB_t o2]; decide), if_neg (by rw [dB_t o3]; decide), if_neg (by rw [dB_t o4]; decide), if_pos (dB_f o5)]
    rw [dB_f o5]
    subst e
    clear o5
    repeat (with_reducible first|(first|refine pI1 ?_|refine pS1 ?_);intros|refine pA1 ?_|refine pX1 ?_|refine pB1 ?_|exact True.intro)
    exact ⟨rfl, f6 _ fun t => t⟩
  rw [dB_t o5]
  have fo5 : Hid _ := fun (A : Prop) (h : _ → A) => h o5
  clear o5
  repeat (with_reducible first|(first|refine pI1 ?_|refine pS1 ?_);intros|refine pA1 ?_|refine pX1 ?_|refine pB1 ?_|exact True.intro)
  refine outM_call (fin0 _ fun _ _ _ _ _ h _ => f6 _ fun t => fo5 _ fun o5 => h H6 t o5) ?_
  rintro _ H7 ⟨rfl, l7, x7⟩
  have t7 : Xt H H7 := f6 _ fun t => ⟨by omega, fun b hb => (x7 b (by omega)).trans (t.2 b hb)⟩
  have f7 : Hid _ := fun (A : Prop) (h : _ → A) => h t7
  clear x7 t7 g6 f6
  by_cases o6 : c.okLinks
  case neg =>
    have e : ck = 26 := fin0 _ fun _ _ _ _ _ _ hck => fo1 _ fun o1 => fo2 _ fun o2 => fo3 _ fun o3 => fo4 _ fun o4 => fo5 _ fun o5 => by rw [hck, if_neg (by rw [dB_t o1]; decide), if_neg (by rw [dB_t o2]; decide), if_neg (by rw [dB_t o3]; decide), if_neg (by rw [dB_t o4]; decide), if_neg (by rw [dB_t o5]; decide), if_pos (dB_f o6)]
    rw [dB_f o6]
    subst e
    clear o6
    repeat (with_reducible first|(first|refine pI1 ?_|refine pS1 ?_);intros|refine pA1 ?_|refine pX1 ?_|refine pB1 ?_|exact True.intro)
    exact ⟨rfl, f7 _ fun t => t⟩
  have e : ck = 0 := fin0 _ fun _ _ _ _ _ _ hck => fo1 _ fun o1 => fo2 _ fun o2 => fo3 _ fun o3 => fo4 _ fun o4 => fo5 _ fun o5 => by rw [hck, if_neg (by rw [dB_t o1]; decide), if_neg (by rw [dB_t o2]; decide), if_neg (by rw [dB_t o3]; decide), if_neg (by rw [dB_t o4]; decide), if_neg (by rw [dB_t o5]; decide), if_neg (by rw [dB_t o6]; decide)]
  rw [dB_t o6]
  subst e
  clear o6
  repeat (with_reducible first|(first|refine pI1 ?_|refine pS1 ?_);intros|refine pA1 ?_|refine pX1 ?_|refine pB1 ?_|exact True.intro)
  exact ⟨rfl, f7 _ fun t => t⟩
end
theorem lk_rowW {H : Heap} {x : Lk.T.D} {cs : List Cell} (h : Vw Lk.T H x cs) : ∃ e, LkR H.length H e cs ∧ e.dests.length ≤ wt Lk.T x := by
  obtain ⟨_, _, rfl, ⟨rfl, w1⟩, _, _, rfl, h3, _, _, rfl, ⟨rfl, w2⟩, rfl⟩ := h
  obtain ⟨a, c, rfl, h1, h2, h3, h4⟩ := Vw.nums h3
  refine ⟨⟨x.1, x.2.1, x.2.2.1⟩, ⟨a, c, rfl, h3, fun b x e => h3.lt e, h4, h1, h2, wf_i64 w1, wf_i64 w2⟩, ?_⟩
  show List.length (α := Int) x.2.1 ≤ 1 + (1 + (List.map (fun d => wt I d) x.2.1).sum + (1 + 0))
  have : (List.map (fun d => wt I d) x.2.1).sum = List.length (α := Int) x.2.1 := by
    generalize x.2.1 = l
    show (List.map (fun _ : Int => 1) l).sum = _
    have hs : ∀ l : List Int, (List.map (fun _ : Int => 1) l).sum = l.length := fun l => by
      induction l with
      | nil => rfl
      | cons y l ih => simp only [List.map_cons, List.sum_cons, ih, List.length_cons]; omega
    exact hs l
  omega
theorem len1 {α : Type} (l : List α) : (l.map fun _ => 1).sum = l.length := by
  induction l with
  | nil => rfl
  | cons x l ih => simp only [List.map_cons, List.sum_cons, ih, List.length_cons]; omega
theorem cfg_rowW {H : Heap} {x : Cfg.T.D} {cs : List Cell} (h : Vw Cfg.T H x cs) : ∃ c h, cs = c.cells h ∧ CfgM H.length H c h ∧ (wt Cfg.T x ≤ 1048576 → Few c) := by
  obtain ⟨_, _, rfl, ⟨rfl, w1⟩, _, _, rfl, ho, _, _, rfl, ⟨rfl, w2⟩, _, _, rfl, ⟨rfl, w3⟩, _, _, rfl, ⟨rfl, w4⟩, _, _, rfl, ⟨rfl, w5⟩, _, _, rfl, ⟨rfl, w6⟩, _, _, rfl, ⟨rfl, w7⟩, _, _, rfl, hp, _, _, rfl, hw, _, _, rfl, hq, _, _, rfl, hl, rfl⟩ := h
  obtain ⟨a1, c1, rfl, k1, k2, k3, k4⟩ := Vw.nums ho
  obtain ⟨a8, c8, lp, rfl, p1, p2, p3⟩ := Vw.tab (R := PaR) (fun _ _ => pa_row) hp
  obtain ⟨a9, c9, lw, rfl, q1, q2, q3⟩ := Vw.tab (T := .sl I) (R := RowR H.length) (fun _ _ => row_row) hw
  obtain ⟨a10, c10, lt, rfl, r1, r2, r3, r4⟩ := Vw.tabW (R := PtR) (S := fun x _ => 1 ≤ wt Pt.T x) (fun _ _ h => (pt_row h).imp fun _ h => ⟨h, by show 1 ≤ 1 + _; omega⟩) hq
  obtain ⟨a11, c11, ll, rfl, s1, s2, s3, s4⟩ := Vw.tabW (R := LkR H.length) (S := fun x e => e.dests.length ≤ wt Lk.T x) (fun _ _ => lk_rowW) hl
  refine ⟨⟨_, _, _, _, _, _, _, _, lp, lw, lt, ll⟩, ⟨a1, c1, a8, c8, a9, c9, a10, c10, a11, c11⟩, rfl, ⟨k3, fun b x e => k3.lt e, p3, q3, r3, s3, wf_i64 w1, wf_i64 w2, wf_i64 w3, wf_i64 w4, wf_i64 w5, wf_i64 w6, wf_i64 w7, k4⟩, fun hwt => ?_⟩
  have b1 := all2_wt (f := fun _ => 1) r4
  have b2 := all2_wt (f := fun l : Lk => l.dests.length) s4
  rw [len1] at b1
  have hx : wt Cfg.T x = 1 + (wt (.sl I) x.2.1 + (1 + (1 + (1 + (1 + (1 + (1 + (wt (.sl Pa.T) x.2.2.2.2.2.2.2.2.1 + (wt (.sl (.sl I)) x.2.2.2.2.2.2.2.2.2.1 + (wt (.sl Pt.T) x.2.2.2.2.2.2.2.2.2.2.1 + (wt (.sl Lk.T) x.2.2.2.2.2.2.2.2.2.2.2.1 + 0))))))))))) := rfl
  have hp' : wt (.sl Pt.T) x.2.2.2.2.2.2.2.2.2.2.1 = 1 + (x.2.2.2.2.2.2.2.2.2.2.1.map fun d => wt Pt.T d).sum := rfl
  have hl' : wt (.sl Lk.T) x.2.2.2.2.2.2.2.2.2.2.2.1 = 1 + (x.2.2.2.2.2.2.2.2.2.2.2.1.map fun d => wt Lk.T d).sum := rfl
  have ho' : wt (.sl I) x.2.1 = 1 + List.length (α := Int) x.2.1 := congrArg (1 + ·) (len1 (α := Int) x.2.1)
  refine ⟨by show List.length (α := Int) x.2.1 ≤ _; omega, by show lt.length ≤ _; omega, fun l hl => ?_⟩
  have hmem : ∀ {ll : List Lk}, l ∈ ll → l.dests.length ≤ (ll.map fun l : Lk => l.dests.length).sum := fun {ll} => by
    induction ll with
    | nil => intro h; cases h
    | cons y ll ih =>
      intro h
      simp only [List.map_cons, List.sum_cons]
      rcases List.mem_cons.1 h with rfl | h
      · omega
      · have := ih h; omega
  have := hmem (ll := ll) hl
  omega
end Go.Proofs.Yteiiddefimpplaa.AM.D08

namespace Go.Proofs.Yteiiddefimpplaa.AM.C08
open Go Go.Proofs.Yteiiddefimpplaa.AM
def E : Int := 1099511627776
def cutZ (v lo hi : Int) : Int := max lo (min hi v)
structure Clk where
  nodes : Nat
  drift : Int
  reading : Int
  margin : Int
  bound : Int
  offset : Int
  heard : Nat → Bool
  readings : Nat → Int
abbrev gh (k : Clk) (n : Nat) : Bool := k.heard n
def rd (k : Clk) (ms : Nat) (own : Int) (n : Nat) : Option Int := if P3.bt ms n = true ∧ ((n : Int) = own ∨ gh k n = true) then some (if (n : Int) = own then 0 else k.readings n) else none
def ofL (k : Clk) (ms : Nat) (own : Int) (m : Nat) : List Int := (List.range m).filterMap (rd k ms own)
def loI (n : Nat) : Nat := if 2 < n then 1 else 0
def hiI (n : Nat) : Nat := if 2 < n then n - 2 else n - 1
def avgS (s : List Int) : Int := if s.length = 0 then 0 else (gn s (loI s.length) + gn s (hiI s.length)) / 2
def avg (k : Clk) (ms : Nat) (own : Int) : Int := avgS (sorted (ofL k ms own k.nodes))
abbrev le_ (x : Int) (l : List Int) : Nat := l.countP fun y => decide (y ≤ x)
theorem ord_le {s : List Int} (h : s.Pairwise (· ≤ ·)) (x : Int) : ∀ i, i < s.length → (gn s i ≤ x ↔ i < le_ x s) := by
  induction s with
  | nil => intro i hi; simp at hi
  | cons y s ih =>
    obtain ⟨h1, h2⟩ := List.pairwise_cons.1 h
    intro i hi
    by_cases hy : y ≤ x
    · have e : le_ x (y :: s) = le_ x s + 1 := by simp [le_, hy]
      rw [e]
      cases i with
      | zero => simp [gn, hy]
      | succ i =>
        have := ih h2 i (by simpa using hi)
        rw [show gn (y :: s) (i + 1) = gn s i from rfl, this]; omega
    · have e : le_ x (y :: s) = 0 := by
        unfold le_
        rw [List.countP_eq_zero]
        intro z hz
        rcases List.mem_cons.1 hz with rfl | hz
        · simpa using Int.not_le.1 hy
        · have := h1 z hz; simp; omega
      rw [e]
      constructor
      · intro hlt
        exfalso
        have hm := gn_mem hi
        rcases List.mem_cons.1 hm with h3 | h3
        · omega
        · have := h1 _ h3; omega
      · omega
theorem le_map {α : Type} {S : List α} {x y : α → Int} {d v : Int} (h : ∀ n ∈ S, x n ≤ y n + d) : le_ v (S.map y) ≤ le_ (v + d) (S.map x) := by
  induction S with
  | nil => exact Nat.le_refl _
  | cons n S ih =>
    have ih := ih fun m hm => h m (List.mem_cons_of_mem _ hm)
    have hn := h n List.mem_cons_self
    rw [List.map_cons, List.map_cons]
    unfold le_ at *
    rw [List.countP_cons, List.countP_cons]
    by_cases h1 : y n ≤ v
    · have h2 : x n ≤ v + d := by omega
      rw [if_pos (by simpa using h1), if_pos (by simpa using h2)]; omega
    · rw [if_neg (by simpa using h1)]; omega
theorem ord_near {α : Type} {S : List α} {x y : α → Int} {d : Int} (h : ∀ n ∈ S, x n ≤ y n + d) {j : Nat} (hj : j < S.length) : gn (sorted (S.map x)) j ≤ gn (sorted (S.map y)) j + d := by
  have lx : (sorted (S.map x)).length = S.length := by rw [sorted_length, List.length_map]
  have ly : (sorted (S.map y)).length = S.length := by rw [sorted_length, List.length_map]
  have h1 := (ord_le (sorted_pw (S.map y)) (gn (sorted (S.map y)) j) j (by omega)).1 (Int.le_refl _)
  unfold le_ at h1
  rw [(sorted_perm (S.map y)).countP_eq] at h1
  refine (ord_le (sorted_pw (S.map x)) _ j (by omega)).2 ?_
  unfold le_
  rw [(sorted_perm (S.map x)).countP_eq]
  exact Nat.lt_of_lt_of_le h1 (le_map h)
theorem lo_lt {n : Nat} (h : 0 < n) : loI n < n := by unfold loI; split <;> omega
theorem hi_lt {n : Nat} (h : 0 < n) : hiI n < n := by unfold hiI; split <;> omega
theorem avg_le {α : Type} {S : List α} {x y : α → Int} {d : Int} (h : ∀ n ∈ S, x n ≤ y n + d) (hS : 0 < S.length) : avgS (sorted (S.map x)) ≤ avgS (sorted (S.map y)) + d := by
  have lx : (sorted (S.map x)).length = S.length := by rw [sorted_length, List.length_map]
  have ly : (sorted (S.map y)).length = S.length := by rw [sorted_length, List.length_map]
  unfold avgS
  rw [if_neg (by omega), if_neg (by omega), lx, ly]
  have h1 := ord_near h (lo_lt hS)
  have h2 := ord_near h (hi_lt hS)
  omega
theorem avg_shift {α : Type} {S : List α} {x y : α → Int} {c : Int} (h : ∀ n ∈ S, x n = y n + c) (hS : 0 < S.length) : avgS (sorted (S.map x)) = avgS (sorted (S.map y)) + c := by
  have h1 := avg_le (S := S) (x := x) (y := y) (d := c) (fun n hn => by rw [h n hn]; omega) hS
  have h2 := avg_le (S := S) (x := y) (y := x) (d := -c) (fun n hn => by rw [h n hn]; omega) hS
  omega
theorem avg_const {α : Type} {S : List α} {c : Int} (hS : 0 < S.length) : avgS (sorted (S.map fun _ => c)) = c := by
  have lx : (sorted (S.map fun _ => c)).length = S.length := by rw [sorted_length, List.length_map]
  have hall : ∀ j, j < S.length → gn (sorted (S.map fun _ => c)) j = c := fun j hj => by
    have hm := gn_mem (l := sorted (S.map fun _ => c)) (i := j) (by omega)
    have := (sorted_perm (S.map fun _ => c)).subset hm
    simp at this; exact this.2.symm
  unfold avgS
  rw [if_neg (by omega), lx, hall _ (lo_lt hS), hall _ (hi_lt hS)]
  omega
theorem avg_within {α : Type} {S : List α} {x : α → Int} {c d : Int} (h : ∀ n ∈ S, c - d ≤ x n ∧ x n ≤ c + d) (hS : 0 < S.length) : c - d ≤ avgS (sorted (S.map x)) ∧ avgS (sorted (S.map x)) ≤ c + d := by
  have e := avg_const (S := S) (c := c) hS
  have h1 := avg_le (S := S) (x := x) (y := fun _ => c) (d := d) (fun n hn => (h n hn).2) hS
  have h2 := avg_le (S := S) (x := fun _ => c) (y := x) (d := d) (fun n hn => by have := (h n hn).1; omega) hS
  omega
theorem ofL_all {k : Clk} {ms : Nat} {own : Int} {m : Nat} (h : ∀ n, n < m → P3.bt ms n = true → (n : Int) = own ∨ gh k n = true) : ofL k ms own m = ((List.range m).filter fun n => P3.bt ms n).map fun (n : Nat) => if (n : Int) = own then 0 else k.readings n := by
  unfold ofL
  induction m with
  | zero => rfl
  | succ m ih =>
    rw [List.range_succ, List.filterMap_append, List.filter_append, List.map_append, ih fun n hn => h n (by omega)]
    congr 1
    have hm := h m (by omega)
    cases hb : P3.bt ms m with
    | true => simp [rd, hb, hm hb]
    | false => simp [rd, hb]
theorem ofL_s (k : Clk) (ms : Nat) (own : Int) (m : Nat) : ofL k ms own (m + 1) = ofL k ms own m ++ (rd k ms own m).toList := by
  unfold ofL
  rw [List.range_succ, List.filterMap_append]
  have : List.filterMap (rd k ms own) [m] = (rd k ms own m).toList := by cases h : rd k ms own m <;> simp [List.filterMap, h]
  rw [this]
theorem ofL_len (k : Clk) (ms : Nat) (own : Int) (m : Nat) : (ofL k ms own m).length ≤ m := by
  have := List.length_filterMap_le (rd k ms own) (List.range m)
  rwa [List.length_range] at this
theorem cut_in {v lo hi : Int} (h1 : lo ≤ v) (h2 : v ≤ hi) : cutZ v lo hi = v := by unfold cutZ; omega
theorem cut_le {v lo hi : Int} (h : lo ≤ hi) : lo ≤ cutZ v lo hi ∧ cutZ v lo hi ≤ hi := by unfold cutZ; omega
structure ClkC (k : Clk) (C : List Cell) : Prop where
  len : C.length = 38
  c0 : C[0]? = some (.int .i64 (k.nodes : Nat))
  c1 : C[1]? = some (.int .i64 k.drift)
  c2 : C[2]? = some (.int .i64 k.reading)
  c3 : C[3]? = some (.int .i64 k.margin)
  c4 : C[4]? = some (.int .i64 k.bound)
  c5 : C[5]? = some (.int .i64 k.offset)
  ch : ∀ n, n < 16 → C[6 + n]? = some (.bool (k.heard n))
  cr : ∀ n, n < 16 → C[22 + n]? = some (.int .i64 (k.readings n))
structure ClkOk (k : Clk) : Prop where
  n4 : 4 ≤ k.nodes
  n16 : k.nodes ≤ 16
  d : 0 ≤ k.drift ∧ k.drift ≤ 1048576
  r : 0 ≤ k.reading ∧ k.reading ≤ 1048576
  m : 0 ≤ k.margin ∧ k.margin ≤ 16777216
  b : 0 ≤ k.bound ∧ k.bound ≤ 16777216
  o : -E ≤ k.offset ∧ k.offset ≤ E
  rs : ∀ n, -2 * E ≤ k.readings n ∧ k.readings n ≤ 2 * E
def Clk.move (k : Clk) (by_ : Int) : Clk := { k with offset := cutZ (k.offset + by_) (-E) E }
def Clk.drifts (k : Clk) (by_ : Int) : Clk := k.move (cutZ by_ (-k.drift) k.drift)
def Clk.set (k : Clk) (o : Int) : Clk := { k with offset := o, heard := fun _ => false }
def Clk.hear (k : Clk) (n : Nat) (v : Int) : Clk := { k with heard := fun j => if j = n then true else k.heard j, readings := fun j => if j = n then v else k.readings j }
def Clk.clear (k : Clk) : Clk := { k with heard := fun _ => false }
def Clk.read (k : Clk) (o m : Int) : Int := cutZ o (-E) E - k.offset + cutZ m (-k.reading) k.reading
def Clk.round (k : Clk) (ms : Nat) (own : Int) : Int := cutZ (avg k ms own) (-k.bound) k.bound
theorem ClkC.off {k : Clk} {C : List Cell} (h : ClkC k C) (o : Int) : ClkC { k with offset := o } (C.set 5 (.int .i64 o)) := by
  obtain ⟨l, h0, h1, h2, h3, h4, h5, hh, hr⟩ := h
  refine ⟨by simp [l], by simpa using h0, by simpa using h1, by simpa using h2, by simpa using h3, by simpa using h4, by simp [l], fun n hn => ?_, fun n hn => ?_⟩
  · rw [List.getElem?_set_ne (by omega)]; exact hh n hn
  · rw [List.getElem?_set_ne (by omega)]; exact hr n hn
theorem ClkC.clr {k : Clk} {C : List Cell} (h : ClkC k C) : ClkC k.clear (put C 6 (List.replicate 16 (.bool false))) := by
  obtain ⟨l, h0, h1, h2, h3, h4, h5, hh, hr⟩ := h
  have hg : ∀ i, (put C 6 (List.replicate 16 (.bool false)))[i]? = if 6 ≤ i ∧ i < 22 then some (.bool false) else C[i]? := fun i => by
    rw [put_get (by rw [List.length_replicate, l]; omega), List.length_replicate]
    by_cases hi : 6 ≤ i ∧ i < 22
    · rw [if_pos hi, if_pos (by omega), List.getElem?_replicate, if_pos (by omega)]
    · rw [if_neg hi, if_neg (by omega)]
  refine ⟨by rw [put_length]; exact l, ?_, ?_, ?_, ?_, ?_, ?_, fun n hn => ?_, fun n hn => ?_⟩ <;> rw [hg]
  · rw [if_neg (by omega)]; exact h0
  · rw [if_neg (by omega)]; exact h1
  · rw [if_neg (by omega)]; exact h2
  · rw [if_neg (by omega)]; exact h3
  · rw [if_neg (by omega)]; exact h4
  · rw [if_neg (by omega)]; exact h5
  · rw [if_pos (by omega)]; rfl
  · rw [if_neg (by omega)]; exact hr n hn
theorem ClkC.hr {k : Clk} {C : List Cell} (h : ClkC k C) {n : Nat} (hn : n < 16) (v : Int) : ClkC (k.hear n v) ((C.set (6 + n) (.bool true)).set (22 + n) (.int .i64 v)) := by
  obtain ⟨l, h0, h1, h2, h3, h4, h5, hh, hr⟩ := h
  refine ⟨by simp [l], ?_, ?_, ?_, ?_, ?_, ?_, fun j hj => ?_, fun j hj => ?_⟩
  · rw [List.getElem?_set_ne (by omega), List.getElem?_set_ne (by omega)]; exact h0
  · rw [List.getElem?_set_ne (by omega), List.getElem?_set_ne (by omega)]; exact h1
  · rw [List.getElem?_set_ne (by omega), List.getElem?_set_ne (by omega)]; exact h2
  · rw [List.getElem?_set_ne (by omega), List.getElem?_set_ne (by omega)]; exact h3
  · rw [List.getElem?_set_ne (by omega), List.getElem?_set_ne (by omega)]; exact h4
  · rw [List.getElem?_set_ne (by omega), List.getElem?_set_ne (by omega)]; exact h5
  · rw [List.getElem?_set_ne (by omega)]
    show _ = some (Cell.bool (if j = n then true else k.heard j))
    by_cases e : j = n
    · subst e; rw [if_pos rfl, List.getElem?_set_self (by omega)]
    · rw [if_neg e, List.getElem?_set_ne (by omega)]; exact hh j hj
  · show _ = some (Cell.int .i64 (if j = n then v else k.readings j))
    by_cases e : j = n
    · subst e; rw [if_pos rfl, List.getElem?_set_self (by simp; omega)]
    · rw [if_neg e, List.getElem?_set_ne (by omega), List.getElem?_set_ne (by omega)]; exact hr j hj
theorem ClkOk.cut {k : Clk} (h : ClkOk k) (o : Int) (ho : -E ≤ o ∧ o ≤ E) : ClkOk { k with offset := o } := ⟨h.n4, h.n16, h.d, h.r, h.m, h.b, ho, h.rs⟩
theorem ClkOk.move {k : Clk} (h : ClkOk k) (b : Int) : ClkOk (k.move b) := h.cut _ (cut_le (by unfold E; omega))
theorem ClkOk.clear {k : Clk} (h : ClkOk k) : ClkOk k.clear := ⟨h.n4, h.n16, h.d, h.r, h.m, h.b, h.o, h.rs⟩
theorem ClkOk.hear {k : Clk} (h : ClkOk k) {n : Nat} {v : Int} (hv : -2 * E ≤ v ∧ v ≤ 2 * E) : ClkOk (k.hear n v) := ⟨h.n4, h.n16, h.d, h.r, h.m, h.b, h.o, fun j => by
  show _ ≤ (if j = n then v else k.readings j) ∧ (if j = n then v else k.readings j) ≤ _
  split
  · exact hv
  · exact h.rs j⟩
end Go.Proofs.Yteiiddefimpplaa.AM.C08

namespace Go.Proofs.Yteiiddefimpplaa.AM.C08
open Go Go.Proofs.Yteiiddefimpplaa.AM
theorem near_law {S : List Nat} (hS : 0 < S.length) {o x0 x1 : Nat → Int} {a0 a1 R : Int} (h0 : ∀ n ∈ S, -R ≤ x0 n + a0 - o n ∧ x0 n + a0 - o n ≤ R) (h1 : ∀ n ∈ S, -R ≤ x1 n + a1 - o n ∧ x1 n + a1 - o n ≤ R) :
    (a0 + avgS (sorted (S.map x0))) - (a1 + avgS (sorted (S.map x1))) ≤ 2 * R ∧ -(2 * R) ≤ (a0 + avgS (sorted (S.map x0))) - (a1 + avgS (sorted (S.map x1))) := by
  have s0 := avg_shift (S := S) (x := fun n => x0 n + a0) (y := x0) (c := a0) (fun n _ => rfl) hS
  have s1 := avg_shift (S := S) (x := fun n => x1 n + a1) (y := x1) (c := a1) (fun n _ => rfl) hS
  have q1 := avg_le (S := S) (x := fun n => x0 n + a0) (y := fun n => x1 n + a1) (d := 2 * R) (fun n hn => by have := h0 n hn; have := h1 n hn; show x0 n + a0 ≤ x1 n + a1 + 2 * R; omega) hS
  have q2 := avg_le (S := S) (x := fun n => x1 n + a1) (y := fun n => x0 n + a0) (d := 2 * R) (fun n hn => by have := h0 n hn; have := h1 n hn; show x1 n + a1 ≤ x0 n + a0 + 2 * R; omega) hS
  omega
def mem (ms m : Nat) : List Nat := (List.range m).filter fun n => P3.bt ms n
theorem mem_in {ms m n : Nat} (h : n ∈ mem ms m) : n < m ∧ P3.bt ms n = true := by
  unfold mem at h
  simpa using h
theorem mem_pos {ms m n : Nat} (h : n < m) (hb : P3.bt ms n = true) : 0 < (mem ms m).length := by
  have : n ∈ mem ms m := by unfold mem; simp [h, hb]
  exact List.length_pos_of_mem this
theorem avg_all {k : Clk} {ms : Nat} {own : Int} (h : ∀ n, n < k.nodes → P3.bt ms n = true → (n : Int) = own ∨ gh k n = true) : avg k ms own = avgS (sorted ((mem ms k.nodes).map fun (n : Nat) => if (n : Int) = own then 0 else k.readings n)) := by
  unfold avg
  rw [ofL_all h]; rfl
theorem round_law {N : Nat} {f g : Nat → Int} {D R mg bd : Int} {r : Nat → Nat → Int} {ms : Nat} (hN : 0 < N) (hD : 0 ≤ D) (hR : 0 ≤ R) (hms : ∀ n, n < N → P3.bt ms n = true) (hmg : 2 * (2 * (D + R) + 1) + R ≤ mg) (hbd : 2 * (2 * (D + R) + 1) + R ≤ bd)
    (hf : ∀ n m, n < N → m < N → f n - f m ≤ 2 * R) (hg : ∀ n, n < N → -D ≤ g n - f n ∧ g n - f n ≤ D) (hr : ∀ n m, n < N → m < N → -R ≤ r n m - (g m - g n) ∧ r n m - (g m - g n) ≤ R) :
    (∀ n m, n < N → m < N → g n - g m ≤ 2 * (D + R) + 1 ∧ -mg ≤ r n m ∧ r n m ≤ mg) ∧
    (∀ n, n < N → -(3 * R + 2 * D) ≤ avgS (sorted ((mem ms N).map fun (m : Nat) => if (m : Int) = (n : Nat) then 0 else r n m)) ∧ avgS (sorted ((mem ms N).map fun (m : Nat) => if (m : Int) = (n : Nat) then 0 else r n m)) ≤ 3 * R + 2 * D) ∧
    ∀ n m, n < N → m < N → (g n + avgS (sorted ((mem ms N).map fun (j : Nat) => if (j : Int) = (n : Nat) then 0 else r n j))) - (g m + avgS (sorted ((mem ms N).map fun (j : Nat) => if (j : Int) = (m : Nat) then 0 else r m j))) ≤ 2 * R := by
  have hgg : ∀ n m, n < N → m < N → g n - g m ≤ 2 * R + 2 * D := fun n m hn hm => by have := hf n m hn hm; have := hg n hn; have := hg m hm; omega
  have hpos : 0 < (mem ms N).length := mem_pos hN (hms 0 hN)
  refine ⟨fun n m hn hm => ?_, fun n hn => ?_, fun n m hn hm => ?_⟩
  · have := hgg n m hn hm
    have := hgg m n hm hn
    have := hr n m hn hm
    omega
  · have := avg_within (S := mem ms N) (x := fun (m : Nat) => if (m : Int) = (n : Nat) then 0 else r n m) (c := 0) (d := 3 * R + 2 * D) (fun m hm => by
      have hmN := (mem_in hm).1
      have := hgg n m hn hmN
      have := hgg m n hmN hn
      have := hr n m hn hmN
      split <;> omega) hpos
    omega
  · exact (near_law (S := mem ms N) (o := g) hpos (fun j hj => by
      have hjN := (mem_in hj).1
      have := hr n j hn hjN
      split
      · rename_i e
        have : j = n := by omega
        subst this; omega
      · omega) (fun j hj => by
      have hjN := (mem_in hj).1
      have := hr m j hm hjN
      split
      · rename_i e
        have : j = m := by omega
        subst this; omega
      · omega)).1
end Go.Proofs.Yteiiddefimpplaa.AM.C08

namespace Go.Proofs.Yteiiddefimpplaa.AM.C08
open Go Go.Proofs.Yteiiddefimpplaa.AM
def restL (k : Clk) (ms : Nat) (own : Int) (i : Nat) : List Int := (List.range' i (k.nodes - i)).filterMap (rd k ms own)
theorem restL_0 (k : Clk) (ms : Nat) (own : Int) : restL k ms own 0 = ofL k ms own k.nodes := by
  unfold restL ofL
  rw [Nat.sub_zero, List.range_eq_range']
theorem restL_s {k : Clk} {ms : Nat} {own : Int} {i : Nat} (h : i < k.nodes) : restL k ms own i = (rd k ms own i).toList ++ restL k ms own (i + 1) := by
  unfold restL
  rw [show k.nodes - i = (k.nodes - (i + 1)) + 1 by omega, List.range'_succ, List.filterMap_cons]
  cases rd k ms own i <;> simp
theorem restL_e {k : Clk} {ms : Nat} {own : Int} : restL k ms own k.nodes = [] := by
  unfold restL
  rw [Nat.sub_self]; rfl
theorem bt_testBit (ms n : Nat) : P3.bt ms n = ms.testBit n := by
  unfold P3.bt
  rw [Nat.testBit_eq_decide_div_mod_eq]
  cases h : decide (ms / 2 ^ n % 2 = 1) <;> simp at h <;> simp [h]
theorem and_bit (ms n : Nat) : (ms &&& 2 ^ n = 0) ↔ P3.bt ms n = false := by
  rw [bt_testBit]
  constructor
  · intro h
    have := congrArg (fun x => Nat.testBit x n) h
    simp [Nat.testBit_and, Nat.testBit_two_pow] at this
    exact this
  · intro h
    apply Nat.eq_of_testBit_eq
    intro i
    rw [Nat.testBit_and, Nat.testBit_two_pow, Nat.zero_testBit]
    by_cases e : n = i
    · subst e; rw [h]; rfl
    · simp [e]
theorem and_lt {ms n : Nat} (h : ms < 65536) : ms &&& 2 ^ n < 65536 := Nat.lt_of_le_of_lt Nat.and_le_left h
end Go.Proofs.Yteiiddefimpplaa.AM.C08

namespace Go.Proofs.Yteiiddefimpplaa.AM.C08
open Go Go.Proofs.Yteiiddefimpplaa.AM Go.Proofs.Yteiiddefimpplaa.AM.C02
def allM : Nat → Nat
  | 0 => 0
  | i + 1 => allM i ||| 2 ^ i
theorem allM_bit (n : Nat) : ∀ N, P3.bt (allM N) n = decide (n < N)
  | 0 => by rw [bt_testBit]; simp [allM]
  | N + 1 => by
    have ih := allM_bit n N
    rw [bt_testBit] at ih ⊢
    unfold allM
    rw [Nat.testBit_or, ih, Nat.testBit_two_pow]
    by_cases h : n < N
    · simp [h]; omega
    · by_cases e : N = n
      · subst e; simp
      · simp [h, e]; omega
def Clk.heardN (k : Clk) (v : Nat → Int) (n : Nat) : Clk := { k with heard := fun j => decide (j < n), readings := fun j => if j < n then v j else k.readings j }
theorem heardN_ok {k : Clk} (h : ClkOk k) {v : Nat → Int} {n : Nat} (hv : ∀ j, j < n → -2 * E ≤ v j ∧ v j ≤ 2 * E) : ClkOk (k.heardN v n) := ⟨h.n4, h.n16, h.d, h.r, h.m, h.b, h.o, fun j => by
  show _ ≤ (if j < n then v j else k.readings j) ∧ (if j < n then v j else k.readings j) ≤ _
  split
  · exact hv j (by assumption)
  · exact h.rs j⟩
theorem read_near {k : Clk} (h : ClkOk k) {o m : Int} (ho : -E ≤ o ∧ o ≤ E) : o - k.offset - k.reading ≤ k.read o m ∧ k.read o m ≤ o - k.offset + k.reading := by
  have h2 := cut_le (v := m) (lo := -k.reading) (hi := k.reading) (by have := h.r; omega)
  unfold Clk.read
  rw [cut_in ho.1 ho.2]
  omega
end Go.Proofs.Yteiiddefimpplaa.AM.C08

namespace Go.Proofs.Yteiiddefimpplaa.AM.C08
structure TgI (N : Nat) (D R mg bd : Int) (t : Nat) (f : Nat → Clk) : Prop where
  par : ∀ j, j < N → (f j).nodes = N ∧ (f j).drift = D ∧ (f j).reading = R ∧ (f j).margin = mg ∧ (f j).bound = bd
  ok : ∀ j, j < N → ClkOk (f j)
  hh : ∀ n, n < N → ∀ j, (f n).heard j = false
  near : ∀ n m, n < N → m < N → (f n).offset - (f m).offset ≤ 2 * R
  off : ∀ j, j < N → -((t : Int) * 8000000) ≤ (f j).offset ∧ (f j).offset ≤ (t : Int) * 8000000
structure TgT (N : Nat) (D R mg : Int) (f f1 : Nat → Clk) (oo : Nat → Int) (rv : Nat → Nat → Int) (av : Nat → Int) : Prop where
  ok1 : ∀ j, j < N → ClkOk (f1 j)
  of1 : ∀ j, j < N → (f1 j).offset = oo j
  nd1 : ∀ j, j < N → (f1 j).nodes = N
  hh1 : ∀ n, n < N → ∀ j, (f1 n).heard j = false
  far : ∀ n m, n < N → m < N → max (oo n - oo m) (oo m - oo n) ≤ 2 * (D + R) + 1
  fit : ∀ n m, n < N → m < N → -(f1 n).margin ≤ rv n m ∧ rv n m ≤ (f1 n).margin
  b2 : ∀ n m, n < N → m < N → -2 * E ≤ rv n m ∧ rv n m ≤ 2 * E
  ok2 : ∀ j, j < N → ClkOk ((f1 j).heardN (rv j) N)
  bnd : ∀ j, j < N → -((f1 j).heardN (rv j) N).bound ≤ av j ∧ av j ≤ ((f1 j).heardN (rv j) N).bound
theorem TgI.turn {N t : Nat} {D R mg bd : Int} {f f1 : Nat → Clk} {oo : Nat → Int} {rv : Nat → Nat → Int} {av : Nat → Int} {dv : Nat → Int} {ev : Nat → Nat → Int} (h : TgI N D R mg bd t f) (ht : t < 20) (hN : 0 < N) (hD : 0 ≤ D ∧ D ≤ 1048576) (hR : 0 ≤ R ∧ R ≤ 1048576) (hmg : 2 * (2 * (D + R) + 1) + R ≤ mg) (hmg2 : mg ≤ 16777216) (hbd : 2 * (2 * (D + R) + 1) + R ≤ bd)
    (hf1 : f1 = fun j => (f j).drifts (dv j)) (hoo : oo = fun j => (f1 j).offset) (hrv : ∀ n m, rv n m = (f1 n).read (oo m) (ev n m)) (hav : ∀ j, j < N → av j = avg ((f1 j).heardN (rv j) N) (allM N) (j : Nat)) :
    TgT N D R mg f f1 oo rv av ∧ TgI N D R mg bd (t + 1) fun j => (((f1 j).heardN (rv j) N).move (av j)).clear := by
  have hoff : ∀ j, j < N → -160000000 ≤ (f j).offset ∧ (f j).offset ≤ 160000000 := fun j hj => by have := h.off j hj; omega
  have hE : E = 1099511627776 := rfl
  have hoj : ∀ j, j < N → oo j = (f j).offset + cutZ (dv j) (-D) D := fun j hj => by
    have e : oo j = cutZ ((f j).offset + cutZ (dv j) (-(f j).drift) (f j).drift) (-E) E := by rw [hoo, hf1]; rfl
    rw [e, (h.par j hj).2.1]
    have := cut_le (v := dv j) (lo := -D) (hi := D) (by omega)
    have := hoff j hj
    exact cut_in (by omega) (by omega)
  have hdr : ∀ j, j < N → -D ≤ oo j - (f j).offset ∧ oo j - (f j).offset ≤ D := fun j hj => by
    have := cut_le (v := dv j) (lo := -D) (hi := D) (by omega)
    rw [hoj j hj]; omega
  have hoi : ∀ j, j < N → -170000000 ≤ oo j ∧ oo j ≤ 170000000 := fun j hj => by have := hdr j hj; have := hoff j hj; omega
  have hok1 : ∀ j, j < N → ClkOk (f1 j) := fun j hj => by rw [hf1]; exact (h.ok j hj).move _
  have hp1 : ∀ j, j < N → (f1 j).nodes = N ∧ (f1 j).drift = D ∧ (f1 j).reading = R ∧ (f1 j).margin = mg ∧ (f1 j).bound = bd := fun j hj => by rw [hf1]; exact h.par j hj
  have hof1 : ∀ j, j < N → (f1 j).offset = oo j := fun j _ => by rw [hoo]
  have hhh1 : ∀ n, n < N → ∀ j, (f1 n).heard j = false := fun n hn j => by rw [hf1]; exact h.hh n hn j
  have hr : ∀ n m, n < N → m < N → -R ≤ rv n m - (oo m - oo n) ∧ rv n m - (oo m - oo n) ≤ R := fun n m hn hm => by
    have := read_near (hok1 n hn) (o := oo m) (m := ev n m) (by have := hoi m hm; omega)
    rw [(hp1 n hn).2.2.1, hof1 n hn, ← hrv] at this
    omega
  have key := round_law (N := N) (f := fun j => (f j).offset) (g := oo) (D := D) (R := R) (mg := mg) (bd := bd) (r := rv) (ms := allM N) hN hD.1 hR.1 (fun n hn => by rw [allM_bit]; exact decide_eq_true hn) hmg hbd h.near hdr hr
  obtain ⟨k1, k2, k3⟩ := key
  have hb2 : ∀ n m, n < N → m < N → -2 * E ≤ rv n m ∧ rv n m ≤ 2 * E := fun n m hn hm => by have := hr n m hn hm; have := hoi n hn; have := hoi m hm; omega
  have hok2 : ∀ j, j < N → ClkOk ((f1 j).heardN (rv j) N) := fun j hj => heardN_ok (hok1 j hj) fun m hm => hb2 j m hj hm
  have hae : ∀ j, j < N → av j = avgS (sorted ((mem (allM N) N).map fun (m : Nat) => if (m : Int) = (j : Nat) then 0 else rv j m)) := fun j hj => by
    have hn : ((f1 j).heardN (rv j) N).nodes = N := (hp1 j hj).1
    rw [hav j hj, avg_all (fun n hnn _ => .inr (by show decide (n < N) = true; rw [hn] at hnn; exact decide_eq_true hnn)), hn]
    congr 2
    refine List.map_congr_left fun n hm => ?_
    have : ((f1 j).heardN (rv j) N).readings n = rv j n := if_pos (mem_in hm).1
    rw [this]
  have hab : ∀ j, j < N → -(3 * R + 2 * D) ≤ av j ∧ av j ≤ 3 * R + 2 * D := fun j hj => by rw [hae j hj]; exact k2 j hj
  have hno : ∀ j, j < N → ((((f1 j).heardN (rv j) N).move (av j)).clear).offset = oo j + av j := fun j hj => by
    have e : ((((f1 j).heardN (rv j) N).move (av j)).clear).offset = cutZ ((f1 j).offset + av j) (-E) E := rfl
    rw [e, hof1 j hj]
    have := hab j hj
    have := hoi j hj
    exact cut_in (by omega) (by omega)
  refine ⟨⟨hok1, hof1, fun j hj => (hp1 j hj).1, hhh1, fun n m hn hm => ?_, fun n m hn hm => ?_, hb2, hok2, fun j hj => ?_⟩, ⟨hp1, fun j hj => ((hok2 j hj).move _).clear, fun _ _ _ => rfl, fun n m hn hm => ?_, fun j hj => ?_⟩⟩
  · have := (k1 n m hn hm).1
    have := (k1 m n hm hn).1
    omega
  · rw [(hp1 n hn).2.2.2.1]; exact (k1 n m hn hm).2
  · have e : ((f1 j).heardN (rv j) N).bound = bd := (hp1 j hj).2.2.2.2
    rw [e]
    have := hab j hj
    omega
  · rw [hno n hn, hno m hm, hae n hn, hae m hm]; exact k3 n m hn hm
  · rw [hno j hj]
    have := hab j hj
    have := hdr j hj
    have := h.off j hj
    push_cast
    omega
end Go.Proofs.Yteiiddefimpplaa.AM.C08

namespace Go.Proofs.Yteiiddefimpplaa.AM.C08
open Go Go.Proofs.Yteiiddefimpplaa.AM Go.Proofs.Yteiiddefimpplaa.AM.C02
theorem ins_pw {s : List Int} {x : Int} {k : Nat} (hs : s.Pairwise (· ≤ ·)) (hlo : ∀ y ∈ s.take k, y ≤ x) (hhi : ∀ y ∈ s.drop k, x ≤ y) : (s.take k ++ x :: s.drop k).Pairwise (· ≤ ·) := by
  rw [List.pairwise_append]
  refine ⟨hs.sublist (List.take_sublist k s), List.pairwise_cons.2 ⟨hhi, hs.sublist (List.drop_sublist k s)⟩, fun a ha b hb => ?_⟩
  rcases List.mem_cons.1 hb with rfl | hb
  · exact hlo a ha
  · exact Int.le_trans (hlo a ha) (hhi b hb)
theorem ins_perm {s : List Int} {x : Int} {k : Nat} : (s.take k ++ x :: s.drop k).Perm (s ++ [x]) := by
  have h : (s.take k ++ x :: s.drop k).Perm (x :: (s.take k ++ s.drop k)) := List.perm_middle
  rw [List.take_append_drop] at h
  exact h.trans (List.perm_append_comm (l₁ := [x]) (l₂ := s))
theorem sorted_step {l : List Int} {i k : Nat} {x : Int} (hx : l[i]? = some x) (hlo : ∀ y ∈ (sorted (l.take i)).take k, y ≤ x) (hhi : ∀ y ∈ (sorted (l.take i)).drop k, x ≤ y) : sorted (l.take (i + 1)) = (sorted (l.take i)).take k ++ x :: (sorted (l.take i)).drop k := by
  have hi : i < l.length := (List.getElem?_eq_some_iff.1 hx).1
  have ht : l.take (i + 1) = l.take i ++ [x] := by
    rw [List.take_add_one, hx]; rfl
  have hp : (sorted (l.take (i + 1))).Perm ((sorted (l.take i)).take k ++ x :: (sorted (l.take i)).drop k) := by
    refine (sorted_perm _).trans ?_
    rw [ht]
    exact (List.Perm.append_right [x] (sorted_perm (l.take i)).symm).trans ins_perm.symm
  exact hp.eq_of_pairwise (le := fun a b : Int => a ≤ b) (fun a b _ _ h1 h2 => Int.le_antisymm h1 h2) (sorted_pw _) (ins_pw (sorted_pw _) hlo hhi)
theorem ins_at {s : List Int} {x : Int} {k : Nat} (hs : s.Pairwise (· ≤ ·)) (hlo : ∀ j y, j < k → s[j]? = some y → y < x) (hhi : ∀ y, s[k]? = some y → x ≤ y) : (∀ y ∈ s.take k, y ≤ x) ∧ ∀ y ∈ s.drop k, x ≤ y := by
  constructor
  · intro y hy
    obtain ⟨j, hj⟩ := List.mem_iff_getElem?.1 hy
    rw [List.getElem?_take] at hj
    split at hj
    · exact Int.le_of_lt (hlo j y (by assumption) hj)
    · cases hj
  · intro y hy
    obtain ⟨j, hj⟩ := List.mem_iff_getElem?.1 hy
    rw [List.getElem?_drop] at hj
    obtain ⟨hl, he⟩ := List.getElem?_eq_some_iff.1 hj
    have hk : k < s.length := by omega
    have h1 := hhi s[k] (List.getElem?_eq_getElem hk)
    cases j with
    | zero => rw [← he]; exact h1
    | succ j =>
      have := List.pairwise_iff_getElem.1 hs k (k + (j + 1)) hk hl (by omega)
      omega
end Go.Proofs.Yteiiddefimpplaa.AM.C08

namespace Go.Proofs.Yteiiddefimpplaa.AM.D08
open Go Go.Proofs.Yteiiddefimpplaa.AM Go.Proofs.Yteiiddefimpplaa.AM.C08
set_option maxHeartbeats 2000000
set_option maxRecDepth 100000
attribute [local go_sem] tn_add1 tn_sub1 put_all' nums_len aop_mn aop_mx mnO_int mxO_int
def ClkM (H : Heap) (p : Nat) (k : Clk) : Prop := ∃ C, H[p]? = some (.cells C false none) ∧ ClkC k C
theorem ClkM.keep {H H' : Heap} {p : Nat} {k : Clk} (h : ClkM H p k) (hx : H'[p]? = H[p]?) : ClkM H' p k := by
  obtain ⟨C, h1, h2⟩ := h
  exact ⟨C, hx.trans h1, h2⟩
theorem ClkM.lt {H : Heap} {p : Nat} {k : Clk} (h : ClkM H p k) : p < H.length := by
  obtain ⟨C, h1, h2⟩ := h
  exact lt_of_get h1
theorem s_cut {H : Heap} {v lo hi : Int} : WC F fn_clock_cut_int [.c (.int .i64 v), .c (.int .i64 lo), .c (.int .i64 hi)] H fun r H' => r = .c (.int .i64 (cutZ v lo hi)) ∧ H' = H := by
  refine WC_start e_clock_cut_int (by simp) ?_
  unfold c_clock_cut_int
  have e1 : (if v < hi then v else hi) = min hi v := by split <;> omega
  have e2 : (if min hi v > lo then min hi v else lo) = cutZ v lo hi := by unfold cutZ; split <;> omega
  repeat (with_reducible first|(first|refine pI1 ?_|refine pS1 ?_);intros|refine pA1 ?_|refine pX1 ?_|refine pB1 ?_|exact True.intro)
  exact ⟨rfl, rfl⟩
theorem s_none {H : Heap} {p : Nat} {k : Clk} (hk : ClkM H p k) (ho : ClkOk k) : WC F fn_clock_Clock_none [.c (.ptr (some (p, 0)))] H fun v H' => v = .c (.bool false) ∧ H' = H := by
  refine WC_start e_clock_Clock_none (by simp) ?_
  unfold c_clock_Clock_none
  obtain ⟨C, g, h⟩ := hk
  have h0 := h.c0
  have hn := ho.n4
  clear h ho
  generalize k.nodes = n at *
  have hn0 : ¬ (n : Int) = 0 := by omega
  repeat (with_reducible first|(first|refine pI1 ?_|refine pS1 ?_);intros|refine pA1 ?_|refine pX1 ?_|refine pB1 ?_|exact True.intro)
  exact ⟨rfl, rfl⟩
theorem s_Offset {H : Heap} {p : Nat} {k : Clk} (hk : ClkM H p k) (ho : ClkOk k) : WC F fn_clock_Clock_Offset [.c (.ptr (some (p, 0)))] H fun v H' => v = .c (.int .i64 k.offset) ∧ H' = H := by
  refine WC_start e_clock_Clock_Offset (by simp) ?_
  unfold c_clock_Clock_Offset
  have hno := s_none hk ho
  obtain ⟨C, g, h⟩ := hk
  have h0 := h.c5
  clear h ho
  repeat (with_reducible first|(first|refine pI1 ?_|refine pS1 ?_);intros|refine pA1 ?_|refine pX1 ?_|refine pB1 ?_|exact True.intro)
  refine outM_call hno ?_
  rintro _ H ⟨rfl, rfl⟩
  clear hno
  repeat (with_reducible first|(first|refine pI1 ?_|refine pS1 ?_);intros|refine pA1 ?_|refine pX1 ?_|refine pB1 ?_|exact True.intro)
  exact ⟨rfl, rfl⟩
def Only (p : Nat) (H H' : Heap) : Prop := H'.length = H.length ∧ ∀ b, b ≠ p → H'[b]? = H[b]?
theorem s_move {H : Heap} {p : Nat} {k : Clk} {by_ : Int} (hk : ClkM H p k) (ho : ClkOk k) (hb : -2000000000000 ≤ by_ ∧ by_ ≤ 2000000000000) : WC F fn_clock_Clock_move [.c (.ptr (some (p, 0))), .c (.int .i64 by_)] H fun _ H' => ClkM H' p (k.move by_) ∧ Only p H H' := by
  refine WC_start e_clock_Clock_move (by simp) ?_
  unfold c_clock_Clock_move
  obtain ⟨C, g, h⟩ := hk
  have h5 := h.c5
  have hl := h.len
  have hoo := ho.o
  unfold E at hoo
  obtain ⟨b1, b2⟩ := hb
  obtain ⟨o1, o2⟩ := hoo
  have hoff : ClkC (k.move by_) (C.set 5 (.int .i64 (cutZ (k.offset + by_) (-1099511627776) 1099511627776))) := h.off _
  have e : (-E : Int) = -1099511627776 := rfl
  have e' : (E : Int) = 1099511627776 := rfl
  have fo : Hid _ := fun (A : Prop) (h : _ → A) => h hoff
  have hlt := lt_of_get g
  clear hoff h ho
  obtain ⟨x, hx⟩ : ∃ x, k.offset = x := ⟨_, rfl⟩
  rw [hx] at h5 o1 o2
  have hcut := s_cut (H := H) (v := x + by_) (lo := -1099511627776) (hi := 1099511627776)
  have fx : Hid _ := fun (A : Prop) (h : _ → A) => h hx
  clear hx e e'
  repeat (with_reducible first|(first|refine pI1 ?_|refine pS1 ?_);intros|refine pA1 ?_|refine pX1 ?_|refine pB1 ?_|exact True.intro)
  refine outM_call hcut ?_
  rintro _ H1 ⟨rfl, rfl⟩
  clear hcut
  repeat (with_reducible first|(first|refine pI1 ?_|refine pS1 ?_);intros|refine pA1 ?_|refine pX1 ?_|refine pB1 ?_|exact True.intro)
  rename_i H2 l2 g2 x2
  have hq : ClkM H2 p (k.move by_) := ⟨_, g2, by have := fo _ fun h => h; rw [fx _ fun h => h] at this; exact this⟩
  have fq : Hid _ := fun (A : Prop) (h : _ → _ → A) => h hq x2
  clear hq x2 g2
  repeat (with_reducible first|(first|refine pI1 ?_|refine pS1 ?_);intros|refine pA1 ?_|refine pX1 ?_|refine pB1 ?_|exact True.intro)
  exact fq _ fun hq x2 => ⟨hq, by omega, x2⟩
theorem s_Set {H : Heap} {p : Nat} {k : Clk} {o : Int} (hk : ClkM H p k) (ho : ClkOk k) : WC F fn_clock_Clock_Set [.c (.ptr (some (p, 0))), .c (.int .i64 o)] H fun v H' => Only p H H' ∧ (((-E ≤ o ∧ o ≤ E) ∧ v = .c (.int .i64 0) ∧ ClkM H' p (k.set o)) ∨ (¬ (-E ≤ o ∧ o ≤ E) ∧ v = .c (.int .i64 2) ∧ H' = H)) := by
  refine WC_start e_clock_Clock_Set (by simp) ?_
  unfold c_clock_Clock_Set
  have hno := s_none hk ho
  obtain ⟨C, g, h⟩ := hk
  have hl := h.len
  have hlt := lt_of_get g
  have hset : ClkC (k.set o) (put (C.set 5 (.int .i64 o)) 6 (List.replicate 16 (.bool false))) := (h.off o).clr
  have hl2 : 6 + (List.replicate 16 (Cell.bool false)).length ≤ (C.set 5 (.int .i64 o)).length := by simp [hl]
  have fs : Hid _ := fun (A : Prop) (h : _ → A) => h hset
  clear hset h ho
  have hiff : (-E ≤ o ∧ o ≤ E) ↔ (-1099511627776 ≤ o ∧ o ≤ 1099511627776) := Iff.rfl
  have fi : Hid _ := fun (A : Prop) (h : _ → A) => h hiff
  clear hiff
  repeat (with_reducible first|(first|refine pI1 ?_|refine pS1 ?_);intros|refine pA1 ?_|refine pX1 ?_|refine pB1 ?_|exact True.intro)
  refine outM_call hno ?_
  rintro _ H ⟨rfl, rfl⟩
  clear hno
  by_cases c1 : o < -1099511627776
  · have hn : ¬ (-E ≤ o ∧ o ≤ E) := fi _ fun hi h => by have := hi.1 h; omega
    have fn : Hid _ := fun (A : Prop) (h : _ → A) => h hn
    clear hn
    repeat (with_reducible first|(first|refine pI1 ?_|refine pS1 ?_);intros|refine pA1 ?_|refine pX1 ?_|refine pB1 ?_|exact True.intro)
    exact ⟨⟨rfl, fun _ _ => rfl⟩, .inr ⟨fn _ fun h => h, rfl, rfl⟩⟩
  by_cases c2 : 1099511627776 < o
  · have hn : ¬ (-E ≤ o ∧ o ≤ E) := fi _ fun hi h => by have := hi.1 h; omega
    have fn : Hid _ := fun (A : Prop) (h : _ → A) => h hn
    clear hn
    repeat (with_reducible first|(first|refine pI1 ?_|refine pS1 ?_);intros|refine pA1 ?_|refine pX1 ?_|refine pB1 ?_|exact True.intro)
    exact ⟨⟨rfl, fun _ _ => rfl⟩, .inr ⟨fn _ fun h => h, rfl, rfl⟩⟩
  have hn : -E ≤ o ∧ o ≤ E := fi _ fun hi => hi.2 (by omega)
  have fn : Hid _ := fun (A : Prop) (h : _ → A) => h hn
  clear hn
  repeat (with_reducible first|(first|refine pI1 ?_|refine pS1 ?_);intros|refine pA1 ?_|refine pX1 ?_|refine pB1 ?_|exact True.intro)
  rename_i H2 l2 g2 x2 H3 l3 g3 x3
  exact ⟨⟨by omega, fun b hb => by rw [x3 b hb, x2 b hb]⟩, .inl ⟨fn _ fun h => h, rfl, _, g3, fs _ fun h => h⟩⟩
theorem s_Drift {H : Heap} {p : Nat} {k : Clk} {b : Int} (hk : ClkM H p k) (ho : ClkOk k) : WC F fn_clock_Clock_Drift [.c (.ptr (some (p, 0))), .c (.int .i64 b)] H fun v H' => v = .c (.int .i64 0) ∧ ClkM H' p (k.drifts b) ∧ Only p H H' := by
  refine WC_start e_clock_Clock_Drift (by simp) ?_
  unfold c_clock_Clock_Drift
  have hno := s_none hk ho
  obtain ⟨hd1, hd2⟩ := ho.d
  have hcl := cut_le (v := b) (lo := -k.drift) (hi := k.drift) (by omega)
  have hmv := s_move (by_ := cutZ b (-k.drift) k.drift) hk ho (by omega)
  have hcut := s_cut (H := H) (v := b) (lo := -k.drift) (hi := k.drift)
  have he : k.move (cutZ b (-k.drift) k.drift) = k.drifts b := rfl
  rw [he] at hmv
  obtain ⟨C, g, h⟩ := hk
  have h1 := h.c1
  clear h ho he
  generalize k.drifts b = k' at *
  generalize cutZ b (-k.drift) k.drift = z at *
  generalize k.drift = d at *
  rw [show (-d : Int) = 0 - d by omega] at hcut
  have fm : Hid _ := fun (A : Prop) (h : _ → _ → _ → A) => h hmv hcut hno
  clear hmv hcut hno
  repeat (with_reducible first|(first|refine pI1 ?_|refine pS1 ?_);intros|refine pA1 ?_|refine pX1 ?_|refine pB1 ?_|exact True.intro)
  refine outM_call (fm _ fun _ _ h => h) ?_
  rintro _ H ⟨rfl, rfl⟩
  repeat (with_reducible first|(first|refine pI1 ?_|refine pS1 ?_);intros|refine pA1 ?_|refine pX1 ?_|refine pB1 ?_|exact True.intro)
  refine outM_call (fm _ fun _ h _ => h) ?_
  rintro _ H ⟨rfl, rfl⟩
  repeat (with_reducible first|(first|refine pI1 ?_|refine pS1 ?_);intros|refine pA1 ?_|refine pX1 ?_|refine pB1 ?_|exact True.intro)
  refine outM_call (fm _ fun h _ _ => h) ?_
  rintro _ H2 ⟨hq, ⟨l2, x2⟩⟩
  have fq : Hid _ := fun (A : Prop) (h : _ → _ → A) => h hq x2
  clear hq x2
  repeat (with_reducible first|(first|refine pI1 ?_|refine pS1 ?_);intros|refine pA1 ?_|refine pX1 ?_|refine pB1 ?_|exact True.intro)
  exact ⟨rfl, fq _ fun h _ => h, l2, fq _ fun _ h => h⟩
theorem s_Read {H : Heap} {p : Nat} {k : Clk} {o m : Int} (hk : ClkM H p k) (ho : ClkOk k) : WC F fn_clock_Clock_Read [.c (.ptr (some (p, 0))), .c (.int .i64 o), .c (.int .i64 m)] H fun v H' => v = .c (.int .i64 (k.read o m)) ∧ H' = H := by
  refine WC_start e_clock_Clock_Read (by simp) ?_
  unfold c_clock_Clock_Read
  have hno := s_none hk ho
  obtain ⟨hr1, hr2⟩ := ho.r
  obtain ⟨ho1, ho2⟩ := ho.o
  have hcl := cut_le (v := m) (lo := -k.reading) (hi := k.reading) (by omega)
  have hcl2 := cut_le (v := o) (lo := -E) (hi := E) (by unfold E; omega)
  have hcut := s_cut (H := H) (v := m) (lo := -k.reading) (hi := k.reading)
  have hcut2 : WC F fn_clock_cut_int [.c (.int .i64 o), .c (.int .i64 (-1099511627776)), .c (.int .i64 1099511627776)] H fun r H' => r = .c (.int .i64 (cutZ o (-E) E)) ∧ H' = H := s_cut
  have he : k.read o m = cutZ o (-E) E - k.offset + cutZ m (-k.reading) k.reading := rfl
  rw [he]
  clear he
  obtain ⟨C, g, h⟩ := hk
  have h2 := h.c2
  have h5 := h.c5
  clear h ho
  generalize cutZ m (-k.reading) k.reading = z at *
  generalize cutZ o (-E) E = z2 at *
  generalize k.reading = r at *
  generalize k.offset = x at *
  have e : E = 1099511627776 := rfl
  rw [e] at ho1 ho2 hcl2
  rw [show (-r : Int) = 0 - r by omega] at hcut
  clear e
  obtain ⟨q1, q2⟩ := hcl
  obtain ⟨q3, q4⟩ := hcl2
  have fm : Hid _ := fun (A : Prop) (h : _ → _ → _ → A) => h hcut2 hcut hno
  clear hcut2 hcut hno
  repeat (with_reducible first|(first|refine pI1 ?_|refine pS1 ?_);intros|refine pA1 ?_|refine pX1 ?_|refine pB1 ?_|exact True.intro)
  refine outM_call (fm _ fun _ _ h => h) ?_
  rintro _ H ⟨rfl, rfl⟩
  repeat (with_reducible first|(first|refine pI1 ?_|refine pS1 ?_);intros|refine pA1 ?_|refine pX1 ?_|refine pB1 ?_|exact True.intro)
  refine outM_call (fm _ fun h _ _ => h) ?_
  rintro _ H ⟨rfl, rfl⟩
  repeat (with_reducible first|(first|refine pI1 ?_|refine pS1 ?_);intros|refine pA1 ?_|refine pX1 ?_|refine pB1 ?_|exact True.intro)
  refine outM_call (fm _ fun _ h _ => h) ?_
  rintro _ H ⟨rfl, rfl⟩
  repeat (with_reducible first|(first|refine pI1 ?_|refine pS1 ?_);intros|refine pA1 ?_|refine pX1 ?_|refine pB1 ?_|exact True.intro)
  exact ⟨rfl, rfl⟩
theorem s_Fits {H : Heap} {p : Nat} {k : Clk} {r : Int} (hk : ClkM H p k) (ho : ClkOk k) : WC F fn_clock_Clock_Fits [.c (.ptr (some (p, 0))), .c (.int .i64 r)] H fun v H' => v = .c (.bool (decide (-k.margin ≤ r ∧ r ≤ k.margin))) ∧ H' = H := by
  refine WC_start e_clock_Clock_Fits (by simp) ?_
  unfold c_clock_Clock_Fits
  have hno := s_none hk ho
  obtain ⟨hm1, hm2⟩ := ho.m
  obtain ⟨C, g, h⟩ := hk
  have h3 := h.c3
  clear h ho
  generalize k.margin = m at *
  by_cases c1 : 0 - m ≤ r
  · by_cases c2 : r ≤ m
    · have e : decide (-m ≤ r ∧ r ≤ m) = true := decide_eq_true ⟨by omega, c2⟩
      rw [e]
      clear e
      repeat (with_reducible first|(first|refine pI1 ?_|refine pS1 ?_);intros|refine pA1 ?_|refine pX1 ?_|refine pB1 ?_|exact True.intro)
      refine outM_call hno ?_
      rintro _ H ⟨rfl, rfl⟩
      clear hno
      repeat (with_reducible first|(first|refine pI1 ?_|refine pS1 ?_);intros|refine pA1 ?_|refine pX1 ?_|refine pB1 ?_|exact True.intro)
      exact ⟨rfl, rfl⟩
    · have e : decide (-m ≤ r ∧ r ≤ m) = false := decide_eq_false fun h => c2 h.2
      rw [e]
      clear e
      repeat (with_reducible first|(first|refine pI1 ?_|refine pS1 ?_);intros|refine pA1 ?_|refine pX1 ?_|refine pB1 ?_|exact True.intro)
      refine outM_call hno ?_
      rintro _ H ⟨rfl, rfl⟩
      clear hno
      repeat (with_reducible first|(first|refine pI1 ?_|refine pS1 ?_);intros|refine pA1 ?_|refine pX1 ?_|refine pB1 ?_|exact True.intro)
      exact ⟨rfl, rfl⟩
  · have e : decide (-m ≤ r ∧ r ≤ m) = false := decide_eq_false fun h => c1 (by omega)
    rw [e]
    clear e
    repeat (with_reducible first|(first|refine pI1 ?_|refine pS1 ?_);intros|refine pA1 ?_|refine pX1 ?_|refine pB1 ?_|exact True.intro)
    refine outM_call hno ?_
    rintro _ H ⟨rfl, rfl⟩
    clear hno
    repeat (with_reducible first|(first|refine pI1 ?_|refine pS1 ?_);intros|refine pA1 ?_|refine pX1 ?_|refine pB1 ?_|exact True.intro)
    exact ⟨rfl, rfl⟩
def hearP (k : Clk) (n r : Int) : Prop := 0 ≤ n ∧ n < k.nodes ∧ -2 * E ≤ r ∧ r ≤ 2 * E
theorem s_Hear {H : Heap} {p : Nat} {k : Clk} {n r : Int} (hk : ClkM H p k) (ho : ClkOk k) : WC F fn_clock_Clock_Hear [.c (.ptr (some (p, 0))), .c (.int .i64 n), .c (.int .i64 r)] H fun v H' => Only p H H' ∧ ((hearP k n r ∧ v = .c (.int .i64 0) ∧ ClkM H' p (k.hear n.toNat r)) ∨ (¬ hearP k n r ∧ v = .c (.int .i64 2) ∧ H' = H)) := by
  refine WC_start e_clock_Clock_Hear (by simp) ?_
  unfold c_clock_Clock_Hear
  have hno := s_none hk ho
  have hiff : hearP k n r ↔ (0 ≤ n ∧ n < k.nodes ∧ -2199023255552 ≤ r ∧ r ≤ 2199023255552) := Iff.rfl
  have hn16 := ho.n16
  obtain ⟨C, g, h⟩ := hk
  have h0 := h.c0
  have hl := h.len
  have hlt := lt_of_get g
  have hhr := fun (j : Nat) (hj : j < 16) => h.hr hj r
  have fi : Hid _ := fun (A : Prop) (h : _ → _ → _ → A) => h hiff hhr hno
  clear h ho hiff hhr hno
  generalize hnd : k.nodes = nd at *
  have fnd : Hid _ := fun (A : Prop) (h : _ → A) => h hnd
  clear hnd
  repeat (with_reducible first|(first|refine pI1 ?_|refine pS1 ?_);intros|refine pA1 ?_|refine pX1 ?_|refine pB1 ?_|exact True.intro)
  refine outM_call (fi _ fun _ _ h => h) ?_
  rintro _ H ⟨rfl, rfl⟩
  have hbad : ¬ (0 ≤ n ∧ n < nd ∧ -2199023255552 ≤ r ∧ r ≤ 2199023255552) → ¬ hearP k n r := fun h h' => h (fi _ fun hi _ _ => hi.1 h')
  have fb : Hid _ := fun (A : Prop) (h : _ → A) => h hbad
  clear hbad
  by_cases c1 : n < 0
  · have hn := fb _ fun h => h fun h' => by omega
    have fn : Hid _ := fun (A : Prop) (h : _ → A) => h hn
    clear hn
    repeat (with_reducible first|(first|refine pI1 ?_|refine pS1 ?_);intros|refine pA1 ?_|refine pX1 ?_|refine pB1 ?_|exact True.intro)
    exact ⟨⟨rfl, fun _ _ => rfl⟩, .inr ⟨fn _ fun h => h, rfl, rfl⟩⟩
  by_cases c2 : (nd : Int) ≤ n
  · have hn := fb _ fun h => h fun h' => by omega
    have fn : Hid _ := fun (A : Prop) (h : _ → A) => h hn
    clear hn
    repeat (with_reducible first|(first|refine pI1 ?_|refine pS1 ?_);intros|refine pA1 ?_|refine pX1 ?_|refine pB1 ?_|exact True.intro)
    exact ⟨⟨rfl, fun _ _ => rfl⟩, .inr ⟨fn _ fun h => h, rfl, rfl⟩⟩
  by_cases c3 : r < -2199023255552
  · have hn := fb _ fun h => h fun h' => by omega
    have fn : Hid _ := fun (A : Prop) (h : _ → A) => h hn
    clear hn
    repeat (with_reducible first|(first|refine pI1 ?_|refine pS1 ?_);intros|refine pA1 ?_|refine pX1 ?_|refine pB1 ?_|exact True.intro)
    exact ⟨⟨rfl, fun _ _ => rfl⟩, .inr ⟨fn _ fun h => h, rfl, rfl⟩⟩
  by_cases c4 : 2199023255552 < r
  · have hn := fb _ fun h => h fun h' => by omega
    have fn : Hid _ := fun (A : Prop) (h : _ → A) => h hn
    clear hn
    repeat (with_reducible first|(first|refine pI1 ?_|refine pS1 ?_);intros|refine pA1 ?_|refine pX1 ?_|refine pB1 ?_|exact True.intro)
    exact ⟨⟨rfl, fun _ _ => rfl⟩, .inr ⟨fn _ fun h => h, rfl, rfl⟩⟩
  have hn : hearP k n r := fi _ fun hi _ _ => hi.2 (by omega)
  have fn : Hid _ := fun (A : Prop) (h : _ → A) => h hn
  clear hn fb
  obtain ⟨j, rfl⟩ : ∃ j : Nat, n = j := ⟨n.toNat, by omega⟩
  have hj16 : j < 16 := by omega
  repeat (with_reducible first|(first|refine pI1 ?_|refine pS1 ?_);intros|refine pA1 ?_|refine pX1 ?_|refine pB1 ?_|exact True.intro)
  rename_i H2 l2 g2 x2 H3 l3 g3 x3
  exact ⟨⟨by omega, fun b hb => by rw [x3 b hb, x2 b hb]⟩, .inl ⟨fn _ fun h => h, rfl, _, g3, fi _ fun _ h _ => h j hj16⟩⟩
end Go.Proofs.Yteiiddefimpplaa.AM.D08

