/- What the functions that this law reaches come to, each walked once, and the plain laws that stand behind them. -/
import Derived.Test.YteiiddefimpplaaB2
import Derived.Test.YteiiddefimpplaaA4
import Derived.KernelRfl
set_option linter.unusedVariables false
set_option linter.unusedSimpArgs false
set_option linter.unusedSectionVars false
namespace Go.Proofs.Yteiiddefimpplaa.AM.D08
open Go Go.Proofs.Yteiiddefimpplaa.AM Go.Proofs.Yteiiddefimpplaa.AM.C02
set_option maxHeartbeats 2000000
set_option maxRecDepth 100000
attribute [local go_sem] tn_add1 tn_sub1 put_all' nums_len sub12
def okE (c : Cfg) (e : Int) : Prop := if e = 21 then c.okNodes else if e = 22 then c.okClock else if e = 23 then c.okParts else if e = 24 then c.okWins else if e = 25 then c.okPorts else c.okLinks
def okA (c : Cfg) (e : Int) : Prop := ∀ d, 21 ≤ d → d < e → okE c d
theorem s_fine {N : Nat} {H : Heap} {c : Cfg} {h : Hd} {e : Int} (he : 21 ≤ e ∧ e ≤ 26) (ha : okA c e) (hc : CfgM N H c h) (hN : N ≤ H.length) : WC F fn_config_fine [.c (.int .i64 e), .agg (c.cells h)] H fun v H' => v = .c (.bool (dB (okE c e))) ∧ Xt H H' := by
  refine WC_start e_config_fine (by simp) ?_
  unfold c_config_fine
  obtain ⟨C, hC⟩ : ∃ C, C = c.cells h := ⟨_, rfl⟩
  have hsub : sub C 0 12 = some C := by rw [hC]; rfl
  rw [← hC]
  have a1 : 21 < e → c.okNodes := fun h => by have := ha 21 (by omega) h; unfold okE at this; rwa [if_pos rfl] at this
  have a3 : 23 < e → c.okParts := fun h => by have := ha 23 (by omega) h; unfold okE at this; rwa [if_neg (by omega), if_neg (by omega), if_pos rfl] at this
  have a5 : 25 < e → c.okPorts := fun h => by have := ha 25 (by omega) h; unfold okE at this; rwa [if_neg (by omega), if_neg (by omega), if_neg (by omega), if_neg (by omega), if_pos rfl] at this
  have fin0 : Hid _ := fun (A : Prop) (h : _ → _ → _ → _ → _ → A) => h a1 a3 a5 hc hC
  have hcases : e = 21 ∨ e = 22 ∨ e = 23 ∨ e = 24 ∨ e = 25 ∨ e = 26 := by omega
  clear a1 a3 a5 hc ha he hC
  repeat (with_reducible first|(first|refine pI1 ?_|refine pS1 ?_);intros|refine pA1 ?_|refine pX1 ?_|refine pB1 ?_|exact True.intro)
  rename_i b1 H1 p1 g1 x1
  have hk : ∀ b, b < N → H1[b]? = H[b]? := fun b hb => x1 b (by omega)
  have fk : Hid _ := fun (A : Prop) (h : _ → _ → A) => h hk x1
  clear hk x1
  rcases hcases with rfl | rfl | rfl | rfl | rfl | rfl
  · repeat (with_reducible first|(first|refine pI1 ?_|refine pS1 ?_);intros|refine pA1 ?_|refine pX1 ?_|refine pB1 ?_|exact True.intro)
    refine fin0 _ fun a1 a3 a5 hc hC => fk _ fun hk x1 => ?_
    subst hC
    refine outM_call (s_cnodes (hc.keep (H' := H1) hk) (by omega)) ?_
    rintro _ H2 ⟨rfl, l2, x2⟩
    have fe : okE c 21 = c.okNodes := by unfold okE; rw [if_pos rfl]
    rw [fe]
    clear hc hk a1 a3 a5 fin0 fk
    repeat (with_reducible first|(first|refine pI1 ?_|refine pS1 ?_);intros|refine pA1 ?_|refine pX1 ?_|refine pB1 ?_|exact True.intro)
    exact ⟨rfl, by omega, fun b hb => by rw [x2 b (by omega), x1 b (by omega)]⟩
  · repeat (with_reducible first|(first|refine pI1 ?_|refine pS1 ?_);intros|refine pA1 ?_|refine pX1 ?_|refine pB1 ?_|exact True.intro)
    refine fin0 _ fun a1 a3 a5 hc hC => fk _ fun hk x1 => ?_
    subst hC
    refine outM_call (s_cclocks (c := c) (h := h)) ?_
    rintro _ H2 ⟨rfl, l2, x2⟩
    have fe : okE c 22 = c.okClock := by unfold okE; rw [if_neg (by omega), if_pos rfl]
    rw [fe]
    clear hc hk a1 a3 a5 fin0 fk
    repeat (with_reducible first|(first|refine pI1 ?_|refine pS1 ?_);intros|refine pA1 ?_|refine pX1 ?_|refine pB1 ?_|exact True.intro)
    exact ⟨rfl, by omega, fun b hb => by rw [x2 b (by omega), x1 b (by omega)]⟩
  · repeat (with_reducible first|(first|refine pI1 ?_|refine pS1 ?_);intros|refine pA1 ?_|refine pX1 ?_|refine pB1 ?_|exact True.intro)
    refine fin0 _ fun a1 a3 a5 hc hC => fk _ fun hk x1 => ?_
    subst hC
    have hn := a1 (by omega)
    refine outM_call (s_cparts (hc.keep (H' := H1) hk) (by omega) ⟨hn.1, hn.2.1⟩) ?_
    rintro _ H2 ⟨rfl, l2, x2⟩
    have fe : okE c 23 = c.okParts := by unfold okE; rw [if_neg (by omega), if_neg (by omega), if_pos rfl]
    rw [fe]
    clear hc hk a1 a3 a5 fin0 fk hn
    repeat (with_reducible first|(first|refine pI1 ?_|refine pS1 ?_);intros|refine pA1 ?_|refine pX1 ?_|refine pB1 ?_|exact True.intro)
    exact ⟨rfl, by omega, fun b hb => by rw [x2 b (by omega), x1 b (by omega)]⟩
  · repeat (with_reducible first|(first|refine pI1 ?_|refine pS1 ?_);intros|refine pA1 ?_|refine pX1 ?_|refine pB1 ?_|exact True.intro)
    refine fin0 _ fun a1 a3 a5 hc hC => fk _ fun hk x1 => ?_
    subst hC
    have hn := a1 (by omega)
    refine outM_call (s_cwins (hc.keep (H' := H1) hk) (by omega) ⟨hn.1, hn.2.1⟩ (a3 (by omega)).1) ?_
    rintro _ H2 ⟨rfl, l2, x2⟩
    have fe : okE c 24 = c.okWins := by unfold okE; rw [if_neg (by omega), if_neg (by omega), if_neg (by omega), if_pos rfl]
    rw [fe]
    clear hc hk a1 a3 a5 fin0 fk hn
    repeat (with_reducible first|(first|refine pI1 ?_|refine pS1 ?_);intros|refine pA1 ?_|refine pX1 ?_|refine pB1 ?_|exact True.intro)
    exact ⟨rfl, by omega, fun b hb => by rw [x2 b (by omega), x1 b (by omega)]⟩
  · repeat (with_reducible first|(first|refine pI1 ?_|refine pS1 ?_);intros|refine pA1 ?_|refine pX1 ?_|refine pB1 ?_|exact True.intro)
    refine fin0 _ fun a1 a3 a5 hc hC => fk _ fun hk x1 => ?_
    subst hC
    refine outM_call (s_cports (hc.keep (H' := H1) hk) (by omega) (a3 (by omega)).1) ?_
    rintro _ H2 ⟨rfl, l2, x2⟩
    have fe : okE c 25 = c.okPorts := by unfold okE; rw [if_neg (by omega), if_neg (by omega), if_neg (by omega), if_neg (by omega), if_pos rfl]
    rw [fe]
    clear hc hk a1 a3 a5 fin0 fk
    repeat (with_reducible first|(first|refine pI1 ?_|refine pS1 ?_);intros|refine pA1 ?_|refine pX1 ?_|refine pB1 ?_|exact True.intro)
    exact ⟨rfl, by omega, fun b hb => by rw [x2 b (by omega), x1 b (by omega)]⟩
  · repeat (with_reducible first|(first|refine pI1 ?_|refine pS1 ?_);intros|refine pA1 ?_|refine pX1 ?_|refine pB1 ?_|exact True.intro)
    refine fin0 _ fun a1 a3 a5 hc hC => fk _ fun hk x1 => ?_
    subst hC
    refine outM_call (s_clinks (hc.keep (H' := H1) hk) (by omega) (a3 (by omega)) (a5 (by omega))) ?_
    rintro _ H2 ⟨rfl, l2, x2⟩
    have fe : okE c 26 = c.okLinks := by unfold okE; rw [if_neg (by omega), if_neg (by omega), if_neg (by omega), if_neg (by omega), if_neg (by omega)]
    rw [fe]
    clear hc hk a1 a3 a5 fin0 fk
    repeat (with_reducible first|(first|refine pI1 ?_|refine pS1 ?_);intros|refine pA1 ?_|refine pX1 ?_|refine pB1 ?_|exact True.intro)
    exact ⟨rfl, by omega, fun b hb => by rw [x2 b (by omega), x1 b (by omega)]⟩
theorem check_is {c : Cfg} {e : Int} (he : 21 ≤ e ∧ e ≤ 26) (ha : okA c e) (h : ¬ okE c e) : c.check = e := by
  have k : ∀ d, 21 ≤ d → d < e → okE c d := ha
  have h1 : 21 < e → dB c.okNodes = true := fun h => dB_t (by have := k 21 (by omega) h; unfold okE at this; rwa [if_pos rfl] at this)
  have h2 : 22 < e → dB c.okClock = true := fun h => dB_t (by have := k 22 (by omega) h; unfold okE at this; rwa [if_neg (by omega), if_pos rfl] at this)
  have h3 : 23 < e → dB c.okParts = true := fun h => dB_t (by have := k 23 (by omega) h; unfold okE at this; rwa [if_neg (by omega), if_neg (by omega), if_pos rfl] at this)
  have h4 : 24 < e → dB c.okWins = true := fun h => dB_t (by have := k 24 (by omega) h; unfold okE at this; rwa [if_neg (by omega), if_neg (by omega), if_neg (by omega), if_pos rfl] at this)
  have h5 : 25 < e → dB c.okPorts = true := fun h => dB_t (by have := k 25 (by omega) h; unfold okE at this; rwa [if_neg (by omega), if_neg (by omega), if_neg (by omega), if_neg (by omega), if_pos rfl] at this)
  have hcases : e = 21 ∨ e = 22 ∨ e = 23 ∨ e = 24 ∨ e = 25 ∨ e = 26 := by omega
  unfold okE at h
  unfold Cfg.check
  rcases hcases with rfl | rfl | rfl | rfl | rfl | rfl
  · rw [if_pos rfl] at h; rw [dB_f h]; rfl
  · rw [if_neg (by omega), if_pos rfl] at h; rw [dB_f h, h1 (by omega)]; rfl
  · rw [if_neg (by omega), if_neg (by omega), if_pos rfl] at h; rw [dB_f h, h1 (by omega), h2 (by omega)]; rfl
  · rw [if_neg (by omega), if_neg (by omega), if_neg (by omega), if_pos rfl] at h; rw [dB_f h, h1 (by omega), h2 (by omega), h3 (by omega)]; rfl
  · rw [if_neg (by omega), if_neg (by omega), if_neg (by omega), if_neg (by omega), if_pos rfl] at h; rw [dB_f h, h1 (by omega), h2 (by omega), h3 (by omega), h4 (by omega)]; rfl
  · rw [if_neg (by omega), if_neg (by omega), if_neg (by omega), if_neg (by omega), if_neg (by omega)] at h; rw [dB_f h, h1 (by omega), h2 (by omega), h3 (by omega), h4 (by omega), h5 (by omega)]; rfl
theorem check_all {c : Cfg} (ha : okA c 27) : c.check = 0 := by
  have k : ∀ d, 21 ≤ d → d < 27 → okE c d := ha
  refine Cfg.check_ok.2 ⟨?_, ?_, ?_, ?_, ?_, ?_⟩
  · have := k 21 (by omega) (by omega); unfold okE at this; rwa [if_pos rfl] at this
  · have := k 22 (by omega) (by omega); unfold okE at this; rwa [if_neg (by omega), if_pos rfl] at this
  · have := k 23 (by omega) (by omega); unfold okE at this; rwa [if_neg (by omega), if_neg (by omega), if_pos rfl] at this
  · have := k 24 (by omega) (by omega); unfold okE at this; rwa [if_neg (by omega), if_neg (by omega), if_neg (by omega), if_pos rfl] at this
  · have := k 25 (by omega) (by omega); unfold okE at this; rwa [if_neg (by omega), if_neg (by omega), if_neg (by omega), if_neg (by omega), if_pos rfl] at this
  · have := k 26 (by omega) (by omega); unfold okE at this; rwa [if_neg (by omega), if_neg (by omega), if_neg (by omega), if_neg (by omega), if_neg (by omega)] at this
theorem s_Check {N : Nat} {H : Heap} {c : Cfg} {h : Hd} (hc : CfgM N H c h) (hN : N ≤ H.length) : WC F fn_config_Check [.agg (c.cells h)] H fun v H' => v = .c (.int .i64 c.check) ∧ Xt H H' := by
  refine WC_start e_config_Check (by simp) ?_
  unfold c_config_Check
  obtain ⟨C, hC⟩ : ∃ C, C = c.cells h := ⟨_, rfl⟩
  have hsub : sub C 0 12 = some C := by rw [hC]; rfl
  rw [← hC]
  have fin0 : Hid _ := fun (A : Prop) (h : _ → _ → A) => h hc hC
  clear hc hC
  repeat (with_reducible first|(first|refine pI1 ?_|refine pS1 ?_);intros|refine pA1 ?_|refine pX1 ?_|refine pB1 ?_|exact True.intro)
  rename_i b1 H1 p1 g1 x1
  refine W_loop (fun m st => ∃ ρ, ∃ k : Nat, ∃ Hk, st = ⟨L 13 ρ, [], Hk⟩ ∧ m = 6 - k ∧ k ≤ 6 ∧ ρ 1 = .c (.ptr (some (b1, 0))) ∧ ρ 3 = .c (.int .i64 (21 + k : Int)) ∧ okA c (21 + k) ∧ Xt H1 Hk) 6 ⟨_, 0, H1, rfl, rfl, by omega, zf, zf, fun d h1 h2 => by omega, Nat.le_refl _, fun _ _ => rfl⟩ ?_
  rintro m st ⟨ρ, k, Hk, rfl, rfl, hk, e1, e3, ha, lk, xk⟩
  unfold b_config_Check_6
  have k1 : Hk[b1]? = _ := (xk b1 (by omega)).trans g1
  have yk : ∀ b, b < H.length → Hk[b]? = H[b]? := fun b hb => by rw [xk b (by omega), x1 b (by omega)]
  have fy : Hid _ := fun (A : Prop) (h : _ → _ → _ → A) => h yk xk ha
  clear yk xk ha x1
  by_cases h6 : (21 + k : Int) ≤ 26
  · repeat (with_reducible first|(first|refine pI1 ?_|refine pS1 ?_);intros|refine pA1 ?_|refine pX1 ?_|refine pB1 ?_|exact True.intro)
    refine fin0 _ fun hc hC => fy _ fun yk xk ha => ?_
    subst hC
    refine outM_call (s_fine (e := 21 + k) (by omega) ha (hc.keep (H' := Hk) fun b hb => yk b (by omega)) (by omega)) ?_
    rintro _ H2 ⟨rfl, l2, x2⟩
    have fz : Hid _ := fun (A : Prop) (h : _ → A) => h x2
    clear hc yk xk ha x2
    by_cases hok : okE c (21 + k)
    · rw [dB_t hok]
      repeat (with_reducible first|(first|refine pI1 ?_|refine pS1 ?_);intros|refine pA1 ?_|refine pX1 ?_|refine pB1 ?_|exact True.intro)
      exact loopQ_n (6 - (k + 1)) (by omega) ⟨_, k + 1, H2, rfl, rfl, by omega, zf, by rw [show (21 + ((k + 1 : Nat) : Int)) = 21 + (k : Int) + 1 by omega]; simp (disch := first | with_reducible assumption | omega) only [go_sem, *, reduceCtorEq, ↓reduceIte, Nat.reduceLT, Nat.reduceBEq, Nat.reduceAdd, Nat.reduceSub, Nat.reduceMul, Nat.reduceDiv, Nat.reduceMod, Nat.reducePow, Nat.reduceEqDiff, Nat.reduceLeDiff, Int.reduceLT, Int.reduceLE, Int.reduceNeg, Int.reduceToNat, Int.reduceAdd, Int.reduceSub, Int.reduceMul, Int.reduceEq, Int.reduceNe, Int.reduceBEq, Int.reduceBNe, Int.reducePow]; first | done | rfl, fun d h1 h2 => by
        by_cases e : d = 21 + k
        · subst e; exact hok
        · exact fy _ fun _ _ ha => ha d h1 (by omega), by omega, fun b hb => by rw [fz _ fun x2 => x2 b (by omega)]; exact fy _ fun _ xk _ => xk b hb⟩
    · rw [dB_f hok]
      repeat (with_reducible first|(first|refine pI1 ?_|refine pS1 ?_);intros|refine pA1 ?_|refine pX1 ?_|refine pB1 ?_|exact True.intro)
      exact ⟨by rw [check_is (by omega) (fy _ fun _ _ ha => ha) hok], by omega, fun b hb => by rw [fz _ fun x2 => x2 b (by omega)]; exact fy _ fun yk _ _ => yk b hb⟩
  · obtain rfl : k = 6 := by omega
    repeat (with_reducible first|(first|refine pI1 ?_|refine pS1 ?_);intros|refine pA1 ?_|refine pX1 ?_|refine pB1 ?_|exact True.intro)
    exact ⟨by rw [check_all (fy _ fun _ _ ha => ha)], by omega, fy _ fun yk _ _ => yk⟩
end Go.Proofs.Yteiiddefimpplaa.AM.D08

namespace Go.Proofs.Yteiiddefimpplaa.AM.C08
open Go Go.Proofs.Yteiiddefimpplaa.AM
def E : Int := 1099511627776
def cutZ (v lo hi : Int) : Int := max lo (min hi v)
structure Clk where
  nodes : Nat
  drift : Int
  reading : Int
  margin : Int
  bound : Int
  offset : Int
  heard : Nat → Bool
  readings : Nat → Int
abbrev gh (k : Clk) (n : Nat) : Bool := k.heard n
def rd (k : Clk) (ms : Nat) (own : Int) (n : Nat) : Option Int := if P3.bt ms n = true ∧ ((n : Int) = own ∨ gh k n = true) then some (if (n : Int) = own then 0 else k.readings n) else none
def ofL (k : Clk) (ms : Nat) (own : Int) (m : Nat) : List Int := (List.range m).filterMap (rd k ms own)
def loI (n : Nat) : Nat := if 2 < n then 1 else 0
def hiI (n : Nat) : Nat := if 2 < n then n - 2 else n - 1
def avgS (s : List Int) : Int := if s.length = 0 then 0 else (gn s (loI s.length) + gn s (hiI s.length)) / 2
def avg (k : Clk) (ms : Nat) (own : Int) : Int := avgS (sorted (ofL k ms own k.nodes))
abbrev le_ (x : Int) (l : List Int) : Nat := l.countP fun y => decide (y ≤ x)
theorem ord_le {s : List Int} (h : s.Pairwise (· ≤ ·)) (x : Int) : ∀ i, i < s.length → (gn s i ≤ x ↔ i < le_ x s) := by
  induction s with
  | nil => intro i hi; simp at hi
  | cons y s ih =>
    obtain ⟨h1, h2⟩ := List.pairwise_cons.1 h
    intro i hi
    by_cases hy : y ≤ x
    · have e : le_ x (y :: s) = le_ x s + 1 := by simp [le_, hy]
      rw [e]
      cases i with
      | zero => simp [gn, hy]
      | succ i =>
        have := ih h2 i (by simpa using hi)
        rw [show gn (y :: s) (i + 1) = gn s i from rfl, this]; omega
    · have e : le_ x (y :: s) = 0 := by
        unfold le_
        rw [List.countP_eq_zero]
        intro z hz
        rcases List.mem_cons.1 hz with rfl | hz
        · simpa using Int.not_le.1 hy
        · have := h1 z hz; simp; omega
      rw [e]
      constructor
      · intro hlt
        exfalso
        have hm := gn_mem hi
        rcases List.mem_cons.1 hm with h3 | h3
        · omega
        · have := h1 _ h3; omega
      · omega
theorem le_map {α : Type} {S : List α} {x y : α → Int} {d v : Int} (h : ∀ n ∈ S, x n ≤ y n + d) : le_ v (S.map y) ≤ le_ (v + d) (S.map x) := by
  induction S with
  | nil => exact Nat.le_refl _
  | cons n S ih =>
    have ih := ih fun m hm => h m (List.mem_cons_of_mem _ hm)
    have hn := h n List.mem_cons_self
    rw [List.map_cons, List.map_cons]
    unfold le_ at *
    rw [List.countP_cons, List.countP_cons]
    by_cases h1 : y n ≤ v
    · have h2 : x n ≤ v + d := by omega
      rw [if_pos (by simpa using h1), if_pos (by simpa using h2)]; omega
    · rw [if_neg (by simpa using h1)]; omega
theorem ord_near {α : Type} {S : List α} {x y : α → Int} {d : Int} (h : ∀ n ∈ S, x n ≤ y n + d) {j : Nat} (hj : j < S.length) : gn (sorted (S.map x)) j ≤ gn (sorted (S.map y)) j + d := by
  have lx : (sorted (S.map x)).length = S.length := by rw [sorted_length, List.length_map]
  have ly : (sorted (S.map y)).length = S.length := by rw [sorted_length, List.length_map]
  have h1 := (ord_le (sorted_pw (S.map y)) (gn (sorted (S.map y)) j) j (by omega)).1 (Int.le_refl _)
  unfold le_ at h1
  rw [(sorted_perm (S.map y)).countP_eq] at h1
  refine (ord_le (sorted_pw (S.map x)) _ j (by omega)).2 ?_
  unfold le_
  rw [(sorted_perm (S.map x)).countP_eq]
  exact Nat.lt_of_lt_of_le h1 (le_map h)
theorem lo_lt {n : Nat} (h : 0 < n) : loI n < n := by unfold loI; split <;> omega
theorem hi_lt {n : Nat} (h : 0 < n) : hiI n < n := by unfold hiI; split <;> omega
theorem avg_le {α : Type} {S : List α} {x y : α → Int} {d : Int} (h : ∀ n ∈ S, x n ≤ y n + d) (hS : 0 < S.length) : avgS (sorted (S.map x)) ≤ avgS (sorted (S.map y)) + d := by
  have lx : (sorted (S.map x)).length = S.length := by rw [sorted_length, List.length_map]
  have ly : (sorted (S.map y)).length = S.length := by rw [sorted_length, List.length_map]
  unfold avgS
  rw [if_neg (by omega), if_neg (by omega), lx, ly]
  have h1 := ord_near h (lo_lt hS)
  have h2 := ord_near h (hi_lt hS)
  omega
theorem avg_shift {α : Type} {S : List α} {x y : α → Int} {c : Int} (h : ∀ n ∈ S, x n = y n + c) (hS : 0 < S.length) : avgS (sorted (S.map x)) = avgS (sorted (S.map y)) + c := by
  have h1 := avg_le (S := S) (x := x) (y := y) (d := c) (fun n hn => by rw [h n hn]; omega) hS
  have h2 := avg_le (S := S) (x := y) (y := x) (d := -c) (fun n hn => by rw [h n hn]; omega) hS
  omega
theorem avg_const {α : Type} {S : List α} {c : Int} (hS : 0 < S.length) : avgS (sorted (S.map fun _ => c)) = c := by
  have lx : (sorted (S.map fun _ => c)).length = S.length := by rw [sorted_length, List.length_map]
  have hall : ∀ j, j < S.length → gn (sorted (S.map fun _ => c)) j = c := fun j hj => by
    have hm := gn_mem (l := sorted (S.map fun _ => c)) (i := j) (by omega)
    have := (sorted_perm (S.map fun _ => c)).subset hm
    simp at this; exact this.2.symm
  unfold avgS
  rw [if_neg (by omega), lx, hall _ (lo_lt hS), hall _ (hi_lt hS)]
  omega
theorem avg_within {α : Type} {S : List α} {x : α → Int} {c d : Int} (h : ∀ n ∈ S, c - d ≤ x n ∧ x n ≤ c + d) (hS : 0 < S.length) : c - d ≤ avgS (sorted (S.map x)) ∧ avgS (sorted (S.map x)) ≤ c + d := by
  have e := avg_const (S := S) (c := c) hS
  have h1 := avg_le (S := S) (x := x) (y := fun _ => c) (d := d) (fun n hn => (h n hn).2) hS
  have h2 := avg_le (S := S) (x := fun _ => c) (y := x) (d := d) (fun n hn => by have := (h n hn).1; omega) hS
  omega
theorem ofL_all {k : Clk} {ms : Nat} {own : Int} {m : Nat} (h : ∀ n, n < m → P3.bt ms n = true → (n : Int) = own ∨ gh k n = true) : ofL k ms own m = ((List.range m).filter fun n => P3.bt ms n).map fun (n : Nat) => if (n : Int) = own then 0 else k.readings n := by
  unfold ofL
  induction m with
  | zero => rfl
  | succ m ih =>
    rw [List.range_succ, List.filterMap_append, List.filter_append, List.map_append, ih fun n hn => h n (by omega)]
    congr 1
    have hm := h m (by omega)
    cases hb : P3.bt ms m with
    | true => simp [rd, hb, hm hb]
    | false => simp [rd, hb]
theorem ofL_len (k : Clk) (ms : Nat) (own : Int) (m : Nat) : (ofL k ms own m).length ≤ m := by
  have := List.length_filterMap_le (rd k ms own) (List.range m)
  rwa [List.length_range] at this
theorem cut_in {v lo hi : Int} (h1 : lo ≤ v) (h2 : v ≤ hi) : cutZ v lo hi = v := by unfold cutZ; omega
theorem cut_le {v lo hi : Int} (h : lo ≤ hi) : lo ≤ cutZ v lo hi ∧ cutZ v lo hi ≤ hi := by unfold cutZ; omega
structure ClkC (k : Clk) (C : List Cell) : Prop where
  len : C.length = 38
  c0 : C[0]? = some (.int .i64 (k.nodes : Nat))
  c1 : C[1]? = some (.int .i64 k.drift)
  c2 : C[2]? = some (.int .i64 k.reading)
  c3 : C[3]? = some (.int .i64 k.margin)
  c4 : C[4]? = some (.int .i64 k.bound)
  c5 : C[5]? = some (.int .i64 k.offset)
  ch : ∀ n, n < 16 → C[6 + n]? = some (.bool (k.heard n))
  cr : ∀ n, n < 16 → C[22 + n]? = some (.int .i64 (k.readings n))
structure ClkOk (k : Clk) : Prop where
  n4 : 4 ≤ k.nodes
  n16 : k.nodes ≤ 16
  d : 0 ≤ k.drift ∧ k.drift ≤ 1048576
  r : 0 ≤ k.reading ∧ k.reading ≤ 1048576
  m : 0 ≤ k.margin ∧ k.margin ≤ 16777216
  b : 0 ≤ k.bound ∧ k.bound ≤ 16777216
  o : -E ≤ k.offset ∧ k.offset ≤ E
  rs : ∀ n, -2 * E ≤ k.readings n ∧ k.readings n ≤ 2 * E
def Clk.move (k : Clk) (by_ : Int) : Clk := { k with offset := cutZ (k.offset + by_) (-E) E }
def Clk.drifts (k : Clk) (by_ : Int) : Clk := k.move (cutZ by_ (-k.drift) k.drift)
def Clk.set (k : Clk) (o : Int) : Clk := { k with offset := o, heard := fun _ => false }
def Clk.hear (k : Clk) (n : Nat) (v : Int) : Clk := { k with heard := fun j => if j = n then true else k.heard j, readings := fun j => if j = n then v else k.readings j }
def Clk.clear (k : Clk) : Clk := { k with heard := fun _ => false }
def Clk.read (k : Clk) (o m : Int) : Int := cutZ o (-E) E - k.offset + cutZ m (-k.reading) k.reading
def Clk.round (k : Clk) (ms : Nat) (own : Int) : Int := cutZ (avg k ms own) (-k.bound) k.bound
theorem ClkC.off {k : Clk} {C : List Cell} (h : ClkC k C) (o : Int) : ClkC { k with offset := o } (C.set 5 (.int .i64 o)) := by
  obtain ⟨l, h0, h1, h2, h3, h4, h5, hh, hr⟩ := h
  refine ⟨by simp [l], by simpa using h0, by simpa using h1, by simpa using h2, by simpa using h3, by simpa using h4, by simp [l], fun n hn => ?_, fun n hn => ?_⟩
  · rw [List.getElem?_set_ne (by omega)]; exact hh n hn
  · rw [List.getElem?_set_ne (by omega)]; exact hr n hn
theorem ClkC.clr {k : Clk} {C : List Cell} (h : ClkC k C) : ClkC k.clear (put C 6 (List.replicate 16 (.bool false))) := by
  obtain ⟨l, h0, h1, h2, h3, h4, h5, hh, hr⟩ := h
  have hg : ∀ i, (put C 6 (List.replicate 16 (.bool false)))[i]? = if 6 ≤ i ∧ i < 22 then some (.bool false) else C[i]? := fun i => by
    rw [put_get (by rw [List.length_replicate, l]; omega), List.length_replicate]
    by_cases hi : 6 ≤ i ∧ i < 22
    · rw [if_pos hi, if_pos (by omega), List.getElem?_replicate, if_pos (by omega)]
    · rw [if_neg hi, if_neg (by omega)]
  refine ⟨by rw [put_length]; exact l, ?_, ?_, ?_, ?_, ?_, ?_, fun n hn => ?_, fun n hn => ?_⟩ <;> rw [hg]
  · rw [if_neg (by omega)]; exact h0
  · rw [if_neg (by omega)]; exact h1
  · rw [if_neg (by omega)]; exact h2
  · rw [if_neg (by omega)]; exact h3
  · rw [if_neg (by omega)]; exact h4
  · rw [if_neg (by omega)]; exact h5
  · rw [if_pos (by omega)]; rfl
  · rw [if_neg (by omega)]; exact hr n hn
theorem ClkC.hr {k : Clk} {C : List Cell} (h : ClkC k C) {n : Nat} (hn : n < 16) (v : Int) : ClkC (k.hear n v) ((C.set (6 + n) (.bool true)).set (22 + n) (.int .i64 v)) := by
  obtain ⟨l, h0, h1, h2, h3, h4, h5, hh, hr⟩ := h
  refine ⟨by simp [l], ?_, ?_, ?_, ?_, ?_, ?_, fun j hj => ?_, fun j hj => ?_⟩
  · rw [List.getElem?_set_ne (by omega), List.getElem?_set_ne (by omega)]; exact h0
  · rw [List.getElem?_set_ne (by omega), List.getElem?_set_ne (by omega)]; exact h1
  · rw [List.getElem?_set_ne (by omega), List.getElem?_set_ne (by omega)]; exact h2
  · rw [List.getElem?_set_ne (by omega), List.getElem?_set_ne (by omega)]; exact h3
  · rw [List.getElem?_set_ne (by omega), List.getElem?_set_ne (by omega)]; exact h4
  · rw [List.getElem?_set_ne (by omega), List.getElem?_set_ne (by omega)]; exact h5
  · rw [List.getElem?_set_ne (by omega)]
    show _ = some (Cell.bool (if j = n then true else k.heard j))
    by_cases e : j = n
    · subst e; rw [if_pos rfl, List.getElem?_set_self (by omega)]
    · rw [if_neg e, List.getElem?_set_ne (by omega)]; exact hh j hj
  · show _ = some (Cell.int .i64 (if j = n then v else k.readings j))
    by_cases e : j = n
    · subst e; rw [if_pos rfl, List.getElem?_set_self (by simp; omega)]
    · rw [if_neg e, List.getElem?_set_ne (by omega), List.getElem?_set_ne (by omega)]; exact hr j hj
theorem ClkOk.cut {k : Clk} (h : ClkOk k) (o : Int) (ho : -E ≤ o ∧ o ≤ E) : ClkOk { k with offset := o } := ⟨h.n4, h.n16, h.d, h.r, h.m, h.b, ho, h.rs⟩
theorem ClkOk.move {k : Clk} (h : ClkOk k) (b : Int) : ClkOk (k.move b) := h.cut _ (cut_le (by unfold E; omega))
theorem ClkOk.clear {k : Clk} (h : ClkOk k) : ClkOk k.clear := ⟨h.n4, h.n16, h.d, h.r, h.m, h.b, h.o, h.rs⟩
theorem ClkOk.hear {k : Clk} (h : ClkOk k) {n : Nat} {v : Int} (hv : -2 * E ≤ v ∧ v ≤ 2 * E) : ClkOk (k.hear n v) := ⟨h.n4, h.n16, h.d, h.r, h.m, h.b, h.o, fun j => by
  show _ ≤ (if j = n then v else k.readings j) ∧ (if j = n then v else k.readings j) ≤ _
  split
  · exact hv
  · exact h.rs j⟩
end Go.Proofs.Yteiiddefimpplaa.AM.C08

namespace Go.Proofs.Yteiiddefimpplaa.AM.C08
open Go Go.Proofs.Yteiiddefimpplaa.AM
def atF (l : List Int) (n : Nat) (most : Int) : Int := if l.length = 0 then 0 else Int.tmod (gn l (n % l.length)) (most + 1)
theorem near_law {S : List Nat} (hS : 0 < S.length) {o x0 x1 : Nat → Int} {a0 a1 R : Int} (h0 : ∀ n ∈ S, -R ≤ x0 n + a0 - o n ∧ x0 n + a0 - o n ≤ R) (h1 : ∀ n ∈ S, -R ≤ x1 n + a1 - o n ∧ x1 n + a1 - o n ≤ R) :
    (a0 + avgS (sorted (S.map x0))) - (a1 + avgS (sorted (S.map x1))) ≤ 2 * R ∧ -(2 * R) ≤ (a0 + avgS (sorted (S.map x0))) - (a1 + avgS (sorted (S.map x1))) := by
  have s0 := avg_shift (S := S) (x := fun n => x0 n + a0) (y := x0) (c := a0) (fun n _ => rfl) hS
  have s1 := avg_shift (S := S) (x := fun n => x1 n + a1) (y := x1) (c := a1) (fun n _ => rfl) hS
  have q1 := avg_le (S := S) (x := fun n => x0 n + a0) (y := fun n => x1 n + a1) (d := 2 * R) (fun n hn => by have := h0 n hn; have := h1 n hn; show x0 n + a0 ≤ x1 n + a1 + 2 * R; omega) hS
  have q2 := avg_le (S := S) (x := fun n => x1 n + a1) (y := fun n => x0 n + a0) (d := 2 * R) (fun n hn => by have := h0 n hn; have := h1 n hn; show x1 n + a1 ≤ x0 n + a0 + 2 * R; omega) hS
  omega
def mem (ms m : Nat) : List Nat := (List.range m).filter fun n => P3.bt ms n
theorem mem_in {ms m n : Nat} (h : n ∈ mem ms m) : n < m ∧ P3.bt ms n = true := by
  unfold mem at h
  simpa using h
theorem mem_pos {ms m n : Nat} (h : n < m) (hb : P3.bt ms n = true) : 0 < (mem ms m).length := by
  have : n ∈ mem ms m := by unfold mem; simp [h, hb]
  exact List.length_pos_of_mem this
theorem avg_all {k : Clk} {ms : Nat} {own : Int} (h : ∀ n, n < k.nodes → P3.bt ms n = true → (n : Int) = own ∨ gh k n = true) : avg k ms own = avgS (sorted ((mem ms k.nodes).map fun (n : Nat) => if (n : Int) = own then 0 else k.readings n)) := by
  unfold avg
  rw [ofL_all h]; rfl
theorem round_law {N : Nat} {f g : Nat → Int} {D R mg bd : Int} {r : Nat → Nat → Int} {ms : Nat} (hN : 0 < N) (hD : 0 ≤ D) (hR : 0 ≤ R) (hms : ∀ n, n < N → P3.bt ms n = true) (hmg : 2 * (2 * (D + R) + 1) + R ≤ mg) (hbd : 2 * (2 * (D + R) + 1) + R ≤ bd)
    (hf : ∀ n m, n < N → m < N → f n - f m ≤ 2 * R) (hg : ∀ n, n < N → -D ≤ g n - f n ∧ g n - f n ≤ D) (hr : ∀ n m, n < N → m < N → -R ≤ r n m - (g m - g n) ∧ r n m - (g m - g n) ≤ R) :
    (∀ n m, n < N → m < N → g n - g m ≤ 2 * (D + R) + 1 ∧ -mg ≤ r n m ∧ r n m ≤ mg) ∧
    (∀ n, n < N → -(3 * R + 2 * D) ≤ avgS (sorted ((mem ms N).map fun (m : Nat) => if (m : Int) = (n : Nat) then 0 else r n m)) ∧ avgS (sorted ((mem ms N).map fun (m : Nat) => if (m : Int) = (n : Nat) then 0 else r n m)) ≤ 3 * R + 2 * D) ∧
    ∀ n m, n < N → m < N → (g n + avgS (sorted ((mem ms N).map fun (j : Nat) => if (j : Int) = (n : Nat) then 0 else r n j))) - (g m + avgS (sorted ((mem ms N).map fun (j : Nat) => if (j : Int) = (m : Nat) then 0 else r m j))) ≤ 2 * R := by
  have hgg : ∀ n m, n < N → m < N → g n - g m ≤ 2 * R + 2 * D := fun n m hn hm => by have := hf n m hn hm; have := hg n hn; have := hg m hm; omega
  have hpos : 0 < (mem ms N).length := mem_pos hN (hms 0 hN)
  refine ⟨fun n m hn hm => ?_, fun n hn => ?_, fun n m hn hm => ?_⟩
  · have := hgg n m hn hm
    have := hgg m n hm hn
    have := hr n m hn hm
    omega
  · have := avg_within (S := mem ms N) (x := fun (m : Nat) => if (m : Int) = (n : Nat) then 0 else r n m) (c := 0) (d := 3 * R + 2 * D) (fun m hm => by
      have hmN := (mem_in hm).1
      have := hgg n m hn hmN
      have := hgg m n hmN hn
      have := hr n m hn hmN
      split <;> omega) hpos
    omega
  · exact (near_law (S := mem ms N) (o := g) hpos (fun j hj => by
      have hjN := (mem_in hj).1
      have := hr n j hn hjN
      split
      · rename_i e
        have : j = n := by omega
        subst this; omega
      · omega) (fun j hj => by
      have hjN := (mem_in hj).1
      have := hr m j hm hjN
      split
      · rename_i e
        have : j = m := by omega
        subst this; omega
      · omega)).1
end Go.Proofs.Yteiiddefimpplaa.AM.C08

namespace Go.Proofs.Yteiiddefimpplaa.AM.C08
open Go Go.Proofs.Yteiiddefimpplaa.AM
def restL (k : Clk) (ms : Nat) (own : Int) (i : Nat) : List Int := (List.range' i (k.nodes - i)).filterMap (rd k ms own)
theorem restL_0 (k : Clk) (ms : Nat) (own : Int) : restL k ms own 0 = ofL k ms own k.nodes := by
  unfold restL ofL
  rw [Nat.sub_zero, List.range_eq_range']
theorem restL_s {k : Clk} {ms : Nat} {own : Int} {i : Nat} (h : i < k.nodes) : restL k ms own i = (rd k ms own i).toList ++ restL k ms own (i + 1) := by
  unfold restL
  rw [show k.nodes - i = (k.nodes - (i + 1)) + 1 by omega, List.range'_succ, List.filterMap_cons]
  cases rd k ms own i <;> simp
theorem restL_e {k : Clk} {ms : Nat} {own : Int} : restL k ms own k.nodes = [] := by
  unfold restL
  rw [Nat.sub_self]; rfl
theorem bt_testBit (ms n : Nat) : P3.bt ms n = ms.testBit n := by
  unfold P3.bt
  rw [Nat.testBit_eq_decide_div_mod_eq]
  cases h : decide (ms / 2 ^ n % 2 = 1) <;> simp at h <;> simp [h]
theorem and_bit (ms n : Nat) : (ms &&& 2 ^ n = 0) ↔ P3.bt ms n = false := by
  rw [bt_testBit]
  constructor
  · intro h
    have := congrArg (fun x => Nat.testBit x n) h
    simp [Nat.testBit_and, Nat.testBit_two_pow] at this
    exact this
  · intro h
    apply Nat.eq_of_testBit_eq
    intro i
    rw [Nat.testBit_and, Nat.testBit_two_pow, Nat.zero_testBit]
    by_cases e : n = i
    · subst e; rw [h]; rfl
    · simp [e]
theorem and_lt {ms n : Nat} (h : ms < 65536) : ms &&& 2 ^ n < 65536 := Nat.lt_of_le_of_lt Nat.and_le_left h
end Go.Proofs.Yteiiddefimpplaa.AM.C08

namespace Go.Proofs.Yteiiddefimpplaa.AM.C08
open Go Go.Proofs.Yteiiddefimpplaa.AM Go.Proofs.Yteiiddefimpplaa.AM.C02
def allM : Nat → Nat
  | 0 => 0
  | i + 1 => allM i ||| 2 ^ i
theorem allM_bit (n : Nat) : ∀ N, P3.bt (allM N) n = decide (n < N)
  | 0 => by rw [bt_testBit]; simp [allM]
  | N + 1 => by
    have ih := allM_bit n N
    rw [bt_testBit] at ih ⊢
    unfold allM
    rw [Nat.testBit_or, ih, Nat.testBit_two_pow]
    by_cases h : n < N
    · simp [h]; omega
    · by_cases e : N = n
      · subst e; simp
      · simp [h, e]; omega
theorem allM_lt : ∀ N, allM N < 2 ^ N
  | 0 => by simp [allM]
  | N + 1 => by
    have ih := allM_lt N
    unfold allM
    exact Nat.or_lt_two_pow (Nat.lt_trans ih (Nat.pow_lt_pow_right (by decide) (by omega))) (Nat.pow_lt_pow_right (by decide) (by omega))
theorem allM_16 {N : Nat} (h : N ≤ 16) : allM N < 65536 := Nat.lt_of_lt_of_le (allM_lt N) (by have := Nat.pow_le_pow_right (n := 2) (by decide) h; exact this)
def Clk.heardN (k : Clk) (v : Nat → Int) (n : Nat) : Clk := { k with heard := fun j => decide (j < n), readings := fun j => if j < n then v j else k.readings j }
theorem heardN_0 {k : Clk} (h : ∀ j, k.heard j = false) (v : Nat → Int) : k.heardN v 0 = k := by
  unfold Clk.heardN
  cases k
  simp only [Clk.mk.injEq, true_and]
  refine ⟨funext fun j => ?_, funext fun j => ?_⟩
  · simp only [Nat.not_lt_zero, decide_false]; exact (h j).symm
  · simp
theorem heardN_s (k : Clk) (v : Nat → Int) (n : Nat) : (k.heardN v n).hear n (v n) = k.heardN v (n + 1) := by
  unfold Clk.heardN Clk.hear
  simp only [Clk.mk.injEq, true_and]
  refine ⟨funext fun j => ?_, funext fun j => ?_⟩
  · by_cases e : j = n
    · subst e; simp
    · rw [if_neg e]
      exact decide_eq_decide.2 (by omega)
  · by_cases e : j = n
    · subst e; simp
    · rw [if_neg e]
      by_cases h : j < n
      · rw [if_pos h, if_pos (by omega)]
      · rw [if_neg h, if_neg (by omega)]
theorem heardN_ok {k : Clk} (h : ClkOk k) {v : Nat → Int} {n : Nat} (hv : ∀ j, j < n → -2 * E ≤ v j ∧ v j ≤ 2 * E) : ClkOk (k.heardN v n) := ⟨h.n4, h.n16, h.d, h.r, h.m, h.b, h.o, fun j => by
  show _ ≤ (if j < n then v j else k.readings j) ∧ (if j < n then v j else k.readings j) ≤ _
  split
  · exact hv j (by assumption)
  · exact h.rs j⟩
theorem read_near {k : Clk} (h : ClkOk k) {o m : Int} (ho : -E ≤ o ∧ o ≤ E) : o - k.offset - k.reading ≤ k.read o m ∧ k.read o m ≤ o - k.offset + k.reading := by
  have h2 := cut_le (v := m) (lo := -k.reading) (hi := k.reading) (by have := h.r; omega)
  unfold Clk.read
  rw [cut_in ho.1 ho.2]
  omega
end Go.Proofs.Yteiiddefimpplaa.AM.C08

namespace Go.Proofs.Yteiiddefimpplaa.AM.D08
open Go Go.Proofs.Yteiiddefimpplaa.AM Go.Proofs.Yteiiddefimpplaa.AM.C08
set_option maxHeartbeats 2000000
set_option maxRecDepth 100000
attribute [local go_sem] tn_add1 tn_sub1 put_all' nums_len aop_mn aop_mx mnO_int mxO_int
def ClkM (H : Heap) (p : Nat) (k : Clk) : Prop := ∃ C, H[p]? = some (.cells C false none) ∧ ClkC k C
theorem ClkM.keep {H H' : Heap} {p : Nat} {k : Clk} (h : ClkM H p k) (hx : H'[p]? = H[p]?) : ClkM H' p k := by
  obtain ⟨C, h1, h2⟩ := h
  exact ⟨C, hx.trans h1, h2⟩
theorem ClkM.lt {H : Heap} {p : Nat} {k : Clk} (h : ClkM H p k) : p < H.length := by
  obtain ⟨C, h1, h2⟩ := h
  exact lt_of_get h1
theorem s_cut {H : Heap} {v lo hi : Int} : WC F fn_clock_cut_int [.c (.int .i64 v), .c (.int .i64 lo), .c (.int .i64 hi)] H fun r H' => r = .c (.int .i64 (cutZ v lo hi)) ∧ H' = H := by
  refine WC_start e_clock_cut_int (by simp) ?_
  unfold c_clock_cut_int
  have e1 : (if v < hi then v else hi) = min hi v := by split <;> omega
  have e2 : (if min hi v > lo then min hi v else lo) = cutZ v lo hi := by unfold cutZ; split <;> omega
  repeat (with_reducible first|(first|refine pI1 ?_|refine pS1 ?_);intros|refine pA1 ?_|refine pX1 ?_|refine pB1 ?_|exact True.intro)
  exact ⟨rfl, rfl⟩
theorem s_none {H : Heap} {p : Nat} {k : Clk} (hk : ClkM H p k) (ho : ClkOk k) : WC F fn_clock_Clock_none [.c (.ptr (some (p, 0)))] H fun v H' => v = .c (.bool false) ∧ H' = H := by
  refine WC_start e_clock_Clock_none (by simp) ?_
  unfold c_clock_Clock_none
  obtain ⟨C, g, h⟩ := hk
  have h0 := h.c0
  have hn := ho.n4
  clear h ho
  generalize k.nodes = n at *
  have hn0 : ¬ (n : Int) = 0 := by omega
  repeat (with_reducible first|(first|refine pI1 ?_|refine pS1 ?_);intros|refine pA1 ?_|refine pX1 ?_|refine pB1 ?_|exact True.intro)
  exact ⟨rfl, rfl⟩
theorem s_Offset {H : Heap} {p : Nat} {k : Clk} (hk : ClkM H p k) (ho : ClkOk k) : WC F fn_clock_Clock_Offset [.c (.ptr (some (p, 0)))] H fun v H' => v = .c (.int .i64 k.offset) ∧ H' = H := by
  refine WC_start e_clock_Clock_Offset (by simp) ?_
  unfold c_clock_Clock_Offset
  have hno := s_none hk ho
  obtain ⟨C, g, h⟩ := hk
  have h0 := h.c5
  clear h ho
  repeat (with_reducible first|(first|refine pI1 ?_|refine pS1 ?_);intros|refine pA1 ?_|refine pX1 ?_|refine pB1 ?_|exact True.intro)
  refine outM_call hno ?_
  rintro _ H ⟨rfl, rfl⟩
  clear hno
  repeat (with_reducible first|(first|refine pI1 ?_|refine pS1 ?_);intros|refine pA1 ?_|refine pX1 ?_|refine pB1 ?_|exact True.intro)
  exact ⟨rfl, rfl⟩
def Only (p : Nat) (H H' : Heap) : Prop := H'.length = H.length ∧ ∀ b, b ≠ p → H'[b]? = H[b]?
theorem s_move {H : Heap} {p : Nat} {k : Clk} {by_ : Int} (hk : ClkM H p k) (ho : ClkOk k) (hb : -2000000000000 ≤ by_ ∧ by_ ≤ 2000000000000) : WC F fn_clock_Clock_move [.c (.ptr (some (p, 0))), .c (.int .i64 by_)] H fun _ H' => ClkM H' p (k.move by_) ∧ Only p H H' := by
  refine WC_start e_clock_Clock_move (by simp) ?_
  unfold c_clock_Clock_move
  obtain ⟨C, g, h⟩ := hk
  have h5 := h.c5
  have hl := h.len
  have hoo := ho.o
  unfold E at hoo
  obtain ⟨b1, b2⟩ := hb
  obtain ⟨o1, o2⟩ := hoo
  have hoff : ClkC (k.move by_) (C.set 5 (.int .i64 (cutZ (k.offset + by_) (-1099511627776) 1099511627776))) := h.off _
  have e : (-E : Int) = -1099511627776 := rfl
  have e' : (E : Int) = 1099511627776 := rfl
  have fo : Hid _ := fun (A : Prop) (h : _ → A) => h hoff
  have hlt := lt_of_get g
  clear hoff h ho
  obtain ⟨x, hx⟩ : ∃ x, k.offset = x := ⟨_, rfl⟩
  rw [hx] at h5 o1 o2
  have hcut := s_cut (H := H) (v := x + by_) (lo := -1099511627776) (hi := 1099511627776)
  have fx : Hid _ := fun (A : Prop) (h : _ → A) => h hx
  clear hx e e'
  repeat (with_reducible first|(first|refine pI1 ?_|refine pS1 ?_);intros|refine pA1 ?_|refine pX1 ?_|refine pB1 ?_|exact True.intro)
  refine outM_call hcut ?_
  rintro _ H1 ⟨rfl, rfl⟩
  clear hcut
  repeat (with_reducible first|(first|refine pI1 ?_|refine pS1 ?_);intros|refine pA1 ?_|refine pX1 ?_|refine pB1 ?_|exact True.intro)
  rename_i H2 l2 g2 x2
  have hq : ClkM H2 p (k.move by_) := ⟨_, g2, by have := fo _ fun h => h; rw [fx _ fun h => h] at this; exact this⟩
  have fq : Hid _ := fun (A : Prop) (h : _ → _ → A) => h hq x2
  clear hq x2 g2
  repeat (with_reducible first|(first|refine pI1 ?_|refine pS1 ?_);intros|refine pA1 ?_|refine pX1 ?_|refine pB1 ?_|exact True.intro)
  exact fq _ fun hq x2 => ⟨hq, by omega, x2⟩
theorem s_Drift {H : Heap} {p : Nat} {k : Clk} {b : Int} (hk : ClkM H p k) (ho : ClkOk k) : WC F fn_clock_Clock_Drift [.c (.ptr (some (p, 0))), .c (.int .i64 b)] H fun v H' => v = .c (.int .i64 0) ∧ ClkM H' p (k.drifts b) ∧ Only p H H' := by
  refine WC_start e_clock_Clock_Drift (by simp) ?_
  unfold c_clock_Clock_Drift
  have hno := s_none hk ho
  obtain ⟨hd1, hd2⟩ := ho.d
  have hcl := cut_le (v := b) (lo := -k.drift) (hi := k.drift) (by omega)
  have hmv := s_move (by_ := cutZ b (-k.drift) k.drift) hk ho (by omega)
  have hcut := s_cut (H := H) (v := b) (lo := -k.drift) (hi := k.drift)
  have he : k.move (cutZ b (-k.drift) k.drift) = k.drifts b := rfl
  rw [he] at hmv
  obtain ⟨C, g, h⟩ := hk
  have h1 := h.c1
  clear h ho he
  generalize k.drifts b = k' at *
  generalize cutZ b (-k.drift) k.drift = z at *
  generalize k.drift = d at *
  rw [show (-d : Int) = 0 - d by omega] at hcut
  have fm : Hid _ := fun (A : Prop) (h : _ → _ → _ → A) => h hmv hcut hno
  clear hmv hcut hno
  repeat (with_reducible first|(first|refine pI1 ?_|refine pS1 ?_);intros|refine pA1 ?_|refine pX1 ?_|refine pB1 ?_|exact True.intro)
  refine outM_call (fm _ fun _ _ h => h) ?_
  rintro _ H ⟨rfl, rfl⟩
  repeat (with_reducible first|(first|refine pI1 ?_|refine pS1 ?_);intros|refine pA1 ?_|refine pX1 ?_|refine pB1 ?_|exact True.intro)
  refine outM_call (fm _ fun _ h _ => h) ?_
  rintro _ H ⟨rfl, rfl⟩
  repeat (with_reducible first|(first|refine pI1 ?_|refine pS1 ?_);intros|refine pA1 ?_|refine pX1 ?_|refine pB1 ?_|exact True.intro)
  refine outM_call (fm _ fun h _ _ => h) ?_
  rintro _ H2 ⟨hq, ⟨l2, x2⟩⟩
  have fq : Hid _ := fun (A : Prop) (h : _ → _ → A) => h hq x2
  clear hq x2
  repeat (with_reducible first|(first|refine pI1 ?_|refine pS1 ?_);intros|refine pA1 ?_|refine pX1 ?_|refine pB1 ?_|exact True.intro)
  exact ⟨rfl, fq _ fun h _ => h, l2, fq _ fun _ h => h⟩
theorem s_Read {H : Heap} {p : Nat} {k : Clk} {o m : Int} (hk : ClkM H p k) (ho : ClkOk k) : WC F fn_clock_Clock_Read [.c (.ptr (some (p, 0))), .c (.int .i64 o), .c (.int .i64 m)] H fun v H' => v = .c (.int .i64 (k.read o m)) ∧ H' = H := by
  refine WC_start e_clock_Clock_Read (by simp) ?_
  unfold c_clock_Clock_Read
  have hno := s_none hk ho
  obtain ⟨hr1, hr2⟩ := ho.r
  obtain ⟨ho1, ho2⟩ := ho.o
  have hcl := cut_le (v := m) (lo := -k.reading) (hi := k.reading) (by omega)
  have hcl2 := cut_le (v := o) (lo := -E) (hi := E) (by unfold E; omega)
  have hcut := s_cut (H := H) (v := m) (lo := -k.reading) (hi := k.reading)
  have hcut2 : WC F fn_clock_cut_int [.c (.int .i64 o), .c (.int .i64 (-1099511627776)), .c (.int .i64 1099511627776)] H fun r H' => r = .c (.int .i64 (cutZ o (-E) E)) ∧ H' = H := s_cut
  have he : k.read o m = cutZ o (-E) E - k.offset + cutZ m (-k.reading) k.reading := rfl
  rw [he]
  clear he
  obtain ⟨C, g, h⟩ := hk
  have h2 := h.c2
  have h5 := h.c5
  clear h ho
  generalize cutZ m (-k.reading) k.reading = z at *
  generalize cutZ o (-E) E = z2 at *
  generalize k.reading = r at *
  generalize k.offset = x at *
  have e : E = 1099511627776 := rfl
  rw [e] at ho1 ho2 hcl2
  rw [show (-r : Int) = 0 - r by omega] at hcut
  clear e
  obtain ⟨q1, q2⟩ := hcl
  obtain ⟨q3, q4⟩ := hcl2
  have fm : Hid _ := fun (A : Prop) (h : _ → _ → _ → A) => h hcut2 hcut hno
  clear hcut2 hcut hno
  repeat (with_reducible first|(first|refine pI1 ?_|refine pS1 ?_);intros|refine pA1 ?_|refine pX1 ?_|refine pB1 ?_|exact True.intro)
  refine outM_call (fm _ fun _ _ h => h) ?_
  rintro _ H ⟨rfl, rfl⟩
  repeat (with_reducible first|(first|refine pI1 ?_|refine pS1 ?_);intros|refine pA1 ?_|refine pX1 ?_|refine pB1 ?_|exact True.intro)
  refine outM_call (fm _ fun h _ _ => h) ?_
  rintro _ H ⟨rfl, rfl⟩
  repeat (with_reducible first|(first|refine pI1 ?_|refine pS1 ?_);intros|refine pA1 ?_|refine pX1 ?_|refine pB1 ?_|exact True.intro)
  refine outM_call (fm _ fun _ h _ => h) ?_
  rintro _ H ⟨rfl, rfl⟩
  repeat (with_reducible first|(first|refine pI1 ?_|refine pS1 ?_);intros|refine pA1 ?_|refine pX1 ?_|refine pB1 ?_|exact True.intro)
  exact ⟨rfl, rfl⟩
theorem s_Fits {H : Heap} {p : Nat} {k : Clk} {r : Int} (hk : ClkM H p k) (ho : ClkOk k) : WC F fn_clock_Clock_Fits [.c (.ptr (some (p, 0))), .c (.int .i64 r)] H fun v H' => v = .c (.bool (decide (-k.margin ≤ r ∧ r ≤ k.margin))) ∧ H' = H := by
  refine WC_start e_clock_Clock_Fits (by simp) ?_
  unfold c_clock_Clock_Fits
  have hno := s_none hk ho
  obtain ⟨hm1, hm2⟩ := ho.m
  obtain ⟨C, g, h⟩ := hk
  have h3 := h.c3
  clear h ho
  generalize k.margin = m at *
  by_cases c1 : 0 - m ≤ r
  · by_cases c2 : r ≤ m
    · have e : decide (-m ≤ r ∧ r ≤ m) = true := decide_eq_true ⟨by omega, c2⟩
      rw [e]
      clear e
      repeat (with_reducible first|(first|refine pI1 ?_|refine pS1 ?_);intros|refine pA1 ?_|refine pX1 ?_|refine pB1 ?_|exact True.intro)
      refine outM_call hno ?_
      rintro _ H ⟨rfl, rfl⟩
      clear hno
      repeat (with_reducible first|(first|refine pI1 ?_|refine pS1 ?_);intros|refine pA1 ?_|refine pX1 ?_|refine pB1 ?_|exact True.intro)
      exact ⟨rfl, rfl⟩
    · have e : decide (-m ≤ r ∧ r ≤ m) = false := decide_eq_false fun h => c2 h.2
      rw [e]
      clear e
      repeat (with_reducible first|(first|refine pI1 ?_|refine pS1 ?_);intros|refine pA1 ?_|refine pX1 ?_|refine pB1 ?_|exact True.intro)
      refine outM_call hno ?_
      rintro _ H ⟨rfl, rfl⟩
      clear hno
      repeat (with_reducible first|(first|refine pI1 ?_|refine pS1 ?_);intros|refine pA1 ?_|refine pX1 ?_|refine pB1 ?_|exact True.intro)
      exact ⟨rfl, rfl⟩
  · have e : decide (-m ≤ r ∧ r ≤ m) = false := decide_eq_false fun h => c1 (by omega)
    rw [e]
    clear e
    repeat (with_reducible first|(first|refine pI1 ?_|refine pS1 ?_);intros|refine pA1 ?_|refine pX1 ?_|refine pB1 ?_|exact True.intro)
    refine outM_call hno ?_
    rintro _ H ⟨rfl, rfl⟩
    clear hno
    repeat (with_reducible first|(first|refine pI1 ?_|refine pS1 ?_);intros|refine pA1 ?_|refine pX1 ?_|refine pB1 ?_|exact True.intro)
    exact ⟨rfl, rfl⟩
def hearP (k : Clk) (n r : Int) : Prop := 0 ≤ n ∧ n < k.nodes ∧ -2 * E ≤ r ∧ r ≤ 2 * E
theorem s_Hear {H : Heap} {p : Nat} {k : Clk} {n r : Int} (hk : ClkM H p k) (ho : ClkOk k) : WC F fn_clock_Clock_Hear [.c (.ptr (some (p, 0))), .c (.int .i64 n), .c (.int .i64 r)] H fun v H' => Only p H H' ∧ ((hearP k n r ∧ v = .c (.int .i64 0) ∧ ClkM H' p (k.hear n.toNat r)) ∨ (¬ hearP k n r ∧ v = .c (.int .i64 2) ∧ H' = H)) := by
  refine WC_start e_clock_Clock_Hear (by simp) ?_
  unfold c_clock_Clock_Hear
  have hno := s_none hk ho
  have hiff : hearP k n r ↔ (0 ≤ n ∧ n < k.nodes ∧ -2199023255552 ≤ r ∧ r ≤ 2199023255552) := Iff.rfl
  have hn16 := ho.n16
  obtain ⟨C, g, h⟩ := hk
  have h0 := h.c0
  have hl := h.len
  have hlt := lt_of_get g
  have hhr := fun (j : Nat) (hj : j < 16) => h.hr hj r
  have fi : Hid _ := fun (A : Prop) (h : _ → _ → _ → A) => h hiff hhr hno
  clear h ho hiff hhr hno
  generalize hnd : k.nodes = nd at *
  have fnd : Hid _ := fun (A : Prop) (h : _ → A) => h hnd
  clear hnd
  repeat (with_reducible first|(first|refine pI1 ?_|refine pS1 ?_);intros|refine pA1 ?_|refine pX1 ?_|refine pB1 ?_|exact True.intro)
  refine outM_call (fi _ fun _ _ h => h) ?_
  rintro _ H ⟨rfl, rfl⟩
  have hbad : ¬ (0 ≤ n ∧ n < nd ∧ -2199023255552 ≤ r ∧ r ≤ 2199023255552) → ¬ hearP k n r := fun h h' => h (fi _ fun hi _ _ => hi.1 h')
  have fb : Hid _ := fun (A : Prop) (h : _ → A) => h hbad
  clear hbad
  by_cases c1 : n < 0
  · have hn := fb _ fun h => h fun h' => by omega
    have fn : Hid _ := fun (A : Prop) (h : _ → A) => h hn
    clear hn
    repeat (with_reducible first|(first|refine pI1 ?_|refine pS1 ?_);intros|refine pA1 ?_|refine pX1 ?_|refine pB1 ?_|exact True.intro)
    exact ⟨⟨rfl, fun _ _ => rfl⟩, .inr ⟨fn _ fun h => h, rfl, rfl⟩⟩
  by_cases c2 : (nd : Int) ≤ n
  · have hn := fb _ fun h => h fun h' => by omega
    have fn : Hid _ := fun (A : Prop) (h : _ → A) => h hn
    clear hn
    repeat (with_reducible first|(first|refine pI1 ?_|refine pS1 ?_);intros|refine pA1 ?_|refine pX1 ?_|refine pB1 ?_|exact True.intro)
    exact ⟨⟨rfl, fun _ _ => rfl⟩, .inr ⟨fn _ fun h => h, rfl, rfl⟩⟩
  by_cases c3 : r < -2199023255552
  · have hn := fb _ fun h => h fun h' => by omega
    have fn : Hid _ := fun (A : Prop) (h : _ → A) => h hn
    clear hn
    repeat (with_reducible first|(first|refine pI1 ?_|refine pS1 ?_);intros|refine pA1 ?_|refine pX1 ?_|refine pB1 ?_|exact True.intro)
    exact ⟨⟨rfl, fun _ _ => rfl⟩, .inr ⟨fn _ fun h => h, rfl, rfl⟩⟩
  by_cases c4 : 2199023255552 < r
  · have hn := fb _ fun h => h fun h' => by omega
    have fn : Hid _ := fun (A : Prop) (h : _ → A) => h hn
    clear hn
    repeat (with_reducible first|(first|refine pI1 ?_|refine pS1 ?_);intros|refine pA1 ?_|refine pX1 ?_|refine pB1 ?_|exact True.intro)
    exact ⟨⟨rfl, fun _ _ => rfl⟩, .inr ⟨fn _ fun h => h, rfl, rfl⟩⟩
  have hn : hearP k n r := fi _ fun hi _ _ => hi.2 (by omega)
  have fn : Hid _ := fun (A : Prop) (h : _ → A) => h hn
  clear hn fb
  obtain ⟨j, rfl⟩ : ∃ j : Nat, n = j := ⟨n.toNat, by omega⟩
  have hj16 : j < 16 := by omega
  repeat (with_reducible first|(first|refine pI1 ?_|refine pS1 ?_);intros|refine pA1 ?_|refine pX1 ?_|refine pB1 ?_|exact True.intro)
  rename_i H2 l2 g2 x2 H3 l3 g3 x3
  exact ⟨⟨by omega, fun b hb => by rw [x3 b hb, x2 b hb]⟩, .inl ⟨fn _ fun h => h, rfl, _, g3, fi _ fun _ h _ => h j hj16⟩⟩
end Go.Proofs.Yteiiddefimpplaa.AM.D08

namespace Go.Proofs.Yteiiddefimpplaa.AM.D08
open Go Go.Proofs.Yteiiddefimpplaa.AM Go.Proofs.Yteiiddefimpplaa.AM.C08
set_option maxHeartbeats 2000000
set_option maxRecDepth 100000
attribute [local go_sem] tn_add1 tn_sub1 put_all' nums_len aop_mn aop_mx mnO_int mxO_int
theorem kF8 : ExtKeep F := ExtKeep.funsX fun f g h => by
  unfold X at h
  split at h
  · cases h
    exact fun args H v H' e => sortX_keep e
  cases h
def enci (n : Int) : List V := [.c (.int .i64 n)]
def OfP (p b3 b4 b5 : Nat) (k : Clk) (ms : Nat) (own : Int) (H : Heap) : Prop :=
  H[b3]? = some (.cells [.ptr (some (p, 0))] false none) ∧ H[b4]? = some (.cells [.int .u16 (ms : Nat)] false none) ∧ H[b5]? = some (.cells [.int .i64 own] false none) ∧ ClkM H p k
theorem it_of {p b3 b4 b5 ms : Nat} {k : Clk} {own : Int} (ho : ClkOk k) (hms : ms < 65536) : IterT F fn_clock_Clock_of_1 [] [(b3, 0), (b4, 0), (b5, 0)] (fun b => b = p ∨ b = b3 ∨ b = b4 ∨ b = b5) nob (OfP p b3 b4 b5 k ms own) ((ofL k ms own k.nodes).map enci) := by
  intro l H J E hP hlt hSl hJ hE hr h0 hfin
  obtain ⟨g3, g4, g5, C, gp, hC⟩ := hP
  refine WC_start e_clock_Clock_of_1 (by simp) ?_
  unfold c_clock_Clock_of_1
  rw [← restL_0] at h0
  have c0 := hC.c0
  have n16 := ho.n16
  obtain ⟨N, hN⟩ : ∃ N, k.nodes = N := ⟨_, rfl⟩
  rw [hN] at c0 n16
  have fin0 : Hid _ := fun (A : Prop) (h : _ → _ → _ → _ → _ → _ → A) => h hr hfin hC h0 hJ hN
  have fr : Hid _ := fun (A : Prop) (h : _ → A) => h hE
  clear hJ hE hr hfin hC h0 hN ho
  repeat (with_reducible first|(first|refine pI1 ?_|refine pS1 ?_);intros|refine pA1 ?_|refine pX1 ?_|refine pB1 ?_|exact True.intro)
  refine W_loop (fun m st => ∃ ρ, ∃ i : Nat, ∃ Hk, st = ⟨L 47 ρ, [], Hk⟩ ∧ m = N - i ∧ i ≤ N ∧ ρ 0 = .c (.yld l) ∧ ρ 1 = .c (.ptr (some (b3, 0))) ∧ ρ 2 = .c (.ptr (some (b4, 0))) ∧ ρ 3 = .c (.ptr (some (b5, 0))) ∧ ρ 10 = .c (.int .i64 (N : Nat)) ∧ ρ 11 = .c (.int .i64 (i : Nat)) ∧ H.length ≤ Hk.length ∧
    Hk[b3]? = some (.cells [.ptr (some (p, 0))] false none) ∧ Hk[b4]? = some (.cells [.int .u16 (ms : Nat)] false none) ∧ Hk[b5]? = some (.cells [.int .i64 own] false none) ∧ Hk[p]? = some (.cells C false none) ∧ Hid (J ((restL k ms own i).map enci) Hk)) N
    ⟨_, 0, H, rfl, rfl, by omega, zf, zf, zf, zf, zf, zf, Nat.le_refl _, g3, g4, g5, gp, fin0 _ fun _ _ _ h _ _ => h⟩ ?_
  clear g3 g4 g5 gp c0
  rintro m st ⟨ρ, i, Hk, rfl, rfl, hi, e0, e1, e2, e3, e10, e11, lk, g3, g4, g5, gp, hJk⟩
  unfold b_clock_Clock_of_1_9
  by_cases hin : i < N
  · have hxt : (i : Int) < (N : Int) := by omega
    have hs := fin0 _ fun _ _ _ _ _ hN => restL_s (k := k) (ms := ms) (own := own) (i := i) (by omega)
    have ch := fin0 _ fun _ _ hC _ _ _ => hC.ch i (by omega)
    have cr := fin0 _ fun _ _ hC _ _ _ => hC.cr i (by omega)
    have hrd : rd k ms own i = if P3.bt ms i = true ∧ ((i : Int) = own ∨ k.heard i = true) then some (if (i : Int) = own then 0 else k.readings i) else none := rfl
    have hand : (ms &&& 2 ^ i) % 65536 = ms &&& 2 ^ i := Nat.mod_eq_of_lt (and_lt hms)
    have hp2 : 1 * 2 ^ i % 65536 = 2 ^ i := by
      rw [Nat.one_mul]
      exact Nat.mod_eq_of_lt (Nat.lt_of_le_of_lt (Nat.pow_le_pow_right (by decide) (show i ≤ 15 by omega)) (by decide))
    have hbit := and_bit ms i
    obtain ⟨mb, hmb⟩ : ∃ mb, ms &&& 2 ^ i = mb := ⟨_, rfl⟩
    rw [hmb] at hand hbit
    have hyn : ∀ v, rd k ms own i = some v → WR F l (enci v) Hk fun r H' => (∀ b, (b = p ∨ b = b3 ∨ b = b4 ∨ b = b5) → H'[b]? = Hk[b]?) ∧ Hk.length ≤ H'.length ∧ ((r = .c (.bool true) ∧ J ((restL k ms own (i + 1)).map enci) H') ∨ (r = .c (.bool false) ∧ E H')) := fun v hv => fin0 _ fun hr _ _ _ _ _ => by
      have hJ2 : J ((restL k ms own i).map enci) Hk := hJk
      rw [hs, hv] at hJ2
      exact hr _ _ Hk hJ2
    have hskip : rd k ms own i = none → J ((restL k ms own (i + 1)).map enci) Hk := fun hv => by
      have hJ2 : J ((restL k ms own i).map enci) Hk := hJk
      rw [hs, hv] at hJ2
      exact hJ2
    have f1 : Hid _ := fun (A : Prop) (h : _ → _ → _ → _ → A) => h hrd hyn hskip hbit
    clear hrd hyn hskip hbit hJk hs
    generalize k.heard i = hd at *
    generalize k.readings i = v at *
    by_cases c1 : mb = 0
    · have hv := f1 _ fun hrd _ hskip hbit => hskip (by rw [hrd, if_neg (by rw [hbit.1 c1]; simp)])
      have fv : Hid _ := fun (A : Prop) (h : _ → A) => h hv
      have c1' : (mb : Int) = 0 := by omega
      clear hv
      repeat (with_reducible first|(first|refine pI1 ?_|refine pS1 ?_);intros|refine pA1 ?_|refine pX1 ?_|refine pB1 ?_|exact True.intro)
      exact loopQ_n (N - (i + 1)) (by omega) ⟨_, i + 1, Hk, rfl, rfl, by omega, zf, zf, zf, zf, zf, zf, lk, g3, g4, g5, gp, fv _ fun h => h⟩
    have c1' : ¬ (mb : Int) = 0 := by omega
    have hbt : P3.bt ms i = true := f1 _ fun _ _ _ hbit => by
      cases hb : P3.bt ms i with
      | true => rfl
      | false => exact absurd (hbit.2 hb) c1
    have fbt : Hid _ := fun (A : Prop) (h : _ → A) => h hbt
    clear hbt
    by_cases c2 : (i : Int) = own
    · have hy := f1 _ fun hrd hyn _ _ => hyn 0 (by rw [hrd, if_pos ⟨fbt _ fun h => h, .inl c2⟩, if_pos c2])
      have e : enci 0 = [.c (.int .i64 0)] := rfl
      rw [e] at hy
      clear e
      subst c2
      have fy : Hid _ := fun (A : Prop) (h : _ → A) => h hy
      clear hy
      repeat (with_reducible first|(first|refine pI1 ?_|refine pS1 ?_);intros|refine pA1 ?_|refine pX1 ?_|refine pB1 ?_|exact True.intro)
      refine outM_yld (fy _ fun h => h) ?_
      rintro r H' ⟨k1, k2, ⟨rfl, k3⟩ | ⟨rfl, k3⟩⟩
      · have q3 := (k1 b3 (.inr (.inl rfl))).trans g3
        have q4 := (k1 b4 (.inr (.inr (.inl rfl)))).trans g4
        have q5 := (k1 b5 (.inr (.inr (.inr rfl)))).trans g5
        have qp := (k1 p (.inl rfl)).trans gp
        have fk : Hid _ := fun (A : Prop) (h : _ → A) => h k3
        clear k1 k3 g3 g4 g5 gp
        repeat (with_reducible first|(first|refine pI1 ?_|refine pS1 ?_);intros|refine pA1 ?_|refine pX1 ?_|refine pB1 ?_|exact True.intro)
        exact loopQ_n (N - (i + 1)) (by omega) ⟨_, i + 1, H', rfl, rfl, by omega, zf, zf, zf, zf, zf, zf, by omega, q3, q4, q5, qp, fk _ fun h => h⟩
      · clear k1 g3 g4 g5 gp
        have fk : Hid _ := fun (A : Prop) (h : _ → A) => h k3
        clear k3
        repeat (with_reducible first|(first|refine pI1 ?_|refine pS1 ?_);intros|refine pA1 ?_|refine pX1 ?_|refine pB1 ?_|exact True.intro)
        exact fk _ fun h => h
    · cases hd with
      | false =>
        have hv := f1 _ fun hrd _ hskip _ => hskip (by rw [hrd, if_neg (fun h => by rcases h.2 with h | h; exact c2 h; cases h)])
        have fv : Hid _ := fun (A : Prop) (h : _ → A) => h hv
        clear hv
        repeat (with_reducible first|(first|refine pI1 ?_|refine pS1 ?_);intros|refine pA1 ?_|refine pX1 ?_|refine pB1 ?_|exact True.intro)
        exact loopQ_n (N - (i + 1)) (by omega) ⟨_, i + 1, Hk, rfl, rfl, by omega, zf, zf, zf, zf, zf, zf, lk, g3, g4, g5, gp, fv _ fun h => h⟩
      | true =>
        have hy := f1 _ fun hrd hyn _ _ => hyn v (by rw [hrd, if_pos ⟨fbt _ fun h => h, .inr rfl⟩, if_neg c2])
        have e : enci v = [.c (.int .i64 v)] := rfl
        rw [e] at hy
        clear e
        have fy : Hid _ := fun (A : Prop) (h : _ → A) => h hy
        clear hy
        repeat (with_reducible first|(first|refine pI1 ?_|refine pS1 ?_);intros|refine pA1 ?_|refine pX1 ?_|refine pB1 ?_|exact True.intro)
        refine outM_yld (fy _ fun h => h) ?_
        rintro r H' ⟨k1, k2, ⟨rfl, k3⟩ | ⟨rfl, k3⟩⟩
        · have q3 := (k1 b3 (.inr (.inl rfl))).trans g3
          have q4 := (k1 b4 (.inr (.inr (.inl rfl)))).trans g4
          have q5 := (k1 b5 (.inr (.inr (.inr rfl)))).trans g5
          have qp := (k1 p (.inl rfl)).trans gp
          have fk : Hid _ := fun (A : Prop) (h : _ → A) => h k3
          clear k1 k3 g3 g4 g5 gp
          repeat (with_reducible first|(first|refine pI1 ?_|refine pS1 ?_);intros|refine pA1 ?_|refine pX1 ?_|refine pB1 ?_|exact True.intro)
          exact loopQ_n (N - (i + 1)) (by omega) ⟨_, i + 1, H', rfl, rfl, by omega, zf, zf, zf, zf, zf, zf, by omega, q3, q4, q5, qp, fk _ fun h => h⟩
        · clear k1 g3 g4 g5 gp
          have fk : Hid _ := fun (A : Prop) (h : _ → A) => h k3
          clear k3
          repeat (with_reducible first|(first|refine pI1 ?_|refine pS1 ?_);intros|refine pA1 ?_|refine pX1 ?_|refine pB1 ?_|exact True.intro)
          exact fk _ fun h => h
  · obtain rfl : i = N := by omega
    have hxt : ¬ (i : Int) < (i : Int) := by omega
    have hE := fin0 _ fun _ hfin _ _ _ hN => hfin Hk (by
      have hJ2 : J ((restL k ms own i).map enci) Hk := hJk
      rw [← hN, restL_e] at hJ2
      exact hJ2)
    have fE : Hid _ := fun (A : Prop) (h : _ → A) => h hE
    clear hE hJk
    repeat (with_reducible first|(first|refine pI1 ?_|refine pS1 ?_);intros|refine pA1 ?_|refine pX1 ?_|refine pB1 ?_|exact True.intro)
    exact fE _ fun h => h
theorem s_of {H : Heap} {p ms : Nat} {own : Int} : WC F fn_clock_Clock_of [.c (.ptr (some (p, 0))), .c (.int .u16 (ms : Nat)), .c (.int .i64 own)] H fun v H' => ∃ b3 b4 b5, v = .c (.fn fn_clock_Clock_of_1 [] [(b3, 0), (b4, 0), (b5, 0)]) ∧ H.length ≤ b3 ∧ H.length ≤ b4 ∧ H.length ≤ b5 ∧ b3 < H'.length ∧ b4 < H'.length ∧ b5 < H'.length ∧
    H'[b3]? = some (.cells [.ptr (some (p, 0))] false none) ∧ H'[b4]? = some (.cells [.int .u16 (ms : Nat)] false none) ∧ H'[b5]? = some (.cells [.int .i64 own] false none) ∧ Xt H H' := by
  refine WC_start e_clock_Clock_of (by simp) ?_
  unfold c_clock_Clock_of
  repeat (with_reducible first|(first|refine pI1 ?_|refine pS1 ?_);intros|refine pA1 ?_|refine pX1 ?_|refine pB1 ?_|exact True.intro)
  rename_i b3 H3 p3 g3 x3 b4 H4 p4 g4 x4 b5 H5 p5 g5 x5
  have q3 := (x5 b3 (by omega)).trans ((x4 b3 (by omega)).trans g3)
  have q4 := (x5 b4 (by omega)).trans g4
  have fx : Hid _ := fun (A : Prop) (h : _ → _ → _ → A) => h x3 x4 x5
  clear x3 x4 x5 g3 g4
  repeat (with_reducible first|(first|refine pI1 ?_|refine pS1 ?_);intros|refine pA1 ?_|refine pX1 ?_|refine pB1 ?_|exact True.intro)
  exact ⟨b3, b4, b5, rfl, by omega, by omega, by omega, by omega, by omega, by omega, q3, q4, g5, by omega, fx _ fun x3 x4 x5 b hb => by rw [x5 b (by omega), x4 b (by omega), x3 b (by omega)]⟩
end Go.Proofs.Yteiiddefimpplaa.AM.D08

namespace Go.Proofs.Yteiiddefimpplaa.AM.D08
open Go Go.Proofs.Yteiiddefimpplaa.AM Go.Proofs.Yteiiddefimpplaa.AM.C08
set_option maxHeartbeats 2000000
set_option maxRecDepth 100000
attribute [local go_sem] tn_add1 tn_sub1 put_all' nums_len aop_mn aop_mx mnO_int mxO_int
theorem ints_len (l : List Int) : (ints l).length = l.length := by simp [ints]
theorem ints_app (a b : List Int) : ints (a ++ b) = ints a ++ ints b := by simp [ints]
theorem ints_nums (l : List Int) : ints l = nums l := rfl
attribute [local go_sem] ints_len
theorem s_Sort {H : Heap} {lo n : Nat} {a : Option Ad} {o : Bool} {ws : List Int} (hn : n ≤ 100000) (h0 : n = 0 → a = none ∧ o = false) (h : Gr lo H 1 a n o (ints ws)) :
    WC F fn_slices_Sort_int_int [.c (.sl a n n o)] H fun _ H' => Gr lo H' 1 a n o (ints (sorted ws)) ∧ Same H H' ∧ ∀ c, c < H.length → away a c → H'[c]? = H[c]? := by
  have hf : F fn_slices_Sort_int_int = some (.ext sortX) := by rfl
  have hlen := h.len
  rw [ints_len, Nat.mul_one] at hlen
  cases n with
  | zero =>
    obtain rfl : ws = [] := List.length_eq_zero_iff.1 hlen
    obtain ⟨rfl, rfl⟩ := h0 rfl
    have e : sorted [] = [] := by simp [sorted]
    rw [e]
    exact WC_ext hf (v := .undef) (H' := H) rfl ⟨h, ⟨Nat.le_refl _, Nat.le_refl _⟩, fun _ _ _ => rfl⟩
  | succ m =>
    obtain ⟨b, rfl, rfl, h3, h4, h5⟩ := h.blk (by omega)
    have hx : H.ldn (b, 0) (m + 1) = some (ints ws) := by
      have := ldn_all h5
      rw [ints_len, hlen] at this; exact this
    have hz : H.st (b, 0) (ints (sorted ws)) = some (H.set b (.cells (ints (sorted ws)) false (some 1))) := by
      rw [st_of h5 (by rw [ints_len, ints_len, sorted_length]; omega), put_all' (by rw [ints_len, ints_len, sorted_length])]
    refine WC_ext hf (v := .undef) (H' := H.set b (.cells (ints (sorted ws)) false (some 1))) ?_ ⟨Gr.mk' (get_set_same _ h4) (by rw [ints_len, sorted_length]; omega) h3, ⟨by simp, by simp⟩, fun c hc ha => List.getElem?_set_ne fun e => ha _ rfl e.symm⟩
    unfold sortX
    dsimp only
    rw [if_neg (by omega), hx, Option.bind_some, intsO_ints, Option.bind_some, hz, Option.map_some]
theorem ofL_in {k : Clk} (ho : ClkOk k) (ms : Nat) (own : Int) (m : Nat) : ∀ x ∈ ofL k ms own m, -2 * E ≤ x ∧ x ≤ 2 * E := fun x hx => by
  unfold ofL at hx
  obtain ⟨n, -, hn⟩ := List.mem_filterMap.1 hx
  unfold rd at hn
  split at hn
  · injection hn with hn
    subst hn
    split
    · unfold E; omega
    · exact ho.rs n
  · cases hn
theorem s_Average {H : Heap} {p ms : Nat} {k : Clk} {own : Int} (hk : ClkM H p k) (ho : ClkOk k) (hms : ms < 65536) : WC F fn_clock_Clock_Average [.c (.ptr (some (p, 0))), .c (.int .u16 (ms : Nat)), .c (.int .i64 own)] H fun v H' => v = .tup [.c (.int .i64 (avg k ms own)), .c (.bool (decide (0 < (ofL k ms own k.nodes).length)))] ∧ Xt H H' := by
  refine WC_start e_clock_Clock_Average (by simp) ?_
  unfold c_clock_Clock_Average
  have hno := s_none hk ho
  have hpl := hk.lt
  obtain ⟨ws, hws⟩ : ∃ ws, ofL k ms own k.nodes = ws := ⟨_, rfl⟩
  have hwl : ws.length ≤ 16 := by rw [← hws]; have := ofL_len k ms own k.nodes; have := ho.n16; omega
  have hwi : ∀ x ∈ ws, -2 * E ≤ x ∧ x ≤ 2 * E := by rw [← hws]; exact ofL_in ho ms own k.nodes
  have havg : avg k ms own = avgS (sorted ws) := by unfold avg; rw [hws]
  rw [havg, hws]
  have hit := fun b3 b4 b5 => it_of (p := p) (b3 := b3) (b4 := b4) (b5 := b5) (ms := ms) (own := own) ho hms
  have fin0 : Hid _ := fun (A : Prop) (h : _ → _ → _ → A) => h hk hit hws
  clear hk hit hws havg ho
  repeat (with_reducible first|(first|refine pI1 ?_|refine pS1 ?_);intros|refine pA1 ?_|refine pX1 ?_|refine pB1 ?_|exact True.intro)
  refine outM_call hno ?_
  rintro _ H ⟨rfl, rfl⟩
  clear hno
  repeat (with_reducible first|(first|refine pI1 ?_|refine pS1 ?_);intros|refine pA1 ?_|refine pX1 ?_|refine pB1 ?_|exact True.intro)
  rename_i e H1 p1 g1 x1
  have fx1 : Hid _ := fun (A : Prop) (h : _ → A) => h x1
  clear x1
  repeat (with_reducible first|(first|refine pI1 ?_|refine pS1 ?_);intros|refine pA1 ?_|refine pX1 ?_|refine pB1 ?_|exact True.intro)
  refine outM_call s_of ?_
  rintro _ H2 ⟨b3, b4, b5, rfl, q3, q4, q5, r3, r4, r5, g3, g4, g5, l2, x2⟩
  have ge := (x2 e (by omega)).trans g1
  have hx2 : ∀ b, b < H.length → H2[b]? = H[b]? := fun b hb => by rw [x2 b (by omega)]; exact fx1 _ fun x1 => x1 b (by omega)
  have hof : OfP p b3 b4 b5 k ms own H2 := ⟨g3, g4, g5, fin0 _ fun hk _ _ => hk.keep (hx2 p hpl)⟩
  have f2 : Hid _ := fun (A : Prop) (h : _ → _ → A) => h hof hx2
  clear hof hx2 x2 g1 g3 g4 g5
  repeat (with_reducible first|(first|refine pI1 ?_|refine pS1 ?_);intros|refine pA1 ?_|refine pX1 ?_|refine pB1 ?_|exact True.intro)
  unfold a_clock_Clock_Average_7
  refine W_rangeT (F := F) (enc := enci) (T := nob) (P := OfP p b3 b4 b5 k ms own) (xs := ws) kF8 zf (fun _ h => h.elim) (fin0 _ fun _ hit hws => by rw [← hws]; exact hit b3 b4 b5)
    (fun d r Hx => ∃ a' o', (d.length = 0 → a' = none ∧ o' = false) ∧ Hx[e]? = some (.cells [.sl a' d.length d.length o'] false none) ∧ Gr (H2.length + 2) Hx 1 a' d.length o' (ints d) ∧ ∀ b, b < H.length → Hx[b]? = H2[b]?)
    (fun _ _ => False)
    (fun J => f2 _ fun h _ => ⟨get_app' J h.1, get_app' J h.2.1, get_app' J h.2.2.1, h.2.2.2.keep (get_app J h.2.2.2.lt)⟩) ?_ (fun _ => rfl) ?_ (fun _ _ _ h => h.elim) ?_ ?_ ?_ (fun _ _ h => h.elim)
  · rintro x (rfl | rfl | rfl | rfl) <;> omega
  · rintro d r H7 H8 ⟨a', o', k0, k1, k2, k3⟩ l7 l8 x8
    exact ⟨a', o', k0, by rw [x8 e (by omega) (fun h => h) (by omega)]; exact k1, k2.keep fun b hb hb2 _ => x8 b hb2 (fun h => h) (by omega), fun b hb => by rw [x8 b (by omega) (fun h => h) (by omega)]; exact k3 b hb⟩
  · intro H7 l7 x7
    exact ⟨none, false, fun _ => ⟨rfl, rfl⟩, by rw [x7 e (by omega)]; exact ge, Gr.none _ _ _, fun b hb => x7 b (by omega)⟩
  · intro d w r Ha hd
    simp only [enci, List.zip_cons_cons, List.zip_nil_left, List.foldl_cons, List.foldl_nil, L_set]
    have hdl : d.length < 16 := by have := congrArg List.length hd; simp at this; omega
    have fd : Hid _ := fun (A : Prop) (h : _ → A) => h hd
    clear hd ge
    repeat (with_reducible first|(first|refine pI1 ?_|refine pS1 ?_);intros|refine pA1 ?_|refine pX1 ?_|refine pB1 ?_|exact True.intro)
    refine ⟨rfl, ?_⟩
    rintro H7 ⟨a', o', -, k1, k2, k3⟩ hll l7
    unfold b_clock_Clock_Average_8
    have hlt := k2.lt
    have fk : Hid _ := fun (A : Prop) (h : _ → _ → A) => h k2 k3
    clear k2 k3
    repeat (with_reducible first|(first|refine pI1 ?_|refine pS1 ?_);intros|refine pA1 ?_|refine pX1 ?_|refine pB1 ?_|exact True.intro)
    rename_i b8 H8 p8 g8 x8
    have k2' := fk _ fun k2 _ => k2.keepX (H' := H8) fun b hb => x8 b (by omega)
    refine outM_appG (ys := [.int .i64 w]) k2' (by omega) (Sl.blk g8 rfl) (by omega) (by omega) ?_
    intro a2 H9 hg9 l9 x9 y9 z9
    clear k2'
    have ye : H9[e]? = some (.cells [.sl a' d.length d.length o'] false none) := by rw [x9 e (by omega), x8 e (by omega)]; exact k1
    have yl : H9[H2.length + 1]? = H7[H2.length + 1]? := by rw [x9 _ (by omega), x8 _ (by omega)]
    have hz : ∀ b, b < H2.length → H9[b]? = H7[b]? := fun b hb => by rw [x9 b (by omega), x8 b (by omega)]
    have hg9' : ∃ lo, lo = H2.length + 2 ∧ Gr lo H9 1 a2 (d.length + 1) true (ints d ++ [.int .i64 w]) := ⟨_, rfl, hg9⟩
    obtain ⟨lo, hlo, hg9'⟩ := hg9'
    have f9 : Hid _ := fun (A : Prop) (h : _ → _ → _ → _ → A) => h hlo hg9' hz yl
    clear hg9 y9 z9 x9 x8 g8 hlo hg9' hz yl k1 hll
    repeat (with_reducible first|(first|refine pI1 ?_|refine pS1 ?_);intros|refine pA1 ?_|refine pX1 ?_|refine pB1 ?_|exact True.intro)
    rename_i H10 l10 g10 x10
    have f10 : Hid _ := fun (A : Prop) (h : _ → _ → A) => h g10 x10
    clear g10 x10 ye
    repeat (with_reducible first|(first|refine pI1 ?_|refine pS1 ?_);intros|refine pA1 ?_|refine pX1 ?_|refine pB1 ?_|exact True.intro)
    refine f9 _ fun hlo hg9' hz yl => f10 _ fun g10 x10 => fk _ fun _ k3 => turnQ_n (by omega) ?_ (fun b hb => ?_) ⟨a2, true, fun h => by simp at h, ?_, ?_, fun b hb => ?_⟩
    · rw [x10 _ (by omega)]; exact yl
    · rcases hb with rfl | rfl | rfl | rfl <;> (rw [x10 _ (by omega)]; exact hz _ (by omega))
    · rw [List.length_append, List.length_singleton]; exact g10
    · rw [List.length_append, List.length_singleton, ints_app]
      subst hlo
      exact hg9'.keep fun b hb hb2 _ => x10 b (by omega)
    · rw [x10 _ (by omega), hz _ (by omega)]; exact k3 b hb
  · rintro H7 ⟨a', o', k0, k1, k2, k3⟩ hd l7
    have hso := s_Sort (by omega) k0 k2
    have hlt := k2.lt
    have f7 : Hid _ := fun (A : Prop) (h : _ → _ → A) => h k0 k3
    clear k0 k3 k2 ge
    obtain ⟨s, hs⟩ : ∃ s, sorted ws = s := ⟨_, rfl⟩
    obtain ⟨n, hn⟩ : ∃ n, ws.length = n := ⟨_, rfl⟩
    have hsl : s.length = n := by rw [← hs, sorted_length, hn]
    have hsi : ∀ i, i < n → -2 * E ≤ gn s i ∧ gn s i ≤ 2 * E := fun i hi => hwi _ ((sorted_perm ws).subset (by rw [hs]; exact gn_mem (by omega)))
    have hav : n ≠ 0 → avgS s = (gn s (loI n) + gn s (hiI n)) / 2 := fun h => by unfold avgS; rw [hsl, if_neg h]
    have hav0 : n = 0 → avgS s = 0 := fun h => by unfold avgS; rw [hsl, if_pos h]
    rw [hs] at hso ⊢
    rw [hn] at hso k1 hwl ⊢
    have fs : Hid _ := fun (A : Prop) (h : _ → _ → _ → _ → A) => h hsl hsi hav hav0
    clear hs hsl hsi hav hav0 hwi hn
    repeat (with_reducible first|(first|refine pI1 ?_|refine pS1 ?_);intros|refine pA1 ?_|refine pX1 ?_|refine pB1 ?_|exact True.intro)
    refine outM_call hso ?_
    rintro _ H8 ⟨s1, s2, s3⟩
    clear hso
    have ge8 := (s3 e (by omega) (fun x ex => by have := hlt x ex; omega)).trans k1
    have gd8 := (s3 H2.length (by omega) (fun x ex => by have := hlt x ex; omega)).trans hd
    have hx8 : ∀ b, b < H.length → H8[b]? = H[b]? := fun b hb => by
      rw [s3 b (by omega) (fun x ex => by have := hlt x ex; omega), f7 _ fun _ k3 => k3 b hb]; exact f2 _ fun _ h => h b hb
    have hss := s1.sl
    rw [ints_nums] at hss
    have f8 : Hid _ := fun (A : Prop) (h : _ → A) => h hx8
    have lh8 : H.length ≤ H8.length := by omega
    by_cases hn0 : n = 0
    · have ea := fs _ fun _ _ _ h => h hn0
      rw [ea]
      have en : decide (0 < n) = false := decide_eq_false (by omega)
      rw [en]
      clear hx8 hss s1 s3 hd k1 hlt ea en
      subst hn0
      repeat (with_reducible first|(first|refine pI1 ?_|refine pS1 ?_);intros|refine pA1 ?_|refine pX1 ?_|refine pB1 ?_|exact True.intro)
      refine callQ_1 gd8 fun H9 l9 x9 => ?_
      have fx9 : Hid _ := fun (A : Prop) (h : _ → A) => h x9
      clear x9
      repeat (with_reducible first|(first|refine pI1 ?_|refine pS1 ?_);intros|refine pA1 ?_|refine pX1 ?_|refine pB1 ?_|exact True.intro)
      exact ⟨rfl, by omega, fun b hb => by rw [fx9 _ fun h => h b (by omega)]; exact f8 _ fun h => h b hb⟩
    have ea := fs _ fun _ _ h _ => h hn0
    have en : decide (0 < n) = true := decide_eq_true (by omega)
    rw [en, ea]
    obtain ⟨sb, rfl, rfl, b1, b2, b3'⟩ := s1.blk (by omega)
    have hsb : sb ≠ e := by omega
    have hsb2 : sb ≠ H2.length := by omega
    have hnz : ¬ (n : Int) = 0 := by omega
    have hE : E = 1099511627776 := rfl
    have glo := fs _ fun _ h _ _ => h (loI n) (lo_lt (by omega))
    have ghi := fs _ fun _ h _ _ => h (hiI n) (hi_lt (by omega))
    rw [hE] at glo ghi
    obtain ⟨glo1, glo2⟩ := glo
    obtain ⟨ghi1, ghi2⟩ := ghi
    by_cases hn2 : 2 < n
    · have dlo := fs _ fun hsl _ _ _ => hss.gn hsl (i := 1) (by omega)
      have dhi := fs _ fun hsl _ _ _ => hss.gn hsl (i := n - 2) (by omega)
      have e1 : loI n = 1 := if_pos hn2
      have e2 : hiI n = n - 2 := if_pos hn2
      rw [e1] at glo1 glo2 ⊢
      rw [e2] at ghi1 ghi2 ⊢
      dsimp only at dlo dhi
      generalize gn s 1 = x1 at *
      generalize gn s (n - 2) = x2 at *
      obtain ⟨m, rfl⟩ : ∃ m, n = m + 3 := ⟨n - 3, by omega⟩
      have hm1 : ((m + 3 : Nat) : Int) - 1 = (m + 2 : Nat) := by omega
      rw [show 0 + (m + 3 - 2) = 1 + (m + 2 - 1 - 1) by omega] at dhi
      clear hx8 hss s1 s3 hd k1 hlt ea en e1 e2 b3'
      repeat (with_reducible first|(first|refine pI1 ?_|refine pS1 ?_);intros|refine pA1 ?_|refine pX1 ?_|refine pB1 ?_|exact True.intro)
      rename_i H9 l9 g9 x9
      have gd9 := (x9 H2.length (by omega)).trans gd8
      have hx9 : ∀ b, b < H.length → H9[b]? = H[b]? := fun b hb => by rw [x9 b (by omega)]; exact f8 _ fun h => h b hb
      have f9 : Hid _ := fun (A : Prop) (h : _ → A) => h hx9
      clear hx9 x9 gd8
      refine callQ_1 gd9 fun Ha la xa => ?_
      have fa : Hid _ := fun (A : Prop) (h : _ → A) => h xa
      clear xa
      repeat (with_reducible first|(first|refine pI1 ?_|refine pS1 ?_);intros|refine pA1 ?_|refine pX1 ?_|refine pB1 ?_|exact True.intro)
      exact ⟨rfl, by omega, fun b hb => by rw [fa _ fun h => h b (by omega)]; exact f9 _ fun h => h b hb⟩
    · have dlo := fs _ fun hsl _ _ _ => hss.gn hsl (i := 0) (by omega)
      have dhi := fs _ fun hsl _ _ _ => hss.gn hsl (i := n - 1) (by omega)
      have e1 : loI n = 0 := if_neg hn2
      have e2 : hiI n = n - 1 := if_neg hn2
      rw [e1] at glo1 glo2 ⊢
      rw [e2] at ghi1 ghi2 ⊢
      dsimp only at dlo dhi
      generalize gn s 0 = x1 at *
      generalize gn s (n - 1) = x2 at *
      rw [show 0 + (n - 1) = n - 1 by omega] at dhi
      have hni : ¬ (2 : Int) < (n : Nat) := by omega
      clear hx8 hss s1 s3 hd k1 hlt ea en e1 e2 b3'
      repeat (with_reducible first|(first|refine pI1 ?_|refine pS1 ?_);intros|refine pA1 ?_|refine pX1 ?_|refine pB1 ?_|exact True.intro)
      refine callQ_1 gd8 fun Ha la xa => ?_
      have fa : Hid _ := fun (A : Prop) (h : _ → A) => h xa
      clear xa
      repeat (with_reducible first|(first|refine pI1 ?_|refine pS1 ?_);intros|refine pA1 ?_|refine pX1 ?_|refine pB1 ?_|exact True.intro)
      exact ⟨rfl, by omega, fun b hb => by rw [fa _ fun h => h b (by omega)]; exact f8 _ fun h => h b hb⟩
end Go.Proofs.Yteiiddefimpplaa.AM.D08

namespace Go.Proofs.Yteiiddefimpplaa.AM.D08
open Go Go.Proofs.Yteiiddefimpplaa.AM Go.Proofs.Yteiiddefimpplaa.AM.C02 Go.Proofs.Yteiiddefimpplaa.AM.C08
set_option maxHeartbeats 2000000
set_option maxRecDepth 100000
attribute [local go_sem] tn_add1 tn_sub1 put_all' nums_len aop_mn aop_mx mnO_int mxO_int sub12
theorem s_Round {H : Heap} {p ms : Nat} {k : Clk} {own : Int} (hk : ClkM H p k) (ho : ClkOk k) (hms : ms < 65536) : WC F fn_clock_Clock_Round [.c (.ptr (some (p, 0))), .c (.int .u16 (ms : Nat)), .c (.int .i64 own)] H fun v H' => v = .tup [.c (.int .i64 (k.round ms own)), .c (.int .i64 0)] ∧ ClkM H' p (k.move (k.round ms own)).clear ∧ H.length ≤ H'.length ∧ ∀ b, b < H.length → b ≠ p → H'[b]? = H[b]? := by
  refine WC_start e_clock_Clock_Round (by simp) ?_
  unfold c_clock_Clock_Round
  have hno := s_none hk ho
  have hav := s_Average (own := own) hk ho hms
  have hpl := hk.lt
  obtain ⟨hb1, hb2⟩ := ho.b
  have hcl := cut_le (v := avg k ms own) (lo := -k.bound) (hi := k.bound) (by omega)
  have hmv := fun (Hx : Heap) (hx : Xt H Hx) => s_move (H := Hx) (by_ := cutZ (avg k ms own) (-k.bound) k.bound) (hk.keep (hx.2 p hpl)) ho (by omega)
  have hcut := fun Hx => s_cut (H := Hx) (v := avg k ms own) (lo := -k.bound) (hi := k.bound)
  have he : k.round ms own = cutZ (avg k ms own) (-k.bound) k.bound := rfl
  rw [← he] at hmv hcut hcl
  clear he
  have hkc := hk
  obtain ⟨C, g, h⟩ := hk
  have h4 := h.c4
  clear h ho hkc
  generalize k.move (k.round ms own) = k' at *
  generalize k.round ms own = r at *
  generalize avg k ms own = x at *
  generalize k.bound = d at *
  have fm : Hid _ := fun (A : Prop) (h : _ → _ → _ → _ → A) => h hmv hcut hno hav
  have hcut1 : ∀ Hx, WC F fn_clock_cut_int [.c (.int .i64 x), .c (.int .i64 (0 - d)), .c (.int .i64 d)] Hx fun v H' => v = .c (.int .i64 r) ∧ H' = Hx := fun Hx => by
    have := hcut Hx
    rw [show (-d : Int) = 0 - d by omega] at this
    exact this
  have fc : Hid _ := fun (A : Prop) (h : _ → A) => h hcut1
  clear hmv hcut hno hav hcut1
  repeat (with_reducible first|(first|refine pI1 ?_|refine pS1 ?_);intros|refine pA1 ?_|refine pX1 ?_|refine pB1 ?_|exact True.intro)
  refine outM_call (fm _ fun _ _ h _ => h) ?_
  rintro _ H ⟨rfl, rfl⟩
  repeat (with_reducible first|(first|refine pI1 ?_|refine pS1 ?_);intros|refine pA1 ?_|refine pX1 ?_|refine pB1 ?_|exact True.intro)
  refine outM_call (fm _ fun _ _ _ h => h) ?_
  rintro _ H1 ⟨rfl, l1, x1⟩
  have g1 := (x1 p (by omega)).trans g
  have f1 : Hid _ := fun (A : Prop) (h : _ → A) => h x1
  clear x1 g
  repeat (with_reducible first|(first|refine pI1 ?_|refine pS1 ?_);intros|refine pA1 ?_|refine pX1 ?_|refine pB1 ?_|exact True.intro)
  refine outM_call (fc _ fun h => h H1) ?_
  rintro _ H1 ⟨rfl, rfl⟩
  repeat (with_reducible first|(first|refine pI1 ?_|refine pS1 ?_);intros|refine pA1 ?_|refine pX1 ?_|refine pB1 ?_|exact True.intro)
  refine outM_call (fm _ fun h _ _ _ => f1 _ fun x1 => h H1 ⟨l1, x1⟩) ?_
  rintro _ H2 ⟨⟨C2, g2, hC2⟩, l2, x2⟩
  have hl2 := hC2.len
  have hclr := hC2.clr
  have hl3 : 6 + (List.replicate 16 (Cell.bool false)).length ≤ C2.length := by simp [hl2]
  have lp2 := lt_of_get g2
  have f2 : Hid _ := fun (A : Prop) (h : _ → _ → A) => h x2 hclr
  clear x2 hclr hC2 g1
  repeat (with_reducible first|(first|refine pI1 ?_|refine pS1 ?_);intros|refine pA1 ?_|refine pX1 ?_|refine pB1 ?_|exact True.intro)
  rename_i H3 l3 g3 x3
  have fx : Hid _ := fun (A : Prop) (h : _ → _ → A) => h g3 x3
  clear g3 x3
  repeat (with_reducible first|(first|refine pI1 ?_|refine pS1 ?_);intros|refine pA1 ?_|refine pX1 ?_|refine pB1 ?_|exact True.intro)
  exact ⟨rfl, ⟨_, fx _ fun g _ => g, f2 _ fun _ h => h⟩, by omega, fun b hb hp => by rw [fx _ fun _ x => x b hp, f2 _ fun x _ => x b hp]; exact f1 _ fun x1 => x1 b hb⟩
def clk0 (c : Cfg) : Clk := ⟨c.nodes.toNat, c.drift, c.reading, c.margin, c.bound, 0, fun _ => false, fun _ => 0⟩
theorem clk0_ok {c : Cfg} (h : c.check = 0) : ClkOk (clk0 c) := by
  obtain ⟨⟨n1, n2, -⟩, ⟨d1, d2, r1, r2, m1, m2, b1, b2, -⟩, -⟩ := Cfg.check_ok.1 h
  have hp : 0 ≤ c.prec := by unfold Cfg.prec; omega
  exact ⟨by show 4 ≤ c.nodes.toNat; omega, by show c.nodes.toNat ≤ 16; omega, ⟨d1, d2⟩, ⟨r1, r2⟩, ⟨by show 0 ≤ c.margin; omega, m2⟩, ⟨by show 0 ≤ c.bound; omega, b2⟩, by unfold E clk0; constructor <;> (dsimp only; omega), fun n => by unfold E clk0; constructor <;> (dsimp only; omega)⟩
theorem lit38 (a b c : Cell) : List.replicate 6 a ++ List.replicate 16 b ++ List.replicate 16 c = [a, a, a, a, a, a, b, b, b, b, b, b, b, b, b, b, b, b, b, b, b, b, c, c, c, c, c, c, c, c, c, c, c, c, c, c, c, c] := rfl
theorem s_New {N : Nat} {H : Heap} {c : Cfg} {h : Hd} (hc : CfgM N H c h) (hN : N ≤ H.length) : WC F fn_clock_New [.agg (c.cells h)] H fun v H' => Xt H H' ∧
    ((c.check ≠ 0 ∧ v = .tup [.c (.ptr none), .c (.int .i64 c.check)]) ∨ (c.check = 0 ∧ ∃ p, v = .tup [.c (.ptr (some (p, 0))), .c (.int .i64 0)] ∧ H.length ≤ p ∧ p < H'.length ∧ ClkM H' p (clk0 c))) := by
  refine WC_start e_clock_New (by simp) ?_
  unfold c_clock_New
  have hck := fun (Hx : Heap) (hx : Xt H Hx) => s_Check (H := Hx) (hc.keep fun b hb => hx.2 b (by omega)) (by have := hx.1; omega)
  unfold Cfg.cells at *
  obtain ⟨k, hk⟩ : ∃ k, k = c.check := ⟨_, rfl⟩
  rw [← hk] at hck ⊢
  have hn0 : k = 0 → 0 ≤ c.nodes := fun h0 => by obtain ⟨q1, _⟩ := (Cfg.check_ok.1 (by rw [← hk, h0])).nodes; omega
  have fin0 : Hid _ := fun (A : Prop) (h : _ → _ → A) => h hck hn0
  have hl := lit38 (.int .i64 0) (.bool false) (.int .i64 0)
  clear hck hc hk hn0
  repeat (with_reducible first|(first|refine pI1 ?_|refine pS1 ?_);intros|refine pA1 ?_|refine pX1 ?_|refine pB1 ?_|exact True.intro)
  rename_i b1 H1 p1 g1 x1
  have t1 : Xt H H1 := ⟨by omega, fun b hb => x1 b (by omega)⟩
  have f1 : Hid _ := fun (A : Prop) (h : _ → A) => h t1
  clear x1 t1
  repeat (with_reducible first|(first|refine pI1 ?_|refine pS1 ?_);intros|refine pA1 ?_|refine pX1 ?_|refine pB1 ?_|exact True.intro)
  refine outM_call (fin0 _ fun h _ => f1 _ fun t => h H1 t) ?_
  rintro _ H2 ⟨rfl, l2, x2⟩
  have g2 := (x2 b1 (by omega)).trans g1
  have t2 : Xt H H2 := f1 _ fun t => ⟨by omega, fun b hb => by rw [x2 b (by omega)]; exact t.2 b hb⟩
  have f2 : Hid _ := fun (A : Prop) (h : _ → A) => h t2
  clear x2 t2 g1 f1
  by_cases h0 : k = 0
  case neg =>
    clear hl
    repeat (with_reducible first|(first|refine pI1 ?_|refine pS1 ?_);intros|refine pA1 ?_|refine pX1 ?_|refine pB1 ?_|exact True.intro)
    exact ⟨f2 _ fun t => t, .inl ⟨h0, rfl⟩⟩
  subst h0
  have hnn := fin0 _ fun _ h => h rfl
  repeat (with_reducible first|(first|refine pI1 ?_|refine pS1 ?_);intros|refine pA1 ?_|refine pX1 ?_|refine pB1 ?_|exact True.intro)
  rename_i b3 H3 p3 g3 x3
  refine ⟨⟨by omega, fun b hb => by rw [x3 b (by omega)]; exact f2 _ fun t => t.2 b hb⟩, .inr ⟨rfl, b3, rfl, by omega, by omega, _, g3, ⟨rfl, ?_, rfl, rfl, rfl, rfl, rfl, fun n hn => ?_, fun n hn => ?_⟩⟩⟩
  · show some (Cell.int .i64 c.nodes) = some (.int .i64 ((c.nodes.toNat : Nat) : Int))
    rw [Int.toNat_of_nonneg hnn]
  · have : n = 0 ∨ n = 1 ∨ n = 2 ∨ n = 3 ∨ n = 4 ∨ n = 5 ∨ n = 6 ∨ n = 7 ∨ n = 8 ∨ n = 9 ∨ n = 10 ∨ n = 11 ∨ n = 12 ∨ n = 13 ∨ n = 14 ∨ n = 15 := by omega
    rcases this with rfl | rfl | rfl | rfl | rfl | rfl | rfl | rfl | rfl | rfl | rfl | rfl | rfl | rfl | rfl | rfl <;> rfl
  · have : n = 0 ∨ n = 1 ∨ n = 2 ∨ n = 3 ∨ n = 4 ∨ n = 5 ∨ n = 6 ∨ n = 7 ∨ n = 8 ∨ n = 9 ∨ n = 10 ∨ n = 11 ∨ n = 12 ∨ n = 13 ∨ n = 14 ∨ n = 15 := by omega
    rcases this with rfl | rfl | rfl | rfl | rfl | rfl | rfl | rfl | rfl | rfl | rfl | rfl | rfl | rfl | rfl | rfl <;> rfl
theorem s_at {H : Heap} {a : Option Ad} {len c : Nat} {o : Bool} {l : List Int} {n : Nat} {most : Int} (hs : Sl H 1 a len (nums l)) (hl : l.length = len) (hlb : len ≤ 9223372036854775807) (hn : n ≤ 1000000) (hi : ∀ x ∈ l, i64 x) (hm : 0 ≤ most ∧ most ≤ 1099511627776) : WC F fn_rotalaw08_at [.c (.sl a len c o), .c (.int .i64 (n : Nat)), .c (.int .i64 most)] H fun v H' => v = .c (.int .i64 (atF l n most)) ∧ H' = H := by
  refine WC_start e_rotalaw08_at (by simp) ?_
  unfold c_rotalaw08_at
  by_cases h0 : len = 0
  · have e : atF l n most = 0 := by unfold atF; rw [if_pos (by omega)]
    rw [e]
    subst h0
    clear e hs hl hi
    repeat (with_reducible first|(first|refine pI1 ?_|refine pS1 ?_);intros|refine pA1 ?_|refine pX1 ?_|refine pB1 ?_|exact True.intro)
    exact ⟨rfl, rfl⟩
  have h0' : ¬ (len : Int) = 0 := by omega
  obtain ⟨q, hq⟩ : ∃ q, n % len = q := ⟨_, rfl⟩
  have hql : q < len := by rw [← hq]; exact Nat.mod_lt _ (by omega)
  have e : atF l n most = Int.tmod (gn l q) (most + 1) := by unfold atF; rw [if_neg (by omega), hl, hq]
  obtain ⟨⟨lb, y⟩, rfl⟩ := hs.is_some (by omega)
  have hg := hs.gn hl hql
  dsimp only at hg
  have hr : (n : Int) % (len : Int) = (q : Nat) := by rw [← hq]; rfl
  rw [e]
  obtain ⟨m1, m2⟩ := hm
  obtain ⟨i1, i2⟩ := hi _ (gn_mem (l := l) (i := q) (by omega))
  clear hs hl hi e hq
  generalize gn l q = x at *
  have hrem : binC .rem (.int .i64 x) (.int .i64 (most + 1)) = some (.int .i64 (Int.tmod x (most + 1))) := rem_int _ (by omega)
  repeat (with_reducible first|(first|refine pI1 ?_|refine pS1 ?_);intros|refine pA1 ?_|refine pX1 ?_|refine pB1 ?_|exact True.intro)
  exact ⟨rfl, rfl⟩
theorem s_far {H : Heap} {a b : Int} (ha : -2000000000000 ≤ a ∧ a ≤ 2000000000000) (hb : -2000000000000 ≤ b ∧ b ≤ 2000000000000) : WC F fn_rotalaw08_far [.c (.int .i64 a), .c (.int .i64 b)] H fun v H' => v = .c (.int .i64 (max (a - b) (b - a))) ∧ H' = H := by
  refine WC_start e_rotalaw08_far (by simp) ?_
  unfold c_rotalaw08_far
  obtain ⟨a1, a2⟩ := ha
  obtain ⟨b1, b2⟩ := hb
  by_cases h : a < b
  · have e : max (a - b) (b - a) = b - a := by omega
    rw [e]
    clear e
    repeat (with_reducible first|(first|refine pI1 ?_|refine pS1 ?_);intros|refine pA1 ?_|refine pX1 ?_|refine pB1 ?_|exact True.intro)
    exact ⟨rfl, rfl⟩
  · have e : max (a - b) (b - a) = a - b := by omega
    rw [e]
    clear e
    repeat (with_reducible first|(first|refine pI1 ?_|refine pS1 ?_);intros|refine pA1 ?_|refine pX1 ?_|refine pB1 ?_|exact True.intro)
    exact ⟨rfl, rfl⟩
end Go.Proofs.Yteiiddefimpplaa.AM.D08

namespace Go.Proofs.Yteiiddefimpplaa.AM.D08
open Go Go.Proofs.Yteiiddefimpplaa.AM Go.Proofs.Yteiiddefimpplaa.AM.C02 Go.Proofs.Yteiiddefimpplaa.AM.C08
set_option maxHeartbeats 2000000
set_option maxRecDepth 100000
attribute [local go_sem] tn_add1 tn_sub1 put_all' nums_len sub12
def w4 : List Int := [-1, -1, -1, -1]
def four : Cfg := ⟨4, [0, 1, 2, 3], 1, 1, 20, 20, 1, 4, [], [w4, w4, w4, w4], [], []⟩
theorem four_check : four.check = 0 := by
  refine Cfg.check_ok.2 ⟨⟨by decide, by decide, rfl, fun n hn => ?_⟩, by unfold Cfg.okClock Cfg.prec four; decide, ⟨by decide, fun p hp => (by cases hp), fun i k _ hk => (by cases hk)⟩, ⟨rfl, fun i row hr => ?_⟩, ⟨by decide, fun p hp => (by cases hp)⟩, ⟨by decide, fun l hl => (by cases hl), fun n => ?_, fun i k _ hk => (by cases hk)⟩⟩
  · have : (n : Int) < 4 := hn
    have h4 : n = 0 ∨ n = 1 ∨ n = 2 ∨ n = 3 := by omega
    rcases h4 with rfl | rfl | rfl | rfl <;> decide
  · have hrow : row = w4 := by
      have hm : row ∈ [w4, w4, w4, w4] := List.mem_of_getElem? hr
      simpa using hm
    subst hrow
    refine ⟨rfl, fun p hp => .inl ?_⟩
    simpa [w4] using hp
  · show cn n [] ≤ 1
    simp [cn]
theorem rep6a : List.replicate 6 (Cell.int .i64 0) = [.int .i64 0, .int .i64 0, .int .i64 0, .int .i64 0, .int .i64 0, .int .i64 0] := rfl
theorem rep4a : List.replicate 4 (Cell.int .i64 0) = [.int .i64 0, .int .i64 0, .int .i64 0, .int .i64 0] := rfl
theorem rep4b : List.replicate 4 (Cell.sl none 0 0 false) = [.sl none 0 0 false, .sl none 0 0 false, .sl none 0 0 false, .sl none 0 0 false] := rfl
attribute [local go_sem high] rep6a rep4a rep4b
theorem outM_eq {x y : Option (AN × Heap)} {k : V → Heap → Prop} (e : y = x) (h : outM F x k ⟨⟩) : outM F y k ⟨⟩ := by subst e; exact h
theorem s_Four {H : Heap} : WC F fn_rotalaw07_Four [] H fun v H' => (∃ h : Hd, v = .agg (four.cells h) ∧ CfgM H'.length H' four h) ∧ Xt H H' := by
  refine WC_start e_rotalaw07_Four (by simp) ?_
  unfold c_rotalaw07_Four
  repeat (with_reducible first|(first|refine pI1 ?_|refine pS1 ?_);intros|refine pA1 ?_|refine pX1 ?_|refine pB1 ?_|exact True.intro)
  rename_i b0 H0 p0 g0 x0 b1 H1 p1 g1 x1 b2 H2 p2 g2 x2 b3 H3 p3 g3 x3
  have fx : Hid _ := fun (A : Prop) (h : _ → _ → _ → _ → _ → _ → _ → A) => h g1 x1 g2 x2 g3 x3 x0
  have hg0 : H3[b0]? = _ := ((x3 b0 (by omega)).trans ((x2 b0 (by omega)).trans (x1 b0 (by omega)))).trans g0
  clear g1 x1 g2 x2 g3 x3 x0 g0
  refine WO_m ?_
  obtain ⟨hd, hhd⟩ : ∃ hd : Hd, hd = ⟨some (b2, 0), 4, none, 0, some (b3, 0), 4, none, 0, none, 0⟩ := ⟨_, rfl⟩
  have hv : four.cells hd = _ := rfl
  rw [hhd] at hv
  refine outM_eq (x := some (.v (.agg (four.cells ⟨some (b2, 0), 4, none, 0, some (b3, 0), 4, none, 0, none, 0⟩)), H3)) (by with_unfolding_all rfl) ?_
  rw [← hhd]
  obtain ⟨C, hC⟩ : ∃ C, C = four.cells hd := ⟨_, rfl⟩
  have hl : C.length = 12 := by rw [hC]; rfl
  have hsub : sub C 0 12 = some C := by rw [hC]; rfl
  rw [← hC]
  clear hv
  have fC : Hid _ := fun (A : Prop) (h : _ → _ → A) => h hC hhd
  clear hC hhd
  have hput : put [Cell.int IntKind.i64 0, Cell.sl none 0 0 false, Cell.int IntKind.i64 0, Cell.int IntKind.i64 0, Cell.int IntKind.i64 0, Cell.int IntKind.i64 0, Cell.int IntKind.i64 0, Cell.int IntKind.i64 0, Cell.sl none 0 0 false, Cell.sl none 0 0 false, Cell.sl none 0 0 false, Cell.sl none 0 0 false] 0 C = C := put_all' (by rw [hl]; rfl)
  repeat (with_reducible first|(first|refine pI1 ?_|refine pS1 ?_);intros|refine pA1 ?_|refine pX1 ?_|refine pB1 ?_|exact True.intro)
  rename_i H4 l4 g4 x4
  have z : ∀ b, b < H.length → H4[b]? = H[b]? := fun b hb => fx _ fun g1 x1 g2 x2 g3 x3 x0 => by
    rw [x4 b (by omega), x3 b (by omega), x2 b (by omega), x1 b (by omega), x0 b (by omega)]
  have q1 : H4[b1]? = some (.cells (nums w4) false none) := fx _ fun g1 x1 g2 x2 g3 x3 x0 => by
    rw [x4 b1 (by omega), x3 b1 (by omega), x2 b1 (by omega), g1]; rfl
  have q2 : H4[b2]? = some (.cells (nums [0, 1, 2, 3]) false none) := fx _ fun g1 x1 g2 x2 g3 x3 x0 => by
    rw [x4 b2 (by omega), x3 b2 (by omega), g2]; rfl
  have q3 : H4[b3]? = some (.cells [.sl (some (b1, 0)) 4 4 false, .sl (some (b1, 0)) 4 4 false, .sl (some (b1, 0)) 4 4 false, .sl (some (b1, 0)) 4 4 false] false none) := fx _ fun g1 x1 g2 x2 g3 x3 x0 => by
    rw [x4 b3 (by omega), g3]
  refine ⟨⟨hd, by rw [fC _ fun h _ => h], ?_⟩, by omega, z⟩
  rw [fC _ fun _ h => h]
  have l1 := lt_of_get q1
  have l2 := lt_of_get q2
  have l3 := lt_of_get q3
  have row : RowR H4.length H4 w4 [.sl (some (b1, 0)) 4 4 false] := ⟨some (b1, 0), 4, rfl, Sl.blk q1 rfl, fun b x e => by cases e; exact l1, by unfold w4 i64; simp, by decide, by decide⟩
  refine ⟨Sl.blk q2 rfl, fun b x e => by cases e; exact l2, fun i e h => by simp [four] at h, fun i e h => ?_, fun i e h => by simp [four] at h, fun i e h => by simp [four] at h, by unfold four i64; simp, by unfold four i64; simp, by unfold four i64; simp, by unfold four i64; simp, by unfold four i64; simp, by unfold four i64; simp, by unfold four i64; simp, by unfold four i64; simp⟩
  have h' : [w4, w4, w4, w4][i]? = some e := h
  match i, h' with
  | 0, h' => cases h'; exact ⟨(b3, 0), _, rfl, l3, by rw [q3]; rfl, row⟩
  | 1, h' => cases h'; exact ⟨(b3, 0), _, rfl, l3, by rw [q3]; rfl, row⟩
  | 2, h' => cases h'; exact ⟨(b3, 0), _, rfl, l3, by rw [q3]; rfl, row⟩
  | 3, h' => cases h'; exact ⟨(b3, 0), _, rfl, l3, by rw [q3]; rfl, row⟩
  | k + 4, h' => simp at h'
end Go.Proofs.Yteiiddefimpplaa.AM.D08

namespace Go.Proofs.Yteiiddefimpplaa.AM.D08
open Go Go.Proofs.Yteiiddefimpplaa.AM Go.Proofs.Yteiiddefimpplaa.AM.C02 Go.Proofs.Yteiiddefimpplaa.AM.C08
set_option maxHeartbeats 2000000
set_option maxRecDepth 100000
attribute [local go_sem] tn_add1 tn_sub1 put_all' nums_len
theorem s_alive {H : Heap} : WC F fn_rotalaw08_alive [] H fun v H' => v = .c (.bool true) ∧ Xt H H' := by
  refine WC_start e_rotalaw08_alive (by simp) ?_
  unfold c_rotalaw08_alive
  repeat (with_reducible first|(first|refine pI1 ?_|refine pS1 ?_);intros|refine pA1 ?_|refine pX1 ?_|refine pB1 ?_|exact True.intro)
  refine outM_call s_Four ?_
  rintro _ H1 ⟨⟨h, rfl, hc⟩, l1, x1⟩
  have hnew := s_New hc (Nat.le_refl _)
  clear hc
  have fx1 : Hid _ := fun (A : Prop) (h : _ → A) => h x1
  clear x1
  generalize four.cells h = C at *
  repeat (with_reducible first|(first|refine pI1 ?_|refine pS1 ?_);intros|refine pA1 ?_|refine pX1 ?_|refine pB1 ?_|exact True.intro)
  refine outM_call hnew ?_
  rintro v H2 ⟨⟨l2, x2⟩, ⟨hne, rfl⟩ | ⟨-, p, rfl, p1, p2, hk⟩⟩
  · exact absurd four_check hne
  have ho := clk0_ok four_check
  clear hnew
  have fx2 : Hid _ := fun (A : Prop) (h : _ → A) => h x2
  clear x2
  have k1 := ho.move (cutZ 5 (-(clk0 four).drift) (clk0 four).drift)
  have hd := s_Drift (b := 5) hk ho
  repeat (with_reducible first|(first|refine pI1 ?_|refine pS1 ?_);intros|refine pA1 ?_|refine pX1 ?_|refine pB1 ?_|exact True.intro)
  refine outM_call hd ?_
  clear hd hk
  rintro _ H3 ⟨rfl, hk, l3, x3⟩
  have e1 : (clk0 four).drifts 5 = { clk0 four with offset := 1 } := rfl
  rw [e1] at hk
  have ho1 : ClkOk { clk0 four with offset := 1 } := ho.cut 1 (by unfold E; omega)
  have f3 : Hid _ := fun (A : Prop) (h : _ → A) => h x3
  clear x3 ho k1 e1
  have hrd := s_Read (o := 4) (m := -7) hk ho1
  have e2 : ({ clk0 four with offset := 1 } : Clk).read 4 (-7) = 2 := rfl
  rw [e2] at hrd
  clear e2
  repeat (with_reducible first|(first|refine pI1 ?_|refine pS1 ?_);intros|refine pA1 ?_|refine pX1 ?_|refine pB1 ?_|exact True.intro)
  refine outM_call hrd ?_
  rintro _ H3 ⟨rfl, rfl⟩
  clear hrd
  obtain ⟨k, hkk⟩ : ∃ k, k = ({ clk0 four with offset := 1 } : Clk) := ⟨_, rfl⟩
  rw [← hkk] at hk ho1
  have hn : k.nodes = 4 := by rw [hkk]; rfl
  have hoff : k.offset = 1 := by rw [hkk]
  have hh1 := s_Hear (n := 0) (r := -3) hk ho1
  have hP : ∀ (k' : Clk) (n : Nat) (v : Int), k'.nodes = 4 → n < 4 → -10 ≤ v → v ≤ 10 → hearP k' n v := fun k' n v h1 h2 h3 h4 => ⟨by omega, by omega, by unfold E; omega, by unfold E; omega⟩
  have fP : Hid _ := fun (A : Prop) (h : _ → _ → _ → _ → A) => h hP hn hoff hkk
  clear hP hn hoff hkk
  repeat (with_reducible first|(first|refine pI1 ?_|refine pS1 ?_);intros|refine pA1 ?_|refine pX1 ?_|refine pB1 ?_|exact True.intro)
  refine outM_call hh1 ?_
  clear hh1 hk
  rintro _ H4 ⟨⟨l4, x4⟩, ⟨-, rfl, hk⟩ | ⟨hno, -, -⟩⟩
  case inr => exact absurd (fP _ fun hP hn _ _ => hP k 0 (-3) hn (by omega) (by omega) (by omega)) hno
  have ho2 := ho1.hear (n := 0) (v := -3) (by unfold E; omega)
  have hk : ClkM H4 p (k.hear 0 (-3)) := hk
  have f4 : Hid _ := fun (A : Prop) (h : _ → A) => h x4
  clear x4 ho1
  have hh1 := s_Hear (n := 1) (r := 5) hk ho2
  repeat (with_reducible first|(first|refine pI1 ?_|refine pS1 ?_);intros|refine pA1 ?_|refine pX1 ?_|refine pB1 ?_|exact True.intro)
  refine outM_call hh1 ?_
  clear hh1 hk
  rintro _ H5 ⟨⟨l5, x5⟩, ⟨-, rfl, hk⟩ | ⟨hno, -, -⟩⟩
  case inr => exact absurd (fP _ fun hP hn _ _ => hP (k.hear 0 (-3)) 1 5 hn (by omega) (by omega) (by omega)) hno
  have ho3 := ho2.hear (n := 1) (v := 5) (by unfold E; omega)
  have hk : ClkM H5 p ((k.hear 0 (-3)).hear 1 5) := hk
  have f5 : Hid _ := fun (A : Prop) (h : _ → A) => h x5
  clear x5 ho2
  have hh1 := s_Hear (n := 2) (r := 2) hk ho3
  repeat (with_reducible first|(first|refine pI1 ?_|refine pS1 ?_);intros|refine pA1 ?_|refine pX1 ?_|refine pB1 ?_|exact True.intro)
  refine outM_call hh1 ?_
  clear hh1 hk
  rintro _ H6 ⟨⟨l6, x6⟩, ⟨-, rfl, hk⟩ | ⟨hno, -, -⟩⟩
  case inr => exact absurd (fP _ fun hP hn _ _ => hP ((k.hear 0 (-3)).hear 1 5) 2 2 hn (by omega) (by omega) (by omega)) hno
  have ho4 := ho3.hear (n := 2) (v := 2) (by unfold E; omega)
  have hk : ClkM H6 p (((k.hear 0 (-3)).hear 1 5).hear 2 2) := hk
  have f6 : Hid _ := fun (A : Prop) (h : _ → A) => h x6
  clear x6 ho3
  have hh1 := s_Hear (n := 3) (r := 9) hk ho4
  repeat (with_reducible first|(first|refine pI1 ?_|refine pS1 ?_);intros|refine pA1 ?_|refine pX1 ?_|refine pB1 ?_|exact True.intro)
  refine outM_call hh1 ?_
  clear hh1 hk
  rintro _ H7 ⟨⟨l7, x7⟩, ⟨-, rfl, hk⟩ | ⟨hno, -, -⟩⟩
  case inr => exact absurd (fP _ fun hP hn _ _ => hP (((k.hear 0 (-3)).hear 1 5).hear 2 2) 3 9 hn (by omega) (by omega) (by omega)) hno
  have ho5 := ho4.hear (n := 3) (v := 9) (by unfold E; omega)
  have hk : ClkM H7 p ((((k.hear 0 (-3)).hear 1 5).hear 2 2).hear 3 9) := hk
  have f7 : Hid _ := fun (A : Prop) (h : _ → A) => h x7
  clear x7 ho4
  have hof : ((((k.hear 0 (-3)).hear 1 5).hear 2 2).hear 3 9).offset = 1 := fP _ fun _ _ ho _ => ho
  have hl : ofL ((((k.hear 0 (-3)).hear 1 5).hear 2 2).hear 3 9) 15 2 ((((k.hear 0 (-3)).hear 1 5).hear 2 2).hear 3 9).nodes = [-3, 5, 0, 9] := fP _ fun _ _ _ hkk => by rw [hkk]; rfl
  have hav : avg ((((k.hear 0 (-3)).hear 1 5).hear 2 2).hear 3 9) 15 2 = 2 := by
    unfold avg
    rw [hl]
    have hs : sorted [-3, 5, 0, 9] = [-3, 0, 5, 9] := by
      have hp : (sorted [-3, 5, 0, 9]).Perm [-3, 0, 5, 9] := (sorted_perm _).trans (by decide)
      exact hp.eq_of_pairwise (le := fun a b : Int => a ≤ b) (fun a b _ _ h1 h2 => Int.le_antisymm h1 h2) (sorted_pw _) (by decide)
    rw [hs]; rfl
  have hA := s_Average (ms := 15) (own := 2) hk ho5 (by omega)
  have hO := fun Hx (hx : Hx[p]? = H7[p]?) => s_Offset (hk.keep hx) ho5
  rw [hl, hav] at hA
  have hdec : decide (0 < [(-3 : Int), 5, 0, 9].length) = true := rfl
  rw [hdec] at hA
  rw [hof] at hO
  clear hl hav hof hk ho5
  repeat (with_reducible first|(first|refine pI1 ?_|refine pS1 ?_);intros|refine pA1 ?_|refine pX1 ?_|refine pB1 ?_|exact True.intro)
  refine outM_call hA ?_
  clear hA
  rintro _ H8 ⟨rfl, l8, x8⟩
  have f8 : Hid _ := fun (A : Prop) (h : _ → A) => h x8
  clear x8
  repeat (with_reducible first|(first|refine pI1 ?_|refine pS1 ?_);intros|refine pA1 ?_|refine pX1 ?_|refine pB1 ?_|exact True.intro)
  refine outM_call (f8 _ fun x8 => hO H8 (x8 p (by omega))) ?_
  rintro _ H8 ⟨rfl, rfl⟩
  clear hO
  repeat (with_reducible first|(first|refine pI1 ?_|refine pS1 ?_);intros|refine pA1 ?_|refine pX1 ?_|refine pB1 ?_|exact True.intro)
  exact ⟨rfl, by omega, fun b hb => by
    rw [f8 _ fun h => h b (by omega), f7 _ fun h => h b (by omega), f6 _ fun h => h b (by omega), f5 _ fun h => h b (by omega), f4 _ fun h => h b (by omega), f3 _ fun h => h b (by omega), fx2 _ fun h => h b (by omega)]
    exact fx1 _ fun h => h b hb⟩
end Go.Proofs.Yteiiddefimpplaa.AM.D08

namespace Go.Proofs.Yteiiddefimpplaa.AM.D08
open Go Go.Proofs.Yteiiddefimpplaa.AM Go.Proofs.Yteiiddefimpplaa.AM.C02 Go.Proofs.Yteiiddefimpplaa.AM.C08
set_option maxHeartbeats 2000000
set_option maxRecDepth 100000
attribute [local go_sem] tn_add1 tn_sub1 put_all' nums_len
structure TgB (B : Heap) (N la : Nat) (q : Nat → Nat) : Prop where
  ptrs : ∃ cs : List Cell, ∃ g : Option Nat, B[la]? = some (.cells cs false g) ∧ ∀ j, j < N → cs[j]? = some (.ptr (some (q j, 0)))
  lt : ∀ j, j < N → q j < B.length
  ne : ∀ j, j < N → la ≠ q j
  inj : ∀ i j, i < N → j < N → q i = q j → i = j
def TgM (B H : Heap) (N : Nat) (q : Nat → Nat) (f : Nat → Clk) : Prop := B.length ≤ H.length ∧ (∀ b, b < B.length → (∀ j, j < N → b ≠ q j) → H[b]? = B[b]?) ∧ ∀ j, j < N → ClkM H (q j) (f j)
theorem TgM.go {B H H' : Heap} {N la : Nat} {q : Nat → Nat} {f : Nat → Clk} {n : Nat} {k : Clk} (hB : TgB B N la q) (h : TgM B H N q f) (hn : n < N) (hk : ClkM H' (q n) k) (hl : H.length ≤ H'.length) (hx : ∀ b, b < H.length → b ≠ q n → H'[b]? = H[b]?) : TgM B H' N q (fun j => if j = n then k else f j) := by
  obtain ⟨h1, h2, h3⟩ := h
  refine ⟨by omega, fun b hb hne => by rw [hx b (by omega) (hne n hn)]; exact h2 b hb hne, fun j hj => ?_⟩
  show ClkM H' (q j) (if j = n then k else f j)
  by_cases e : j = n
  · subst e; rw [if_pos rfl]; exact hk
  · rw [if_neg e]
    exact (h3 j hj).keep (hx _ (by have := hB.lt j hj; omega) fun e' => e (hB.inj j n hj hn e'))
theorem TgM.same {B H : Heap} {N : Nat} {q : Nat → Nat} {f g : Nat → Clk} (h : TgM B H N q f) (e : ∀ j, j < N → f j = g j) : TgM B H N q g := ⟨h.1, h.2.1, fun j hj => by rw [← e j hj]; exact h.2.2 j hj⟩
theorem TgM.ptr {B H : Heap} {N la : Nat} {q : Nat → Nat} {f : Nat → Clk} (hB : TgB B N la q) (h : TgM B H N q f) : ∃ cs : List Cell, ∃ g : Option Nat, H[la]? = some (.cells cs false g) ∧ ∀ j, j < N → cs[j]? = some (.ptr (some (q j, 0))) := by
  obtain ⟨cs, g, h1, h2⟩ := hB.ptrs
  exact ⟨cs, g, (h.2.1 la (lt_of_get h1) hB.ne).trans h1, h2⟩
def AtC (B : Heap) (N : Nat) (q : Nat → Nat) (x : Cell) (l : List Int) : Prop := ∀ Hx : Heap, (∀ b, b < B.length → (∀ j, j < N → b ≠ q j) → Hx[b]? = B[b]?) → ∀ n : Nat, n ≤ 1000000 → WC F fn_rotalaw08_at [.c x, .c (.int .i64 (n : Nat)), .c (.int .i64 1073741824)] Hx fun v H' => v = .c (.int .i64 (atF l n 1073741824)) ∧ H' = Hx
def KpT (ρ ρ' : Nat → V) : Prop := ρ' 1 = ρ 1 ∧ ρ' 2 = ρ 2 ∧ ρ' 3 = ρ 3 ∧ ρ' 9 = ρ 9 ∧ ρ' 11 = ρ 11 ∧ ρ' 12 = ρ 12 ∧ ρ' 13 = ρ 13 ∧ ρ' 17 = ρ 17
theorem tg_drift {ρ : Nat → V} {B H : Heap} {N la t : Nat} {q : Nat → Nat} {f : Nat → Clk} {o : Bool} {x : Cell} {dr : List Int} (hB : TgB B N la q) (hm0 : TgM B H N q f) (e1 : ρ 1 = .c x) (e12 : ρ 12 = .c (.sl (some (la, 0)) N N o)) (e17 : ρ 17 = .c (.int .i64 (t : Nat))) (hat : AtC B N q x dr) (ht : t ≤ 20) (hN : N ≤ 16) (hok : ∀ j, j < N → ClkOk (f j)) :
    W F none (.seq (.ops o_rotalaw08_ClockTogether_19) (.block 4 (.loop b_rotalaw08_ClockTogether_23))) ⟨L 183 ρ, [], H⟩ fun e s => e = .normal ∧ ∃ ρ' H', s = ⟨L 183 ρ', [], H'⟩ ∧ KpT ρ ρ' ∧ TgM B H' N q (fun j => (f j).drifts (atF dr (j + t * N) 1073741824)) := by
  obtain ⟨v2, hv2⟩ : ∃ v, ρ 2 = v := ⟨_, rfl⟩
  obtain ⟨v3, hv3⟩ : ∃ v, ρ 3 = v := ⟨_, rfl⟩
  obtain ⟨v9, hv9⟩ : ∃ v, ρ 9 = v := ⟨_, rfl⟩
  obtain ⟨v11, hv11⟩ : ∃ v, ρ 11 = v := ⟨_, rfl⟩
  obtain ⟨v13, hv13⟩ : ∃ v, ρ 13 = v := ⟨_, rfl⟩
  have hK : ∀ ρ' : Nat → V, ρ' 1 = .c x → ρ' 2 = v2 → ρ' 3 = v3 → ρ' 9 = v9 → ρ' 11 = v11 → ρ' 12 = .c (.sl (some (la, 0)) N N o) → ρ' 13 = v13 → ρ' 17 = .c (.int .i64 (t : Nat)) → KpT ρ ρ' := fun ρ' h1 h2 h3 h9 h11 h12 h13 h17 => ⟨by rw [h1, e1], by rw [h2, hv2], by rw [h3, hv3], by rw [h9, hv9], by rw [h11, hv11], by rw [h12, e12], by rw [h13, hv13], by rw [h17, e17]⟩
  have fin0 : Hid _ := fun (A : Prop) (h : _ → _ → _ → _ → _ → A) => h hB hm0 hat hok hK
  clear hB hm0 hat hok hK
  obtain ⟨z, hz⟩ : ∃ z : Nat, t * N = z := ⟨_, rfl⟩
  have hzI : (t : Int) * (N : Int) = (z : Nat) := by rw [← hz]; push_cast; rfl
  have hzb : z ≤ 320 := by rw [← hz]; exact Nat.mul_le_mul ht hN
  rw [hz]
  repeat (with_reducible first|(first|refine pI1 ?_|refine pS1 ?_);intros|refine pA1 ?_|refine pX1 ?_|refine pB1 ?_|exact True.intro)
  refine W_loop (fun m st => ∃ ρ, ∃ n : Nat, ∃ Hk, st = ⟨L 183 ρ, [], Hk⟩ ∧ m = N - n ∧ n ≤ N ∧ ρ 1 = .c x ∧ ρ 2 = v2 ∧ ρ 3 = v3 ∧ ρ 9 = v9 ∧ ρ 11 = v11 ∧ ρ 12 = .c (.sl (some (la, 0)) N N o) ∧ ρ 13 = v13 ∧ ρ 17 = .c (.int .i64 (t : Nat)) ∧ ρ 18 = .c (.int .i64 (n : Nat)) ∧ Hid (TgM B Hk N q (fun j => if j < n then (f j).drifts (atF dr (j + z) 1073741824) else f j))) N
    ⟨_, 0, H, rfl, rfl, by omega, zf, zf, zf, zf, zf, zf, zf, zf, zf, fin0 _ fun _ h _ _ _ => h.same fun j _ => by rw [if_neg (by omega)]⟩ ?_
  clear e1 e12 e17 hv2 hv3 hv9 hv11 hv13
  rintro m st ⟨ρ1, n, Hk, rfl, rfl, hn, e1, e2, e3, e9, e11, e12, e13, e17, e18, hall⟩
  unfold b_rotalaw08_ClockTogether_23
  by_cases hnN : n < N
  · have hxt : (n : Int) < (N : Int) := by omega
    have hm : TgM B Hk N q (fun j => if j < n then (f j).drifts (atF dr (j + z) 1073741824) else f j) := hall
    obtain ⟨cs, g, gl, hcs⟩ := fin0 _ fun hB _ _ _ _ => hm.ptr hB
    have hcn := hcs n hnN
    have hkn : ClkM Hk (q n) (f n) := by have h := hm.2.2 n hnN; dsimp only at h; rwa [if_neg (Nat.lt_irrefl n)] at h
    have hdr := fin0 _ fun _ _ _ hok _ => s_Drift (b := atF dr (n + z) 1073741824) hkn (hok n hnN)
    have ha := fin0 _ fun _ _ hat _ _ => hat Hk hm.2.1 (n + z) (by omega)
    rw [show ((n + z : Nat) : Int) = (n : Int) + z by omega] at ha
    have fa : Hid _ := fun (A : Prop) (h : _ → _ → A) => h hdr hm
    clear hall hm hkn hdr hcs
    repeat (with_reducible first|(first|refine pI1 ?_|refine pS1 ?_);intros|refine pA1 ?_|refine pX1 ?_|refine pB1 ?_|exact True.intro)
    refine outM_call ha ?_
    rintro _ Hk ⟨rfl, rfl⟩
    clear ha
    repeat (with_reducible first|(first|refine pI1 ?_|refine pS1 ?_);intros|refine pA1 ?_|refine pX1 ?_|refine pB1 ?_|exact True.intro)
    refine outM_call (fa _ fun h _ => h) ?_
    rintro _ H2 ⟨rfl, hk2, l2, x2⟩
    have hm2 := fin0 _ fun hB _ _ _ _ => fa _ fun _ hm => hm.go hB hnN hk2 (by omega) fun b _ hb => x2 b hb
    have hm3 : TgM B H2 N q (fun j => if j < n + 1 then (f j).drifts (atF dr (j + z) 1073741824) else f j) := hm2.same fun j _ => by
      by_cases e : j = n
      · subst e; rw [if_pos rfl, if_pos (by omega)]
      · rw [if_neg e]
        by_cases h : j < n
        · rw [if_pos h, if_pos (by omega)]
        · rw [if_neg h, if_neg (by omega)]
    have f2 : Hid _ := fun (A : Prop) (h : _ → A) => h hm3
    clear hm2 hm3 hk2 x2 gl
    repeat (with_reducible first|(first|refine pI1 ?_|refine pS1 ?_);intros|refine pA1 ?_|refine pX1 ?_|refine pB1 ?_|exact True.intro)
    exact loopQ_n (N - (n + 1)) (by omega) ⟨_, n + 1, H2, rfl, rfl, by omega, zf, zf, zf, zf, zf, zf, zf, zf, zf, f2 _ fun h => h⟩
  · obtain rfl : N = n := by omega
    have hxt : ¬ (N : Int) < (N : Int) := by omega
    have hm : TgM B Hk N q (fun j => if j < N then (f j).drifts (atF dr (j + z) 1073741824) else f j) := hall
    have hm3 := hm.same (g := fun j => (f j).drifts (atF dr (j + z) 1073741824)) fun j hj => by rw [if_pos hj]
    have fa : Hid _ := fun (A : Prop) (h : _ → A) => h hm3
    clear hall hm hm3
    repeat (with_reducible first|(first|refine pI1 ?_|refine pS1 ?_);intros|refine pA1 ?_|refine pX1 ?_|refine pB1 ?_|exact True.intro)
    exact ⟨rfl, _, Hk, rfl, fin0 _ fun _ _ _ _ hK => hK _ zf zf zf zf zf zf zf zf, fa _ fun h => h⟩
end Go.Proofs.Yteiiddefimpplaa.AM.D08

namespace Go.Proofs.Yteiiddefimpplaa.AM.D08
open Go Go.Proofs.Yteiiddefimpplaa.AM Go.Proofs.Yteiiddefimpplaa.AM.C02 Go.Proofs.Yteiiddefimpplaa.AM.C08
set_option maxHeartbeats 2000000
set_option maxRecDepth 100000
attribute [local go_sem] tn_add1 tn_sub1 put_all' nums_len
def KpR (ρ ρ' : Nat → V) : Prop := KpT ρ ρ' ∧ ρ' 19 = ρ 19
theorem tg_row {ρ : Nat → V} {B H : Heap} {N la t n : Nat} {q : Nat → Nat} {g : Nat → Clk} {ob : Bool} {x : Cell} {er : List Int} {oo rv : Nat → Int} {P : Int} (hB : TgB B N la q) (hm0 : TgM B H N q g) (e2 : ρ 2 = .c x) (e11 : ρ 11 = .c (.int .i64 P)) (e12 : ρ 12 = .c (.sl (some (la, 0)) N N ob)) (e17 : ρ 17 = .c (.int .i64 (t : Nat))) (e19 : ρ 19 = .c (.int .i64 (n : Nat))) (hat : AtC B N q x er) (ht : t ≤ 20) (hn : n < N) (hN : N ≤ 16) (hok : ∀ j, j < N → ClkOk (g j)) (hof : ∀ j, j < N → (g j).offset = oo j) (hnod : (g n).nodes = N) (hh : ∀ j, (g n).heard j = false)
    (hrv : ∀ m, m < N → rv m = (g n).read (oo m) (atF er (n + m * N + t) 1073741824)) (hfar : ∀ m, m < N → max (oo n - oo m) (oo m - oo n) ≤ P) (hfit : ∀ m, m < N → -(g n).margin ≤ rv m ∧ rv m ≤ (g n).margin) (hb2 : ∀ m, m < N → -2 * E ≤ rv m ∧ rv m ≤ 2 * E) :
    W F none (.seq (.ops o_rotalaw08_ClockTogether_26) (.block 8 (.loop b_rotalaw08_ClockTogether_33))) ⟨L 183 ρ, [], H⟩ fun e s => e = .normal ∧ ∃ ρ' H', s = ⟨L 183 ρ', [], H'⟩ ∧ KpR ρ ρ' ∧ TgM B H' N q (fun j => if j = n then (g n).heardN rv N else g j) := by
  obtain ⟨v1, hv1⟩ : ∃ v, ρ 1 = v := ⟨_, rfl⟩
  obtain ⟨v3, hv3⟩ : ∃ v, ρ 3 = v := ⟨_, rfl⟩
  obtain ⟨v9, hv9⟩ : ∃ v, ρ 9 = v := ⟨_, rfl⟩
  obtain ⟨v13, hv13⟩ : ∃ v, ρ 13 = v := ⟨_, rfl⟩
  have hK : ∀ ρ' : Nat → V, ρ' 1 = v1 → ρ' 2 = .c x → ρ' 3 = v3 → ρ' 9 = v9 → ρ' 11 = .c (.int .i64 P) → ρ' 12 = .c (.sl (some (la, 0)) N N ob) → ρ' 13 = v13 → ρ' 17 = .c (.int .i64 (t : Nat)) → ρ' 19 = .c (.int .i64 (n : Nat)) → KpR ρ ρ' := fun ρ' h1 h2 h3 h9 h11 h12 h13 h17 h19 => ⟨⟨by rw [h1, hv1], by rw [h2, e2], by rw [h3, hv3], by rw [h9, hv9], by rw [h11, e11], by rw [h12, e12], by rw [h13, hv13], by rw [h17, e17]⟩, by rw [h19, e19]⟩
  have hs0 : TgM B H N q (fun j => if j = n then (g n).heardN rv 0 else g j) := hm0.same fun j _ => by
    by_cases e : j = n
    · subst e; rw [if_pos rfl, heardN_0 hh]
    · rw [if_neg e]
  have fin0 : Hid _ := fun (A : Prop) (h : _ → _ → _ → _ → _ → _ → _ → _ → _ → _ → _ → A) => h hB hs0 hat hok hof hnod hrv hfar hfit hb2 hK
  clear hB hm0 hs0 hat hok hof hnod hh hrv hfar hfit hb2 hK
  repeat (with_reducible first|(first|refine pI1 ?_|refine pS1 ?_);intros|refine pA1 ?_|refine pX1 ?_|refine pB1 ?_|exact True.intro)
  refine W_loop (fun k st => ∃ ρ, ∃ m : Nat, ∃ Hk, st = ⟨L 183 ρ, [], Hk⟩ ∧ k = N - m ∧ m ≤ N ∧ ρ 1 = v1 ∧ ρ 2 = .c x ∧ ρ 3 = v3 ∧ ρ 9 = v9 ∧ ρ 11 = .c (.int .i64 P) ∧ ρ 12 = .c (.sl (some (la, 0)) N N ob) ∧ ρ 13 = v13 ∧ ρ 17 = .c (.int .i64 (t : Nat)) ∧ ρ 19 = .c (.int .i64 (n : Nat)) ∧ ρ 20 = .c (.int .i64 (m : Nat)) ∧ Hid (TgM B Hk N q (fun j => if j = n then (g n).heardN rv m else g j))) N
    ⟨_, 0, H, rfl, rfl, by omega, zf, zf, zf, zf, zf, zf, zf, zf, zf, zf, fin0 _ fun _ h _ _ _ _ _ _ _ _ _ => h⟩ ?_
  clear e2 e11 e12 e17 e19 hv1 hv3 hv9 hv13
  rintro k st ⟨ρ1, m, Hk, rfl, rfl, hm, e1, e2, e3, e9, e11, e12, e13, e17, e19, e20, hall⟩
  unfold b_rotalaw08_ClockTogether_33
  by_cases hmN : m < N
  · have hxt : (m : Int) < (N : Int) := by omega
    have hst : TgM B Hk N q (fun j => if j = n then (g n).heardN rv m else g j) := hall
    obtain ⟨cs, gg, gl, hcs⟩ := fin0 _ fun hB _ _ _ _ _ _ _ _ _ _ => hst.ptr hB
    have hcn := hcs n hn
    have hcm := hcs m hmN
    have hcur : ∀ j, j < N → ∀ i : Nat, i ≤ N → ClkOk (if j = n then (g n).heardN rv i else g j) ∧ (if j = n then (g n).heardN rv i else g j).offset = oo j := fun j hj i hi => fin0 _ fun _ _ _ hok hof _ _ _ _ hb2 _ => by
      by_cases e : j = n
      · subst e; rw [if_pos rfl]; exact ⟨heardN_ok (hok j hj) fun j' hj' => hb2 j' (by omega), hof j hj⟩
      · rw [if_neg e]; exact ⟨hok j hj, hof j hj⟩
    have hkm : ClkM Hk (q m) (if m = n then (g n).heardN rv m else g m) := hst.2.2 m hmN
    have hkn : ClkM Hk (q n) ((g n).heardN rv m) := by have h := hst.2.2 n hn; dsimp only at h; rwa [if_pos rfl] at h
    have hon : ClkOk ((g n).heardN rv m) := by have h := (hcur n hn m (by omega)).1; rwa [if_pos rfl] at h
    have hofm := s_Offset hkm (hcur m hmN m (by omega)).1
    rw [(hcur m hmN m (by omega)).2] at hofm
    obtain ⟨z, hz⟩ : ∃ z : Nat, m * N = z := ⟨_, rfl⟩
    have hzI : (m : Int) * (N : Int) = (z : Nat) := by rw [← hz]; push_cast; rfl
    have hzb : z ≤ 256 := by rw [← hz]; exact Nat.mul_le_mul (show m ≤ 16 by omega) hN
    have ha := fin0 _ fun _ _ hat _ _ _ _ _ _ _ _ => hat Hk hst.2.1 (n + z + t) (by omega)
    rw [show ((n + z + t : Nat) : Int) = (n : Int) + z + t by omega] at ha
    have hrd := s_Read (o := oo m) (m := atF er (n + z + t) 1073741824) hkn hon
    rw [show ((g n).heardN rv m).read (oo m) (atF er (n + z + t) 1073741824) = rv m from fin0 _ fun _ _ _ _ _ _ hrv _ _ _ _ => by rw [hrv m hmN, hz]; rfl] at hrd
    have hhe := s_Hear (n := (m : Nat)) (r := rv m) hkn hon
    rw [Int.toNat_natCast, heardN_s] at hhe
    have hhp : hearP ((g n).heardN rv m) (m : Nat) (rv m) := fin0 _ fun _ _ _ _ _ hnod _ _ _ hb2 _ => ⟨by omega, by show (m : Int) < ((g n).nodes : Nat); rw [hnod]; omega, (hb2 m hmN).1, (hb2 m hmN).2⟩
    have fa : Hid _ := fun (A : Prop) (h : _ → _ → _ → _ → _ → A) => h hhe hst hhp hcur hcs
    clear hhe hst hhp hcur hcs hkm hkn hon hall
    repeat (with_reducible first|(first|refine pI1 ?_|refine pS1 ?_);intros|refine pA1 ?_|refine pX1 ?_|refine pB1 ?_|exact True.intro)
    refine outM_call hofm ?_
    rintro _ Hk ⟨rfl, rfl⟩
    clear hofm
    repeat (with_reducible first|(first|refine pI1 ?_|refine pS1 ?_);intros|refine pA1 ?_|refine pX1 ?_|refine pB1 ?_|exact True.intro)
    refine outM_call ha ?_
    rintro _ Hk ⟨rfl, rfl⟩
    clear ha
    repeat (with_reducible first|(first|refine pI1 ?_|refine pS1 ?_);intros|refine pA1 ?_|refine pX1 ?_|refine pB1 ?_|exact True.intro)
    refine outM_call hrd ?_
    rintro _ Hk ⟨rfl, rfl⟩
    clear hrd
    repeat (with_reducible first|(first|refine pI1 ?_|refine pS1 ?_);intros|refine pA1 ?_|refine pX1 ?_|refine pB1 ?_|exact True.intro)
    refine outM_call (fa _ fun h _ _ _ _ => h) ?_
    rintro _ H2 ⟨⟨l2, x2⟩, ⟨-, rfl, hk2⟩ | ⟨hno, -, -⟩⟩
    case inr => exact absurd (fa _ fun _ _ h _ _ => h) hno
    have hm2 : TgM B H2 N q (fun j => if j = n then (g n).heardN rv (m + 1) else g j) := (fin0 _ fun hB _ _ _ _ _ _ _ _ _ _ => fa _ fun _ hst _ _ _ => hst.go hB hn hk2 (by omega) fun b _ hb => x2 b hb).same fun j _ => by
      by_cases e : j = n
      · rw [if_pos e, if_pos e]
      · rw [if_neg e, if_neg e, if_neg e]
    obtain ⟨cs2, gg2, gl2, hcs2⟩ := fin0 _ fun hB _ _ _ _ _ _ _ _ _ _ => hm2.ptr hB
    have hcn2 := hcs2 n hn
    have hcm2 := hcs2 m hmN
    have hc1 := fa _ fun _ _ _ h _ => h n hn (m + 1) (by omega)
    have hc2 := fa _ fun _ _ _ h _ => h m hmN (m + 1) (by omega)
    have hofn := s_Offset (hm2.2.2 n hn) hc1.1
    have hofm := s_Offset (hm2.2.2 m hmN) hc2.1
    have hkn2 : ClkM H2 (q n) ((g n).heardN rv (m + 1)) := by have h := hm2.2.2 n hn; dsimp only at h; rwa [if_pos rfl] at h
    have hon2 : ClkOk ((g n).heardN rv (m + 1)) := by have h := hc1.1; rwa [if_pos rfl] at h
    have hfi := s_Fits (r := rv m) hkn2 hon2
    dsimp only at hofn hofm
    rw [hc1.2] at hofn
    rw [hc2.2] at hofm
    rw [show (decide (-((g n).heardN rv (m + 1)).margin ≤ rv m ∧ rv m ≤ ((g n).heardN rv (m + 1)).margin)) = true from fin0 _ fun _ _ _ _ _ _ _ _ hfit _ _ => decide_eq_true (hfit m hmN)] at hfi
    have hfr := fin0 _ fun _ _ _ hok hof _ _ _ _ _ _ => s_far (H := H2) (a := oo n) (b := oo m) (by have := (hok n hn).o; rw [hof n hn] at this; unfold E at this; omega) (by have := (hok m hmN).o; rw [hof m hmN] at this; unfold E at this; omega)
    have hle := fin0 _ fun _ _ _ _ _ _ _ hfar _ _ _ => hfar m hmN
    obtain ⟨w, hw⟩ : ∃ w, max (oo n - oo m) (oo m - oo n) = w := ⟨_, rfl⟩
    rw [hw] at hfr hle
    have hle' : ¬ w > P := by omega
    have f2 : Hid _ := fun (A : Prop) (h : _ → A) => h hm2
    clear hm2 hkn2 hon2 hk2 x2 gl hcs2 hc1 hc2 hw hcn hcm hzI hz
    repeat (with_reducible first|(first|refine pI1 ?_|refine pS1 ?_);intros|refine pA1 ?_|refine pX1 ?_|refine pB1 ?_|exact True.intro)
    refine outM_call hofn ?_
    rintro _ H2 ⟨rfl, rfl⟩
    clear hofn
    repeat (with_reducible first|(first|refine pI1 ?_|refine pS1 ?_);intros|refine pA1 ?_|refine pX1 ?_|refine pB1 ?_|exact True.intro)
    refine outM_call hofm ?_
    rintro _ H2 ⟨rfl, rfl⟩
    clear hofm
    repeat (with_reducible first|(first|refine pI1 ?_|refine pS1 ?_);intros|refine pA1 ?_|refine pX1 ?_|refine pB1 ?_|exact True.intro)
    refine outM_call hfr ?_
    rintro _ H2 ⟨rfl, rfl⟩
    clear hfr
    repeat (with_reducible first|(first|refine pI1 ?_|refine pS1 ?_);intros|refine pA1 ?_|refine pX1 ?_|refine pB1 ?_|exact True.intro)
    refine outM_call hfi ?_
    rintro _ H2 ⟨rfl, rfl⟩
    clear hfi
    repeat (with_reducible first|(first|refine pI1 ?_|refine pS1 ?_);intros|refine pA1 ?_|refine pX1 ?_|refine pB1 ?_|exact True.intro)
    exact loopQ_n (N - (m + 1)) (by omega) ⟨_, m + 1, H2, rfl, rfl, by omega, zf, zf, zf, zf, zf, zf, zf, zf, zf, zf, f2 _ fun h => h⟩
  · obtain rfl : N = m := by omega
    have hxt : ¬ (N : Int) < (N : Int) := by omega
    have hst : TgM B Hk N q (fun j => if j = n then (g n).heardN rv N else g j) := hall
    have fa : Hid _ := fun (A : Prop) (h : _ → A) => h hst
    clear hall hst
    repeat (with_reducible first|(first|refine pI1 ?_|refine pS1 ?_);intros|refine pA1 ?_|refine pX1 ?_|refine pB1 ?_|exact True.intro)
    exact ⟨rfl, _, Hk, rfl, fin0 _ fun _ _ _ _ _ _ _ _ _ _ hK => hK _ zf zf zf zf zf zf zf zf zf, fa _ fun h => h⟩
end Go.Proofs.Yteiiddefimpplaa.AM.D08

namespace Go.Proofs.Yteiiddefimpplaa.AM.D08
open Go Go.Proofs.Yteiiddefimpplaa.AM Go.Proofs.Yteiiddefimpplaa.AM.C02 Go.Proofs.Yteiiddefimpplaa.AM.C08
set_option maxHeartbeats 2000000
set_option maxRecDepth 100000
attribute [local go_sem] tn_add1 tn_sub1 put_all' nums_len
theorem tg_hear {ρ : Nat → V} {B H : Heap} {N la t : Nat} {q : Nat → Nat} {f : Nat → Clk} {ob : Bool} {x : Cell} {er : List Int} {oo : Nat → Int} {rv : Nat → Nat → Int} {P : Int} (hB : TgB B N la q) (hm0 : TgM B H N q f) (e2 : ρ 2 = .c x) (e11 : ρ 11 = .c (.int .i64 P)) (e12 : ρ 12 = .c (.sl (some (la, 0)) N N ob)) (e17 : ρ 17 = .c (.int .i64 (t : Nat))) (hat : AtC B N q x er) (ht : t ≤ 20) (hN : N ≤ 16) (hok : ∀ j, j < N → ClkOk (f j)) (hof : ∀ j, j < N → (f j).offset = oo j) (hnod : ∀ j, j < N → (f j).nodes = N) (hh : ∀ n, n < N → ∀ j, (f n).heard j = false)
    (hrv : ∀ n m, n < N → m < N → rv n m = (f n).read (oo m) (atF er (n + m * N + t) 1073741824)) (hfar : ∀ n m, n < N → m < N → max (oo n - oo m) (oo m - oo n) ≤ P) (hfit : ∀ n m, n < N → m < N → -(f n).margin ≤ rv n m ∧ rv n m ≤ (f n).margin) (hb2 : ∀ n m, n < N → m < N → -2 * E ≤ rv n m ∧ rv n m ≤ 2 * E) :
    W F none (.seq (.ops o_rotalaw08_ClockTogether_24) (.block 6 (.loop b_rotalaw08_ClockTogether_35))) ⟨L 183 ρ, [], H⟩ fun e s => e = .normal ∧ ∃ ρ' H', s = ⟨L 183 ρ', [], H'⟩ ∧ KpT ρ ρ' ∧ TgM B H' N q (fun j => (f j).heardN (rv j) N) := by
  obtain ⟨v1, hv1⟩ : ∃ v, ρ 1 = v := ⟨_, rfl⟩
  obtain ⟨v3, hv3⟩ : ∃ v, ρ 3 = v := ⟨_, rfl⟩
  obtain ⟨v9, hv9⟩ : ∃ v, ρ 9 = v := ⟨_, rfl⟩
  obtain ⟨v13, hv13⟩ : ∃ v, ρ 13 = v := ⟨_, rfl⟩
  have hK : ∀ ρ' : Nat → V, ρ' 1 = v1 → ρ' 2 = .c x → ρ' 3 = v3 → ρ' 9 = v9 → ρ' 11 = .c (.int .i64 P) → ρ' 12 = .c (.sl (some (la, 0)) N N ob) → ρ' 13 = v13 → ρ' 17 = .c (.int .i64 (t : Nat)) → KpT ρ ρ' := fun ρ' h1 h2 h3 h9 h11 h12 h13 h17 => ⟨by rw [h1, hv1], by rw [h2, e2], by rw [h3, hv3], by rw [h9, hv9], by rw [h11, e11], by rw [h12, e12], by rw [h13, hv13], by rw [h17, e17]⟩
  have hs0 : TgM B H N q (fun j => if j < 0 then (f j).heardN (rv j) N else f j) := hm0.same fun j _ => by rw [if_neg (by omega)]
  have fin0 : Hid _ := fun (A : Prop) (h : _ → _ → _ → _ → _ → _ → _ → _ → _ → _ → _ → _ → A) => h hB hs0 hat hok hof hnod hh hrv hfar hfit hb2 hK
  clear hB hm0 hs0 hat hok hof hnod hh hrv hfar hfit hb2 hK
  repeat (with_reducible first|(first|refine pI1 ?_|refine pS1 ?_);intros|refine pA1 ?_|refine pX1 ?_|refine pB1 ?_|exact True.intro)
  refine W_loop (fun k st => ∃ ρ, ∃ n : Nat, ∃ Hk, st = ⟨L 183 ρ, [], Hk⟩ ∧ k = N - n ∧ n ≤ N ∧ ρ 1 = v1 ∧ ρ 2 = .c x ∧ ρ 3 = v3 ∧ ρ 9 = v9 ∧ ρ 11 = .c (.int .i64 P) ∧ ρ 12 = .c (.sl (some (la, 0)) N N ob) ∧ ρ 13 = v13 ∧ ρ 17 = .c (.int .i64 (t : Nat)) ∧ ρ 19 = .c (.int .i64 (n : Nat)) ∧ Hid (TgM B Hk N q (fun j => if j < n then (f j).heardN (rv j) N else f j))) N
    ⟨_, 0, H, rfl, rfl, by omega, zf, zf, zf, zf, zf, zf, zf, zf, zf, fin0 _ fun _ h _ _ _ _ _ _ _ _ _ _ => h⟩ ?_
  clear e2 e11 e12 e17 hv1 hv3 hv9 hv13
  rintro k st ⟨ρ1, n, Hk, rfl, rfl, hn, e1, e2, e3, e9, e11, e12, e13, e17, e19, hall⟩
  unfold b_rotalaw08_ClockTogether_35
  obtain ⟨Y, hY⟩ : ∃ Y, Y = IC.seq (.ops o_rotalaw08_ClockTogether_26) (.block 8 (.loop b_rotalaw08_ClockTogether_33)) := ⟨_, rfl⟩
  rw [← hY]
  have fY : Hid _ := fun (A : Prop) (h : _ → A) => h hY
  clear hY
  by_cases hnN : n < N
  · have hxt : (n : Int) < (N : Int) := by omega
    obtain ⟨g, hg⟩ : ∃ g : Nat → Clk, g = fun j => if j < n then (f j).heardN (rv j) N else f j := ⟨_, rfl⟩
    have hst : TgM B Hk N q g := by rw [hg]; exact hall
    have hgn : g n = f n := by rw [hg]; exact if_neg (Nat.lt_irrefl n)
    have hgo : ∀ j, j < N → ClkOk (g j) ∧ (g j).offset = oo j := fun j hj => fin0 _ fun _ _ _ hok hof _ _ _ _ _ hb2 _ => by
      have e : g j = if j < n then (f j).heardN (rv j) N else f j := by rw [hg]
      by_cases h : j < n
      · rw [e, if_pos h]; exact ⟨heardN_ok (hok j hj) fun m hm => hb2 j m hj hm, hof j hj⟩
      · rw [e, if_neg h]; exact ⟨hok j hj, hof j hj⟩
    have hgs : ∀ j, j < N → (if j = n then (g n).heardN (rv n) N else g j) = if j < n + 1 then (f j).heardN (rv j) N else f j := fun j _ => by
      by_cases e : j = n
      · subst e; rw [if_pos rfl, if_pos (by omega), hgn]
      · rw [if_neg e]
        have h : g j = if j < n then (f j).heardN (rv j) N else f j := by rw [hg]
        by_cases hl : j < n
        · rw [h, if_pos hl, if_pos (by omega)]
        · rw [h, if_neg hl, if_neg (by omega)]
    have fa : Hid _ := fun (A : Prop) (h : _ → _ → _ → _ → A) => h hst hgn hgo hgs
    clear hst hgn hgo hgs hall hg
    repeat (with_reducible first|(first|refine pI1 ?_|refine pS1 ?_);intros|refine pA1 ?_|refine pX1 ?_|refine pB1 ?_|exact True.intro)
    rw [fY _ fun h => h]
    refine W.mono (tg_row (n := n) (rv := rv n) (P := P) (fin0 _ fun hB _ _ _ _ _ _ _ _ _ _ _ => hB) (fa _ fun h _ _ _ => h) zf zf zf zf zf (fin0 _ fun _ _ hat _ _ _ _ _ _ _ _ _ => hat) ht hnN hN (fun j hj => fa _ fun _ _ h _ => (h j hj).1) (fun j hj => fa _ fun _ _ h _ => (h j hj).2)
      (fa _ fun _ h _ _ => by rw [h]; exact fin0 _ fun _ _ _ _ _ hnod _ _ _ _ _ _ => hnod n hnN) (fa _ fun _ h _ _ => by rw [h]; exact fin0 _ fun _ _ _ _ _ _ hh _ _ _ _ _ => hh n hnN)
      (fa _ fun _ h _ _ => by rw [h]; exact fin0 _ fun _ _ _ _ _ _ _ hrv _ _ _ _ => fun m hm => hrv n m hnN hm) (fin0 _ fun _ _ _ _ _ _ _ _ hfar _ _ _ => fun m hm => hfar n m hnN hm) (fa _ fun _ h _ _ => by rw [h]; exact fin0 _ fun _ _ _ _ _ _ _ _ _ hfit _ _ => fun m hm => hfit n m hnN hm) (fin0 _ fun _ _ _ _ _ _ _ _ _ _ hb2 _ => fun m hm => hb2 n m hnN hm)) ?_
    rintro _ _ ⟨rfl, ρ3, H3, rfl, ⟨⟨y1, y2, y3, y9, y11, y12, y13, y17⟩, y19⟩, hm3⟩
    have z1 : ρ3 1 = v1 := by rw [y1]; exact zf
    have z2 : ρ3 2 = .c x := by rw [y2]; exact zf
    have z3 : ρ3 3 = v3 := by rw [y3]; exact zf
    have z9 : ρ3 9 = v9 := by rw [y9]; exact zf
    have z11 : ρ3 11 = .c (.int .i64 P) := by rw [y11]; exact zf
    have z12 : ρ3 12 = .c (.sl (some (la, 0)) N N ob) := by rw [y12]; exact zf
    have z13 : ρ3 13 = v13 := by rw [y13]; exact zf
    have z17 : ρ3 17 = .c (.int .i64 (t : Nat)) := by rw [y17]; exact zf
    have z19 : ρ3 19 = .c (.int .i64 (n : Nat)) := by rw [y19]; exact zf
    have hm4 := fa _ fun _ _ _ h => hm3.same h
    have f4 : Hid _ := fun (A : Prop) (h : _ → A) => h hm4
    clear y1 y2 y3 y9 y11 y12 y13 y17 y19 e1 e2 e3 e9 e11 e12 e13 e17 e19 hm3 hm4
    repeat (with_reducible first|(first|refine pI1 ?_|refine pS1 ?_);intros|refine pA1 ?_|refine pX1 ?_|refine pB1 ?_|exact True.intro)
    exact loopQ_n (N - (n + 1)) (by omega) ⟨_, n + 1, H3, rfl, rfl, by omega, zf, zf, zf, zf, zf, zf, zf, zf, zf, f4 _ fun h => h⟩
  · obtain rfl : N = n := by omega
    have hxt : ¬ (N : Int) < (N : Int) := by omega
    have hst : TgM B Hk N q (fun j => if j < N then (f j).heardN (rv j) N else f j) := hall
    have hs2 : TgM B Hk N q (fun j => (f j).heardN (rv j) N) := hst.same fun j hj => by rw [if_pos hj]
    have fa : Hid _ := fun (A : Prop) (h : _ → A) => h hs2
    clear hall hst hs2
    repeat (with_reducible first|(first|refine pI1 ?_|refine pS1 ?_);intros|refine pA1 ?_|refine pX1 ?_|refine pB1 ?_|exact True.intro)
    exact ⟨rfl, _, Hk, rfl, fin0 _ fun _ _ _ _ _ _ _ _ _ _ _ hK => hK _ zf zf zf zf zf zf zf zf, fa _ fun h => h⟩
end Go.Proofs.Yteiiddefimpplaa.AM.D08

namespace Go.Proofs.Yteiiddefimpplaa.AM.D08
open Go Go.Proofs.Yteiiddefimpplaa.AM Go.Proofs.Yteiiddefimpplaa.AM.C02 Go.Proofs.Yteiiddefimpplaa.AM.C08
set_option maxHeartbeats 2000000
set_option maxRecDepth 100000
attribute [local go_sem] tn_add1 tn_sub1 put_all' nums_len
theorem TgM.xt {B H H' : Heap} {N la : Nat} {q : Nat → Nat} {f : Nat → Clk} (hB : TgB B N la q) (h : TgM B H N q f) (hx : Xt H H') : TgM B H' N q f := by
  obtain ⟨h1, h2, h3⟩ := h
  refine ⟨Nat.le_trans h1 hx.1, fun b hb hne => by rw [hx.2 b (by omega)]; exact h2 b hb hne, fun j hj => (h3 j hj).keep (hx.2 _ (by have := hB.lt j hj; omega))⟩
theorem tg_round {ρ : Nat → V} {B H : Heap} {N la M : Nat} {q : Nat → Nat} {f : Nat → Clk} {ob : Bool} {av : Nat → Int} (hB : TgB B N la q) (hm0 : TgM B H N q f) (e12 : ρ 12 = .c (.sl (some (la, 0)) N N ob)) (e13 : ρ 13 = .c (.int .u16 (M : Nat))) (hM : M < 65536) (hN : N ≤ 16) (hok : ∀ j, j < N → ClkOk (f j)) (hav : ∀ j, j < N → avg (f j) M (j : Nat) = av j) (hb : ∀ j, j < N → -(f j).bound ≤ av j ∧ av j ≤ (f j).bound) :
    W F none (.seq (.ops o_rotalaw08_ClockTogether_36) (.block 10 (.loop b_rotalaw08_ClockTogether_43))) ⟨L 183 ρ, [], H⟩ fun e s => e = .normal ∧ ∃ ρ' H', s = ⟨L 183 ρ', [], H'⟩ ∧ KpT ρ ρ' ∧ TgM B H' N q (fun j => ((f j).move (av j)).clear) := by
  obtain ⟨v1, hv1⟩ : ∃ v, ρ 1 = v := ⟨_, rfl⟩
  obtain ⟨v2, hv2⟩ : ∃ v, ρ 2 = v := ⟨_, rfl⟩
  obtain ⟨v3, hv3⟩ : ∃ v, ρ 3 = v := ⟨_, rfl⟩
  obtain ⟨v9, hv9⟩ : ∃ v, ρ 9 = v := ⟨_, rfl⟩
  obtain ⟨v11, hv11⟩ : ∃ v, ρ 11 = v := ⟨_, rfl⟩
  obtain ⟨v17, hv17⟩ : ∃ v, ρ 17 = v := ⟨_, rfl⟩
  have hK : ∀ ρ' : Nat → V, ρ' 1 = v1 → ρ' 2 = v2 → ρ' 3 = v3 → ρ' 9 = v9 → ρ' 11 = v11 → ρ' 12 = .c (.sl (some (la, 0)) N N ob) → ρ' 13 = .c (.int .u16 (M : Nat)) → ρ' 17 = v17 → KpT ρ ρ' := fun ρ' h1 h2 h3 h9 h11 h12 h13 h17 => ⟨by rw [h1, hv1], by rw [h2, hv2], by rw [h3, hv3], by rw [h9, hv9], by rw [h11, hv11], by rw [h12, e12], by rw [h13, e13], by rw [h17, hv17]⟩
  have hs0 : TgM B H N q (fun j => if j < 0 then ((f j).move (av j)).clear else f j) := hm0.same fun j _ => by rw [if_neg (by omega)]
  have fin0 : Hid _ := fun (A : Prop) (h : _ → _ → _ → _ → _ → _ → A) => h hB hs0 hok hav hb hK
  clear hB hm0 hs0 hok hav hb hK
  repeat (with_reducible first|(first|refine pI1 ?_|refine pS1 ?_);intros|refine pA1 ?_|refine pX1 ?_|refine pB1 ?_|exact True.intro)
  refine W_loop (fun k st => ∃ ρ, ∃ n : Nat, ∃ Hk, st = ⟨L 183 ρ, [], Hk⟩ ∧ k = N - n ∧ n ≤ N ∧ ρ 1 = v1 ∧ ρ 2 = v2 ∧ ρ 3 = v3 ∧ ρ 9 = v9 ∧ ρ 11 = v11 ∧ ρ 12 = .c (.sl (some (la, 0)) N N ob) ∧ ρ 13 = .c (.int .u16 (M : Nat)) ∧ ρ 17 = v17 ∧ ρ 22 = .c (.int .i64 (n : Nat)) ∧ Hid (TgM B Hk N q (fun j => if j < n then ((f j).move (av j)).clear else f j))) N
    ⟨_, 0, H, rfl, rfl, by omega, zf, zf, zf, zf, zf, zf, zf, zf, zf, fin0 _ fun _ h _ _ _ _ => h⟩ ?_
  clear e12 e13 hv1 hv2 hv3 hv9 hv11 hv17
  rintro k st ⟨ρ1, n, Hk, rfl, rfl, hn, e1, e2, e3, e9, e11, e12, e13, e17, e22, hall⟩
  unfold b_rotalaw08_ClockTogether_43
  by_cases hnN : n < N
  · have hxt : (n : Int) < (N : Int) := by omega
    have hst : TgM B Hk N q (fun j => if j < n then ((f j).move (av j)).clear else f j) := hall
    obtain ⟨cs, gg, gl, hcs⟩ := fin0 _ fun hB _ _ _ _ _ => hst.ptr hB
    have hcn := hcs n hnN
    have hkn : ClkM Hk (q n) (f n) := by have h := hst.2.2 n hnN; dsimp only at h; rwa [if_neg (Nat.lt_irrefl n)] at h
    have hon := fin0 _ fun _ _ hok _ _ _ => hok n hnN
    have ha := s_Average (ms := M) (own := (n : Nat)) hkn hon hM
    rw [fin0 _ fun _ _ _ hav _ _ => hav n hnN] at ha
    have hre : (f n).round M (n : Nat) = av n := fin0 _ fun _ _ _ hav hb _ => by
      unfold Clk.round
      rw [hav n hnN]
      exact cut_in (hb n hnN).1 (hb n hnN).2
    generalize decide (0 < (ofL (f n) M (n : Nat) (f n).nodes).length) = dd at ha
    have fa : Hid _ := fun (A : Prop) (h : _ → _ → _ → _ → A) => h hst hkn hon hre
    clear hall hst hkn hon hre hcs
    repeat (with_reducible first|(first|refine pI1 ?_|refine pS1 ?_);intros|refine pA1 ?_|refine pX1 ?_|refine pB1 ?_|exact True.intro)
    refine outM_call ha ?_
    rintro _ H1 ⟨rfl, t1⟩
    clear ha
    have hst1 := fin0 _ fun hB _ _ _ _ _ => fa _ fun h _ _ _ => TgM.xt hB h t1
    obtain ⟨cs2, gg2, gl2, hcs2⟩ := fin0 _ fun hB _ _ _ _ _ => hst1.ptr hB
    have hcn2 := hcs2 n hnN
    have hkn1 : ClkM H1 (q n) (f n) := by have h := hst1.2.2 n hnN; dsimp only at h; rwa [if_neg (Nat.lt_irrefl n)] at h
    have hr := fa _ fun _ _ hon _ => s_Round (ms := M) (own := (n : Nat)) hkn1 hon hM
    rw [fa _ fun _ _ _ h => h] at hr
    have f1 : Hid _ := fun (A : Prop) (h : _ → A) => h hst1
    clear hst1 hkn1 t1 gl hcn hcs2
    repeat (with_reducible first|(first|refine pI1 ?_|refine pS1 ?_);intros|refine pA1 ?_|refine pX1 ?_|refine pB1 ?_|exact True.intro)
    refine outM_call hr ?_
    rintro _ H2 ⟨rfl, hk2, l2, x2⟩
    clear hr
    have hm2 := fin0 _ fun hB _ _ _ _ _ => f1 _ fun h => h.go hB hnN hk2 l2 x2
    have hm3 : TgM B H2 N q (fun j => if j < n + 1 then ((f j).move (av j)).clear else f j) := hm2.same fun j _ => by
      by_cases e : j = n
      · subst e; rw [if_pos rfl, if_pos (by omega)]
      · rw [if_neg e]
        by_cases h : j < n
        · rw [if_pos h, if_pos (by omega)]
        · rw [if_neg h, if_neg (by omega)]
    have f2 : Hid _ := fun (A : Prop) (h : _ → A) => h hm3
    clear hm2 hm3 hk2 x2 l2 gl2 hcn2
    repeat (with_reducible first|(first|refine pI1 ?_|refine pS1 ?_);intros|refine pA1 ?_|refine pX1 ?_|refine pB1 ?_|exact True.intro)
    exact loopQ_n (N - (n + 1)) (by omega) ⟨_, n + 1, H2, rfl, rfl, by omega, zf, zf, zf, zf, zf, zf, zf, zf, zf, f2 _ fun h => h⟩
  · obtain rfl : N = n := by omega
    have hxt : ¬ (N : Int) < (N : Int) := by omega
    have hst : TgM B Hk N q (fun j => if j < N then ((f j).move (av j)).clear else f j) := hall
    have hs2 : TgM B Hk N q (fun j => ((f j).move (av j)).clear) := hst.same fun j hj => by rw [if_pos hj]
    have fa : Hid _ := fun (A : Prop) (h : _ → A) => h hs2
    clear hall hst hs2
    repeat (with_reducible first|(first|refine pI1 ?_|refine pS1 ?_);intros|refine pA1 ?_|refine pX1 ?_|refine pB1 ?_|exact True.intro)
    exact ⟨rfl, _, Hk, rfl, fin0 _ fun _ _ _ _ _ hK => hK _ zf zf zf zf zf zf zf zf, fa _ fun h => h⟩
end Go.Proofs.Yteiiddefimpplaa.AM.D08

namespace Go.Proofs.Yteiiddefimpplaa.AM.C08
structure TgI (N : Nat) (D R mg bd : Int) (t : Nat) (f : Nat → Clk) : Prop where
  par : ∀ j, j < N → (f j).nodes = N ∧ (f j).drift = D ∧ (f j).reading = R ∧ (f j).margin = mg ∧ (f j).bound = bd
  ok : ∀ j, j < N → ClkOk (f j)
  hh : ∀ n, n < N → ∀ j, (f n).heard j = false
  near : ∀ n m, n < N → m < N → (f n).offset - (f m).offset ≤ 2 * R
  off : ∀ j, j < N → -((t : Int) * 8000000) ≤ (f j).offset ∧ (f j).offset ≤ (t : Int) * 8000000
structure TgT (N : Nat) (D R mg : Int) (f f1 : Nat → Clk) (oo : Nat → Int) (rv : Nat → Nat → Int) (av : Nat → Int) : Prop where
  ok1 : ∀ j, j < N → ClkOk (f1 j)
  of1 : ∀ j, j < N → (f1 j).offset = oo j
  nd1 : ∀ j, j < N → (f1 j).nodes = N
  hh1 : ∀ n, n < N → ∀ j, (f1 n).heard j = false
  far : ∀ n m, n < N → m < N → max (oo n - oo m) (oo m - oo n) ≤ 2 * (D + R) + 1
  fit : ∀ n m, n < N → m < N → -(f1 n).margin ≤ rv n m ∧ rv n m ≤ (f1 n).margin
  b2 : ∀ n m, n < N → m < N → -2 * E ≤ rv n m ∧ rv n m ≤ 2 * E
  ok2 : ∀ j, j < N → ClkOk ((f1 j).heardN (rv j) N)
  bnd : ∀ j, j < N → -((f1 j).heardN (rv j) N).bound ≤ av j ∧ av j ≤ ((f1 j).heardN (rv j) N).bound
theorem TgI.turn {N t : Nat} {D R mg bd : Int} {f f1 : Nat → Clk} {oo : Nat → Int} {rv : Nat → Nat → Int} {av : Nat → Int} {dv : Nat → Int} {ev : Nat → Nat → Int} (h : TgI N D R mg bd t f) (ht : t < 20) (hN : 0 < N) (hD : 0 ≤ D ∧ D ≤ 1048576) (hR : 0 ≤ R ∧ R ≤ 1048576) (hmg : 2 * (2 * (D + R) + 1) + R ≤ mg) (hmg2 : mg ≤ 16777216) (hbd : 2 * (2 * (D + R) + 1) + R ≤ bd)
    (hf1 : f1 = fun j => (f j).drifts (dv j)) (hoo : oo = fun j => (f1 j).offset) (hrv : ∀ n m, rv n m = (f1 n).read (oo m) (ev n m)) (hav : ∀ j, j < N → av j = avg ((f1 j).heardN (rv j) N) (allM N) (j : Nat)) :
    TgT N D R mg f f1 oo rv av ∧ TgI N D R mg bd (t + 1) fun j => (((f1 j).heardN (rv j) N).move (av j)).clear := by
  have hoff : ∀ j, j < N → -160000000 ≤ (f j).offset ∧ (f j).offset ≤ 160000000 := fun j hj => by have := h.off j hj; omega
  have hE : E = 1099511627776 := rfl
  have hoj : ∀ j, j < N → oo j = (f j).offset + cutZ (dv j) (-D) D := fun j hj => by
    have e : oo j = cutZ ((f j).offset + cutZ (dv j) (-(f j).drift) (f j).drift) (-E) E := by rw [hoo, hf1]; rfl
    rw [e, (h.par j hj).2.1]
    have := cut_le (v := dv j) (lo := -D) (hi := D) (by omega)
    have := hoff j hj
    exact cut_in (by omega) (by omega)
  have hdr : ∀ j, j < N → -D ≤ oo j - (f j).offset ∧ oo j - (f j).offset ≤ D := fun j hj => by
    have := cut_le (v := dv j) (lo := -D) (hi := D) (by omega)
    rw [hoj j hj]; omega
  have hoi : ∀ j, j < N → -170000000 ≤ oo j ∧ oo j ≤ 170000000 := fun j hj => by have := hdr j hj; have := hoff j hj; omega
  have hok1 : ∀ j, j < N → ClkOk (f1 j) := fun j hj => by rw [hf1]; exact (h.ok j hj).move _
  have hp1 : ∀ j, j < N → (f1 j).nodes = N ∧ (f1 j).drift = D ∧ (f1 j).reading = R ∧ (f1 j).margin = mg ∧ (f1 j).bound = bd := fun j hj => by rw [hf1]; exact h.par j hj
  have hof1 : ∀ j, j < N → (f1 j).offset = oo j := fun j _ => by rw [hoo]
  have hhh1 : ∀ n, n < N → ∀ j, (f1 n).heard j = false := fun n hn j => by rw [hf1]; exact h.hh n hn j
  have hr : ∀ n m, n < N → m < N → -R ≤ rv n m - (oo m - oo n) ∧ rv n m - (oo m - oo n) ≤ R := fun n m hn hm => by
    have := read_near (hok1 n hn) (o := oo m) (m := ev n m) (by have := hoi m hm; omega)
    rw [(hp1 n hn).2.2.1, hof1 n hn, ← hrv] at this
    omega
  have key := round_law (N := N) (f := fun j => (f j).offset) (g := oo) (D := D) (R := R) (mg := mg) (bd := bd) (r := rv) (ms := allM N) hN hD.1 hR.1 (fun n hn => by rw [allM_bit]; exact decide_eq_true hn) hmg hbd h.near hdr hr
  obtain ⟨k1, k2, k3⟩ := key
  have hb2 : ∀ n m, n < N → m < N → -2 * E ≤ rv n m ∧ rv n m ≤ 2 * E := fun n m hn hm => by have := hr n m hn hm; have := hoi n hn; have := hoi m hm; omega
  have hok2 : ∀ j, j < N → ClkOk ((f1 j).heardN (rv j) N) := fun j hj => heardN_ok (hok1 j hj) fun m hm => hb2 j m hj hm
  have hae : ∀ j, j < N → av j = avgS (sorted ((mem (allM N) N).map fun (m : Nat) => if (m : Int) = (j : Nat) then 0 else rv j m)) := fun j hj => by
    have hn : ((f1 j).heardN (rv j) N).nodes = N := (hp1 j hj).1
    rw [hav j hj, avg_all (fun n hnn _ => .inr (by show decide (n < N) = true; rw [hn] at hnn; exact decide_eq_true hnn)), hn]
    congr 2
    refine List.map_congr_left fun n hm => ?_
    have : ((f1 j).heardN (rv j) N).readings n = rv j n := if_pos (mem_in hm).1
    rw [this]
  have hab : ∀ j, j < N → -(3 * R + 2 * D) ≤ av j ∧ av j ≤ 3 * R + 2 * D := fun j hj => by rw [hae j hj]; exact k2 j hj
  have hno : ∀ j, j < N → ((((f1 j).heardN (rv j) N).move (av j)).clear).offset = oo j + av j := fun j hj => by
    have e : ((((f1 j).heardN (rv j) N).move (av j)).clear).offset = cutZ ((f1 j).offset + av j) (-E) E := rfl
    rw [e, hof1 j hj]
    have := hab j hj
    have := hoi j hj
    exact cut_in (by omega) (by omega)
  refine ⟨⟨hok1, hof1, fun j hj => (hp1 j hj).1, hhh1, fun n m hn hm => ?_, fun n m hn hm => ?_, hb2, hok2, fun j hj => ?_⟩, ⟨hp1, fun j hj => ((hok2 j hj).move _).clear, fun _ _ _ => rfl, fun n m hn hm => ?_, fun j hj => ?_⟩⟩
  · have := (k1 n m hn hm).1
    have := (k1 m n hm hn).1
    omega
  · rw [(hp1 n hn).2.2.2.1]; exact (k1 n m hn hm).2
  · have e : ((f1 j).heardN (rv j) N).bound = bd := (hp1 j hj).2.2.2.2
    rw [e]
    have := hab j hj
    omega
  · rw [hno n hn, hno m hm, hae n hn, hae m hm]; exact k3 n m hn hm
  · rw [hno j hj]
    have := hab j hj
    have := hdr j hj
    have := h.off j hj
    push_cast
    omega
end Go.Proofs.Yteiiddefimpplaa.AM.C08

namespace Go.Proofs.Yteiiddefimpplaa.AM.D08
open Go Go.Proofs.Yteiiddefimpplaa.AM Go.Proofs.Yteiiddefimpplaa.AM.C02 Go.Proofs.Yteiiddefimpplaa.AM.C08
theorem KpT.trans {a b c : Nat → V} (h : KpT a b) (k : KpT b c) : KpT a c := ⟨k.1.trans h.1, k.2.1.trans h.2.1, k.2.2.1.trans h.2.2.1, k.2.2.2.1.trans h.2.2.2.1, k.2.2.2.2.1.trans h.2.2.2.2.1, k.2.2.2.2.2.1.trans h.2.2.2.2.2.1, k.2.2.2.2.2.2.1.trans h.2.2.2.2.2.2.1, k.2.2.2.2.2.2.2.trans h.2.2.2.2.2.2.2⟩
theorem tg_turn {ρ : Nat → V} {B H : Heap} {N la t : Nat} {q : Nat → Nat} {f : Nat → Clk} {ob : Bool} {x1 x2 : Cell} {dr er : List Int} {D R mg bd : Int} (hB : TgB B N la q) (hm0 : TgM B H N q f) (hI : TgI N D R mg bd t f) (e1 : ρ 1 = .c x1) (e2 : ρ 2 = .c x2) (e11 : ρ 11 = .c (.int .i64 (2 * (D + R) + 1))) (e12 : ρ 12 = .c (.sl (some (la, 0)) N N ob)) (e13 : ρ 13 = .c (.int .u16 (allM N : Nat))) (e17 : ρ 17 = .c (.int .i64 (t : Nat))) (hat1 : AtC B N q x1 dr) (hat2 : AtC B N q x2 er) (ht : t < 20) (hN0 : 0 < N) (hN : N ≤ 16)
    (hD : 0 ≤ D ∧ D ≤ 1048576) (hR : 0 ≤ R ∧ R ≤ 1048576) (hmg : 2 * (2 * (D + R) + 1) + R ≤ mg) (hmg2 : mg ≤ 16777216) (hbd : 2 * (2 * (D + R) + 1) + R ≤ bd) :
    W F none (.seq (.seq (.ops o_rotalaw08_ClockTogether_19) (.block 4 (.loop b_rotalaw08_ClockTogether_23))) (.seq (.seq (.ops o_rotalaw08_ClockTogether_24) (.block 6 (.loop b_rotalaw08_ClockTogether_35))) (.seq (.ops o_rotalaw08_ClockTogether_36) (.block 10 (.loop b_rotalaw08_ClockTogether_43))))) ⟨L 183 ρ, [], H⟩ fun e s => e = .normal ∧ ∃ ρ' H' f', s = ⟨L 183 ρ', [], H'⟩ ∧ KpT ρ ρ' ∧ TgM B H' N q f' ∧ TgI N D R mg bd (t + 1) f' := by
  obtain ⟨f1, hf1⟩ : ∃ f1 : Nat → Clk, f1 = fun j => (f j).drifts (atF dr (j + t * N) 1073741824) := ⟨_, rfl⟩
  obtain ⟨oo, hoo⟩ : ∃ oo : Nat → Int, oo = fun j => (f1 j).offset := ⟨_, rfl⟩
  obtain ⟨rv, hrv⟩ : ∃ rv : Nat → Nat → Int, rv = fun n m => (f1 n).read (oo m) (atF er (n + m * N + t) 1073741824) := ⟨_, rfl⟩
  obtain ⟨av, hav⟩ : ∃ av : Nat → Int, av = fun j => avg ((f1 j).heardN (rv j) N) (allM N) (j : Nat) := ⟨_, rfl⟩
  have hrv' : ∀ n m, rv n m = (f1 n).read (oo m) (atF er (n + m * N + t) 1073741824) := fun n m => by rw [hrv]
  have hav' : ∀ j, j < N → av j = avg ((f1 j).heardN (rv j) N) (allM N) (j : Nat) := fun j _ => by rw [hav]
  obtain ⟨T, hI2⟩ := hI.turn ht hN0 hD hR hmg hmg2 hbd hf1 hoo hrv' hav'
  refine W_cut _ (tg_drift hB hm0 e1 e12 e17 hat1 (by omega) hN hI.ok) ?_
  rintro _ ⟨ρ1, H1, rfl, k1, m1⟩
  rw [← hf1] at m1
  refine W_cut _ (tg_hear (f := f1) (oo := oo) (rv := rv) hB m1 (k1.2.1.trans e2) (k1.2.2.2.2.1.trans e11) (k1.2.2.2.2.2.1.trans e12) (k1.2.2.2.2.2.2.2.trans e17) hat2 (by omega) hN T.ok1 T.of1 T.nd1 T.hh1 (fun n m _ _ => hrv' n m) T.far T.fit T.b2) ?_
  rintro _ ⟨ρ2, H2, rfl, k2, m2⟩
  have k12 := k1.trans k2
  refine W.mono (tg_round hB m2 (k12.2.2.2.2.2.1.trans e12) (k12.2.2.2.2.2.2.1.trans e13) (allM_16 hN) hN T.ok2 (fun j hj => (hav' j hj).symm) T.bnd) ?_
  rintro e s ⟨rfl, ρ3, H3, rfl, k3, m3⟩
  exact ⟨rfl, ρ3, H3, _, rfl, k12.trans k3, m3, hI2⟩
end Go.Proofs.Yteiiddefimpplaa.AM.D08

namespace Go.Proofs.Yteiiddefimpplaa.AM.D08
open Go Go.Proofs.Yteiiddefimpplaa.AM Go.Proofs.Yteiiddefimpplaa.AM.C02 Go.Proofs.Yteiiddefimpplaa.AM.C08
def CrM (lo : Nat) (H : Heap) (k : Clk) (a : Option Ad) (i : Nat) (ob : Bool) (q : Nat → Nat) : Prop :=
  ∃ xs, Gr lo H 1 a i ob xs ∧ (∀ j, j < i → xs[j]? = some (.ptr (some (q j, 0)))) ∧ (∀ j, j < i → lo ≤ q j ∧ q j < H.length ∧ away a (q j) ∧ ClkM H (q j) k) ∧ ∀ j j', j < i → j' < i → q j = q j' → j = j'
theorem CrM.none (lo : Nat) (H : Heap) (k : Clk) (q : Nat → Nat) : CrM lo H k none 0 false q := ⟨[], Gr.none _ _ _, fun j hj => absurd hj (by omega), fun j hj => absurd hj (by omega), fun j _ hj => absurd hj (by omega)⟩
theorem CrM.keepX {lo : Nat} {H H' : Heap} {k : Clk} {a : Option Ad} {i : Nat} {ob : Bool} {q : Nat → Nat} (h : CrM lo H k a i ob q) (hx : Xt H H') : CrM lo H' k a i ob q := by
  obtain ⟨xs, h1, h2, h3, h4⟩ := h
  refine ⟨xs, h1.keepX hx.2, h2, fun j hj => ?_, h4⟩
  obtain ⟨r1, r2, r3, r4⟩ := h3 j hj
  have := hx.1
  exact ⟨r1, by omega, r3, r4.keep (hx.2 _ r2)⟩
theorem outM_pushC {H : Heap} {K : V → Heap → Prop} {lo i bz p : Nat} {a : Option Ad} {ob : Bool} {q : Nat → Nat} {k : Clk} (h : CrM lo H k a i ob q) (hlo : lo ≤ H.length) (hz : H[bz]? = some (.cells [.ptr (some (p, 0))] false none)) (hp : ClkM H p k) (hpl : lo ≤ p) (hpa : away a p) (hpn : ∀ j, j < i → q j ≠ p) (hi : i ≤ 100000)
    (hq : ∀ a' H', CrM lo H' k a' (i + 1) true (fun j => if j = i then p else q j) → H.length < H'.length → (∀ c, c < lo → H'[c]? = H[c]?) → K (.c (.sl a' (i + 1) (i + 1) true)) H') :
    outM F (appO 1 8 (.c (.sl a i i ob)) (.c (.sl (some (bz, 0)) 1 1 false)) H) K ⟨⟩ := by
  obtain ⟨xs, h1, h2, h3, h4⟩ := h
  have hcl := h1.len
  rw [Nat.mul_one] at hcl
  refine outM_appG (j := 1) h1 hlo (Sl.blk hz rfl) (by omega) (by omega) fun a' H' q1 q2 q3 q4 q5 => ?_
  have hst : ∀ b, b < H.length → away a b → H'[b]? = H[b]? := q4
  refine hq a' H' ⟨xs ++ [.ptr (some (p, 0))], q1, fun j hj => ?_, fun j hj => ?_, fun j j' hj hj' e => ?_⟩ q2 q3
  · show (xs ++ [Cell.ptr (some (p, 0))])[j]? = some (.ptr (some ((if j = i then p else q j), 0)))
    by_cases e : j = i
    · subst e
      rw [List.getElem?_append_right (by omega), hcl, Nat.sub_self, if_pos rfl]; rfl
    · rw [List.getElem?_append_left (by omega), if_neg e]; exact h2 j (by omega)
  · show lo ≤ (if j = i then p else q j) ∧ (if j = i then p else q j) < H'.length ∧ away a' (if j = i then p else q j) ∧ ClkM H' (if j = i then p else q j) k
    by_cases e : j = i
    · rw [if_pos e]
      have := hp.lt
      exact ⟨hpl, by omega, q5 p (by omega), hp.keep (hst p (by omega) hpa)⟩
    · rw [if_neg e]
      obtain ⟨r1, r2, r3, r4⟩ := h3 j (by omega)
      exact ⟨r1, by omega, q5 _ r2, r4.keep (hst _ r2 r3)⟩
  · dsimp only at e
    by_cases e1 : j = i
    · by_cases e2 : j' = i
      · omega
      · rw [if_pos e1, if_neg e2] at e; exact absurd e.symm (hpn j' (by omega))
    · by_cases e2 : j' = i
      · rw [if_neg e1, if_pos e2] at e; exact absurd e (hpn j (by omega))
      · rw [if_neg e1, if_neg e2] at e; exact h4 j j' (by omega) (by omega) e
theorem CrM.done {lo : Nat} {H : Heap} {k : Clk} {a : Option Ad} {N : Nat} {ob : Bool} {q : Nat → Nat} (h : CrM lo H k a N ob q) (hN : 0 < N) : ∃ la, a = some (la, 0) ∧ TgB H N la q ∧ TgM H H N q (fun _ => k) ∧ ∀ j, j < N → lo ≤ q j := by
  obtain ⟨xs, h1, h2, h3, h4⟩ := h
  obtain ⟨b, rfl, -, -, -, hb⟩ := h1.blk hN
  exact ⟨b, rfl, ⟨⟨xs, some 1, hb, h2⟩, fun j hj => (h3 j hj).2.1, fun j hj e => (h3 j hj).2.2.1 (b, 0) rfl e.symm, h4⟩, ⟨Nat.le_refl _, fun _ _ _ => rfl, fun j hj => (h3 j hj).2.2.2⟩, fun j hj => (h3 j hj).1⟩
end Go.Proofs.Yteiiddefimpplaa.AM.D08

namespace Go.Proofs.Yteiiddefimpplaa.AM.D08
open Go Go.Proofs.Yteiiddefimpplaa.AM Go.Proofs.Yteiiddefimpplaa.AM.C02 Go.Proofs.Yteiiddefimpplaa.AM.C08
set_option maxHeartbeats 2000000
set_option maxRecDepth 100000
attribute [local go_sem] tn_add1 tn_sub1 put_all' nums_len sub12
theorem together_w {H : Heap} {c : Cfg} {h : Hd} {a2 a3 : Option Ad} {n2 n3 c2 c3 : Nat} {o2 o3 : Bool} {dr er : List Int} {ts : Int} (hc : CfgM H.length H c h) (hs2 : Sl H 1 a2 n2 (nums dr)) (hl2 : dr.length = n2) (hb2 : n2 ≤ 9223372036854775807) (hi2 : ∀ x ∈ dr, i64 x)
    (hs3 : Sl H 1 a3 n3 (nums er)) (hl3 : er.length = n3) (hb3 : n3 ≤ 9223372036854775807) (hi3 : ∀ x ∈ er, i64 x) :
    WC F fn_rotalaw08_ClockTogether [.agg (c.cells h), .c (.sl a2 n2 c2 o2), .c (.sl a3 n3 c3 o3), .c (.int .i64 ts)] H fun v _ => v = .c (.bool true) := by
  refine WC_start e_rotalaw08_ClockTogether (by simp) ?_
  unfold c_rotalaw08_ClockTogether
  have hck := fun (Hx : Heap) (hx : Xt H Hx) => s_Check (H := Hx) (hc.keep fun b hb => hx.2 b hb) hx.1
  have hnew := fun (Hx : Heap) (hx : Xt H Hx) => s_New (hc.keep (H' := Hx) hx.2) hx.1
  have hpr := fun (Hx : Heap) (h1 : 0 ≤ c.drift ∧ c.drift ≤ 1048576) (h2 : 0 ≤ c.reading ∧ c.reading ≤ 1048576) => s_Precision (H := Hx) (c := c) (h := h) h1 h2
  have hat2 := fun (Hx : Heap) (hx : ∀ b, b < H.length → Hx[b]? = H[b]?) (n : Nat) (hn : n ≤ 1000000) => s_at (H := Hx) (c := c2) (o := o2) (n := n) (most := 1073741824) (hs2.to fun b hb => hx b hb) hl2 hb2 hn hi2 (by omega)
  have hat3 := fun (Hx : Heap) (hx : ∀ b, b < H.length → Hx[b]? = H[b]?) (n : Nat) (hn : n ≤ 1000000) => s_at (H := Hx) (c := c3) (o := o3) (n := n) (most := 1073741824) (hs3.to fun b hb => hx b hb) hl3 hb3 hn hi3 (by omega)
  obtain ⟨C, hC⟩ : ∃ C, C = c.cells h := ⟨_, rfl⟩
  have hsub : sub C 0 12 = some C := by rw [hC]; rfl
  have hC0 : C[0]? = some (.int .i64 c.nodes) := by rw [hC]; rfl
  rw [← hC] at hck hnew hpr ⊢
  obtain ⟨ck, hk⟩ : ∃ ck, c.check = ck := ⟨_, rfl⟩
  rw [hk] at hck
  have fin0 : Hid _ := fun (A : Prop) (h : _ → _ → _ → _ → _ → _ → A) => h hck hnew hat2 hat3 hk hpr
  clear hck hnew hat2 hat3 hk hpr hc hs2 hl2 hb2 hi2 hs3 hl3 hb3 hi3 hC
  repeat (with_reducible first|(first|refine pI1 ?_|refine pS1 ?_);intros|refine pA1 ?_|refine pX1 ?_|refine pB1 ?_|exact True.intro)
  rename_i b4 H1 p1 g1 x1
  have t1 : Xt H H1 := ⟨by omega, fun b hb => x1 b (by omega)⟩
  have f1 : Hid _ := fun (A : Prop) (h : _ → A) => h t1
  clear x1 t1
  refine outM_call s_alive ?_
  rintro _ H2 ⟨rfl, l2, x2⟩
  have g2 := (x2 b4 (by omega)).trans g1
  have t2 : Xt H H2 := f1 _ fun t => ⟨by omega, fun b hb => (x2 b (by omega)).trans (t.2 b hb)⟩
  have f2 : Hid _ := fun (A : Prop) (h : _ → A) => h t2
  clear x2 t2 g1 f1
  repeat (with_reducible first|(first|refine pI1 ?_|refine pS1 ?_);intros|refine pA1 ?_|refine pX1 ?_|refine pB1 ?_|exact True.intro)
  refine outM_call (fin0 _ fun h _ _ _ _ _ => f2 _ fun t => h H2 t) ?_
  rintro _ H3 ⟨rfl, l3, x3⟩
  have g3 := (x3 b4 (by omega)).trans g2
  have t3 : Xt H H3 := f2 _ fun t => ⟨by omega, fun b hb => (x3 b (by omega)).trans (t.2 b hb)⟩
  have f3 : Hid _ := fun (A : Prop) (h : _ → A) => h t3
  clear x3 t3 g2 f2
  by_cases h0 : ck = 0
  case neg =>
    repeat (with_reducible first|(first|refine pI1 ?_|refine pS1 ?_);intros|refine pA1 ?_|refine pX1 ?_|refine pB1 ?_|exact True.intro)
    exact rfl
  subst h0
  have hk := fin0 _ fun _ _ _ _ h _ => h
  have ho := clk0_ok hk
  obtain ⟨⟨nd1, nd2, -⟩, ⟨hd1, hd2, hr1, hr2, hmg, hmg2, hbd, -⟩, -⟩ := Cfg.check_ok.1 hk
  obtain ⟨N, hN⟩ : ∃ N : Nat, c.nodes = N := ⟨c.nodes.toNat, by omega⟩
  rw [hN] at nd1 nd2 hC0
  have hcn : (clk0 c).nodes = N := by show c.nodes.toNat = N; omega
  have hN16 : N ≤ 16 := by omega
  have hN4 : 4 ≤ N := by omega
  have hprec : c.prec = 2 * (c.drift + c.reading) + 1 := rfl
  have hp3 := fin0 _ fun _ _ _ _ _ h => h H3 ⟨hd1, hd2⟩ ⟨hr1, hr2⟩
  obtain ⟨P, hP⟩ : ∃ P, c.prec = P := ⟨_, rfl⟩
  rw [hP] at hp3
  have hI0 : TgI N c.drift c.reading c.margin c.bound 0 (fun _ => clk0 c) := ⟨fun _ _ => ⟨hcn, rfl, rfl, rfl, rfl⟩, fun _ _ => ho, fun _ _ _ => rfl, fun _ _ _ _ => by show (0 : Int) - 0 ≤ 2 * c.reading; omega, fun _ _ => by show -((0 : Nat) * 8000000 : Int) ≤ 0 ∧ (0 : Int) ≤ ((0 : Nat) : Int) * 8000000; omega⟩
  have fc : Hid _ := fun (A : Prop) (h : _ → _ → _ → _ → _ → _ → _ → _ → _ → A) => h hk hI0 (And.intro hd1 hd2) (And.intro hr1 hr2) (show 2 * (2 * (c.drift + c.reading) + 1) + c.reading ≤ c.margin by rw [← hprec]; exact hmg) hmg2 (show 2 * (2 * (c.drift + c.reading) + 1) + c.reading ≤ c.bound by rw [← hprec]; exact hbd) (show P = 2 * (c.drift + c.reading) + 1 by rw [← hP]; exact hprec) hcn
  clear hk ho hcn hN hI0 hprec hP hmg hmg2 hbd hd1 hd2 hr1 hr2
  repeat (with_reducible first|(first|refine pI1 ?_|refine pS1 ?_);intros|refine pA1 ?_|refine pX1 ?_|refine pB1 ?_|exact True.intro)
  refine outM_call hp3 ?_
  rintro _ H4 ⟨rfl, l4, x4⟩
  clear hp3
  have g4 := (x4 b4 (lt_of_get g3)).trans g3
  have t4 : Xt H H4 := f3 _ fun t => ⟨by omega, fun b hb => (x4 b (by omega)).trans (t.2 b hb)⟩
  have f4 : Hid _ := fun (A : Prop) (h : _ → A) => h t4
  have hl4 := t4.1
  clear x4 t4 g3 f3
  have lb4 := lt_of_get g4
  repeat (with_reducible first|(first|refine pI1 ?_|refine pS1 ?_);intros|refine pA1 ?_|refine pX1 ?_|refine pB1 ?_|exact True.intro)
  refine W_loop (fun m st => ∃ ρ, ∃ i : Nat, ∃ a ob q Hk, st = ⟨L 183 ρ, [], Hk⟩ ∧ m = N - i ∧ i ≤ N ∧ ρ 1 = .c (.sl a2 n2 c2 o2) ∧ ρ 2 = .c (.sl a3 n3 c3 o3) ∧ ρ 3 = .c (.int .i64 ts) ∧ ρ 4 = .c (.ptr (some (b4, 0))) ∧ ρ 9 = .c (.bool true) ∧ ρ 11 = .c (.int .i64 P) ∧ ρ 12 = .c (.sl a i i ob) ∧ ρ 13 = .c (.int .u16 (allM i : Nat)) ∧ ρ 14 = .c (.int .i64 (i : Nat)) ∧ H4.length ≤ Hk.length ∧ Hid ((∀ b, b < H4.length → Hk[b]? = H4[b]?) ∧ CrM H4.length Hk (clk0 c) a i ob q)) N
    ⟨_, 0, none, false, fun _ => 0, H4, rfl, rfl, by omega, zf, zf, zf, zf, zf, zf, zf, by rw [show allM 0 = 0 from rfl]; exact zf, zf, Nat.le_refl _, fun _ _ => rfl, CrM.none _ _ _ _⟩ ?_
  rintro m st ⟨ρ, i, a, ob, q, Hk, rfl, rfl, hi, e1, e2, e3, e4, e9, e11, e12, e13, e14, lk, hall⟩
  unfold b_rotalaw08_ClockTogether_16
  have gk4 : Hk[b4]? = some (.cells C false none) := (hall.1 b4 lb4).trans g4
  have tk : Xt H Hk := f4 _ fun t => ⟨by omega, fun b hb => (hall.1 b (by omega)).trans (t.2 b hb)⟩
  have fh : Hid _ := fun (A : Prop) (h : _ → _ → A) => h hall tk
  clear hall tk
  by_cases hin : i < N
  · have hxt : (i : Int) < (N : Int) := by omega
    have hp2 : 1 * 2 ^ i % 65536 = 2 ^ i := by
      rw [Nat.one_mul]
      exact Nat.mod_eq_of_lt (Nat.lt_of_le_of_lt (Nat.pow_le_pow_right (by decide) (show i ≤ 15 by omega)) (by decide))
    have hal : allM (i + 1) = allM i ||| 2 ^ i := rfl
    have hlt : (allM i ||| 2 ^ i) % 65536 = allM i ||| 2 ^ i := Nat.mod_eq_of_lt (by rw [← hal]; exact allM_16 (by omega))
    have h16 := allM_16 (show i ≤ 16 by omega)
    obtain ⟨z, hz⟩ : ∃ z, allM i ||| 2 ^ i = z := ⟨_, rfl⟩
    rw [hz] at hlt hal
    have fa : Hid _ := fun (A : Prop) (h : _ → A) => h hal
    clear hal
    generalize allM i = y at *
    have hpl : 2 ^ i < 65536 := by
      rw [← hp2]; exact Nat.mod_lt _ (by decide)
    repeat (with_reducible first|(first|refine pI1 ?_|refine pS1 ?_);intros|refine pA1 ?_|refine pX1 ?_|refine pB1 ?_|exact True.intro)
    refine outM_call (fin0 _ fun _ h _ _ _ _ => fh _ fun _ t => h Hk t) ?_
    rintro v H5 ⟨⟨l5, x5⟩, ⟨hne, -⟩ | ⟨-, p, rfl, p1, p2, hkc⟩⟩
    · exact absurd (fc _ fun h _ _ _ _ _ _ _ _ => h) hne
    have cr5 : CrM H4.length H5 (clk0 c) a i ob q := fh _ fun hall _ => hall.2.keepX ⟨l5, x5⟩
    have pn : away a p ∧ ∀ j, j < i → q j ≠ p := fh _ fun hall _ => by
      obtain ⟨xs, k1, k2, k3, k4⟩ := hall.2
      exact ⟨fun y e => by have := (k1.lt y e).2; omega, fun j hj => by have := (k3 j hj).2.1; omega⟩
    have x54 : ∀ b, b < H4.length → H5[b]? = H4[b]? := fun b hb => by rw [x5 b (by omega)]; exact fh _ fun hall _ => hall.1 b hb
    have f5 : Hid _ := fun (A : Prop) (h : _ → _ → _ → _ → A) => h cr5 pn x54 hkc
    clear cr5 pn x54 hkc x5 gk4
    repeat (with_reducible first|(first|refine pI1 ?_|refine pS1 ?_);intros|refine pA1 ?_|refine pX1 ?_|refine pB1 ?_|exact True.intro)
    rename_i bz H6 p6 g6 x6
    have t6 : Xt H5 H6 := ⟨by omega, fun b hb => x6 b (by omega)⟩
    have cr6 := f5 _ fun cr5 _ _ _ => cr5.keepX t6
    have hk6 := f5 _ fun _ _ _ hkc => hkc.keep (t6.2 p (by omega))
    have x64 : ∀ b, b < H4.length → H6[b]? = H4[b]? := fun b hb => by rw [t6.2 b (by omega)]; exact f5 _ fun _ _ h _ => h b hb
    have f6 : Hid _ := fun (A : Prop) (h : _ → _ → _ → A) => h cr6 hk6 x64
    clear cr6 hk6 x64 x6 t6
    refine outM_pushC (f6 _ fun h _ _ => h) (by omega) g6 (f6 _ fun _ h _ => h) (by omega) (f5 _ fun _ h _ _ => h.1) (f5 _ fun _ h _ _ => h.2) (by omega) ?_
    intro a' H7 cr7 l7 x7
    have f7 : Hid _ := fun (A : Prop) (h : _ → _ → A) => h cr7 x7
    clear cr7 x7
    repeat (with_reducible first|(first|refine pI1 ?_|refine pS1 ?_);intros|refine pA1 ?_|refine pX1 ?_|refine pB1 ?_|exact True.intro)
    exact loopQ_n (N - (i + 1)) (by omega) ⟨_, i + 1, a', true, _, H7, rfl, rfl, by omega, zf, zf, zf, zf, zf, zf, zf, by rw [fa _ fun h => h]; exact zf, zf, by omega, fun b hb => by rw [f7 _ fun _ h => h b hb]; exact f6 _ fun _ _ h => h b hb, f7 _ fun h _ => h⟩
  obtain rfl : N = i := by omega
  have hxt : ¬ (N : Int) < (N : Int) := by omega
  obtain ⟨la, rfl, hB, hM0, hql⟩ := fh _ fun hall _ => hall.2.done (by omega)
  have hA : ∀ Hx : Heap, (∀ b, b < Hk.length → (∀ j, j < N → b ≠ q j) → Hx[b]? = Hk[b]?) → ∀ b, b < H.length → Hx[b]? = H[b]? := fun Hx hx b hb => by
    rw [hx b (by omega) fun j hj => by have := hql j hj; omega]
    exact fh _ fun _ t => t.2 b hb
  have hA2 : AtC Hk N q (.sl a2 n2 c2 o2) dr := fun Hx hx n hn => fin0 _ fun _ _ h _ _ _ => h Hx (hA Hx hx) n hn
  have hA3 : AtC Hk N q (.sl a3 n3 c3 o3) er := fun Hx hx n hn => fin0 _ fun _ _ _ h _ _ => h Hx (hA Hx hx) n hn
  have fb : Hid _ := fun (A : Prop) (h : _ → _ → _ → _ → A) => h hB hM0 hA2 hA3
  clear hB hM0 hA2 hA3 hA hql
  have hP := fc _ fun _ _ _ _ _ _ _ h _ => h
  have fP : Hid _ := fun (A : Prop) (h : _ → A) => h hP
  clear hP
  generalize hMM : allM N = MM at *
  have fM : Hid _ := fun (A : Prop) (h : _ → A) => h hMM
  clear hMM
  repeat (with_reducible first|(first|refine pI1 ?_|refine pS1 ?_);intros|refine pA1 ?_|refine pX1 ?_|refine pB1 ?_|exact True.intro)
  refine W_loop (fun m st => ∃ ρ, ∃ t : Nat, ∃ f Hm, st = ⟨L 183 ρ, [], Hm⟩ ∧ m = 20 - t ∧ t ≤ 20 ∧ ρ 1 = .c (.sl a2 n2 c2 o2) ∧ ρ 2 = .c (.sl a3 n3 c3 o3) ∧ ρ 3 = .c (.int .i64 ts) ∧ ρ 9 = .c (.bool true) ∧ ρ 11 = .c (.int .i64 P) ∧ ρ 12 = .c (.sl (some (la, 0)) N N ob) ∧ ρ 13 = .c (.int .u16 (MM : Nat)) ∧ ρ 17 = .c (.int .i64 (t : Nat)) ∧ Hid (TgM Hk Hm N q f ∧ TgI N c.drift c.reading c.margin c.bound t f)) 20
    ⟨_, 0, fun _ => clk0 c, Hk, rfl, rfl, by omega, zf, zf, zf, zf, zf, zf, zf, zf, fb _ fun _ h _ _ => h, fc _ fun _ h _ _ _ _ _ _ _ => h⟩ ?_
  clear e1 e2 e3 e4 e9 e11 e12 e13 e14
  rintro m st ⟨ρ, t, f, Hm, rfl, rfl, ht, e1, e2, e3, e9, e11, e12, e13, e17, hall⟩
  unfold b_rotalaw08_ClockTogether_45
  obtain ⟨Y, hY⟩ : ∃ Y, Y = IC.seq (.seq (.ops o_rotalaw08_ClockTogether_19) (.block 4 (.loop b_rotalaw08_ClockTogether_23))) (.seq (.seq (.ops o_rotalaw08_ClockTogether_24) (.block 6 (.loop b_rotalaw08_ClockTogether_35))) (.seq (.ops o_rotalaw08_ClockTogether_36) (.block 10 (.loop b_rotalaw08_ClockTogether_43)))) := ⟨_, rfl⟩
  rw [← hY]
  have fY : Hid _ := fun (A : Prop) (h : _ → A) => h hY
  clear hY
  have fz : Hid _ := fun (A : Prop) (h : _ → A) => h hall
  clear hall
  by_cases htt : (t : Int) < ts
  case neg =>
    repeat (with_reducible first|(first|refine pI1 ?_|refine pS1 ?_);intros|refine pA1 ?_|refine pX1 ?_|refine pB1 ?_|exact True.intro)
    exact rfl
  by_cases ht2 : t < 20
  case neg =>
    obtain rfl : t = 20 := by omega
    repeat (with_reducible first|(first|refine pI1 ?_|refine pS1 ?_);intros|refine pA1 ?_|refine pX1 ?_|refine pB1 ?_|exact True.intro)
    exact rfl
  have ht3 : (t : Int) < 20 := by omega
  repeat (with_reducible first|(first|refine pI1 ?_|refine pS1 ?_);intros|refine pA1 ?_|refine pX1 ?_|refine pB1 ?_|exact True.intro)
  rw [fY _ fun h => h]
  refine W.mono (tg_turn (D := c.drift) (R := c.reading) (mg := c.margin) (bd := c.bound) (fb _ fun h _ _ _ => h) (fz _ fun h => h.1) (fz _ fun h => h.2) zf zf (by rw [← fP _ fun h => h]; exact zf) zf (by rw [fM _ fun h => h]; exact zf) zf (fb _ fun _ _ h _ => h) (fb _ fun _ _ _ h => h) ht2 (by omega) hN16 (fc _ fun _ _ h _ _ _ _ _ _ => h) (fc _ fun _ _ _ h _ _ _ _ _ => h) (fc _ fun _ _ _ _ h _ _ _ _ => h) (fc _ fun _ _ _ _ _ h _ _ _ => h) (fc _ fun _ _ _ _ _ _ h _ _ => h)) ?_
  rintro _ _ ⟨rfl, ρ3, H3', f', rfl, ⟨y1, y2, y3, y9, y11, y12, y13, y17⟩, hm3, hi3⟩
  have z1 : ρ3 1 = .c (.sl a2 n2 c2 o2) := by rw [y1]; exact zf
  have z2 : ρ3 2 = .c (.sl a3 n3 c3 o3) := by rw [y2]; exact zf
  have z3 : ρ3 3 = .c (.int .i64 ts) := by rw [y3]; exact zf
  have z9 : ρ3 9 = .c (.bool true) := by rw [y9]; exact zf
  have z11 : ρ3 11 = .c (.int .i64 P) := by rw [y11]; exact zf
  have z12 : ρ3 12 = .c (.sl (some (la, 0)) N N ob) := by rw [y12]; exact zf
  have z13 : ρ3 13 = .c (.int .u16 (MM : Nat)) := by rw [y13]; exact zf
  have z17 : ρ3 17 = .c (.int .i64 (t : Nat)) := by rw [y17]; exact zf
  have f4 : Hid _ := fun (A : Prop) (h : _ → _ → A) => h hm3 hi3
  clear y1 y2 y3 y9 y11 y12 y13 y17 e1 e2 e3 e9 e11 e12 e13 e17 hm3 hi3
  repeat (with_reducible first|(first|refine pI1 ?_|refine pS1 ?_);intros|refine pA1 ?_|refine pX1 ?_|refine pB1 ?_|exact True.intro)
  exact loopQ_n (20 - (t + 1)) (by omega) ⟨_, t + 1, f', H3', rfl, rfl, by omega, zf, zf, zf, zf, zf, zf, zf, zf, f4 _ fun h k => ⟨h, k⟩⟩
theorem together_wc (H : Heap) (_ : Begins [] H) {x1 : Cfg.T.D} {x2 x3 : List Int} {x4 : Int} {v1 v2 v3 v4 : V} (h1 : VwV Cfg.T H x1 v1) (h2 : VwV (.sl I) H x2 v2) (h3 : VwV (.sl I) H x3 v3) (h4 : VwV I H x4 v4) : WC F fn_rotalaw08_ClockTogether [v1, v2, v3, v4] H fun v _ => v = .c (.bool true) := by
  obtain ⟨cs1, k1, ⟨-, rfl⟩ | ⟨h, -⟩⟩ := h1
  case inr => cases h
  obtain ⟨cs2, k2, ⟨h, -⟩ | ⟨-, w2, rfl, rfl⟩⟩ := h2
  case inl => cases h
  obtain ⟨cs3, k3, ⟨h, -⟩ | ⟨-, w3, rfl, rfl⟩⟩ := h3
  case inl => cases h
  obtain ⟨rfl, -⟩ := h4.i64
  obtain ⟨c, h, rfl, hc, -⟩ := cfg_row k1
  obtain ⟨a2, c2, e2, q1, q2, hs2, hi2⟩ := Vw.nums k2
  obtain ⟨a3, c3, e3, q3, q4, hs3, hi3⟩ := Vw.nums k3
  cases e2
  cases e3
  have hmax : maxLen ≤ 9223372036854775807 := by decide
  exact together_w hc hs2 rfl (by omega) hi2 hs3 rfl (by omega) hi3
end Go.Proofs.Yteiiddefimpplaa.AM.D08

