/- What the functions of chapter 2 come to: clocks, pairs, partitions. -/
import Derived.Test.YtbgmbnikpjjmcaaD07C02a
set_option linter.unusedVariables false
set_option linter.unusedSimpArgs false
set_option linter.unusedSectionVars false
namespace Go.Proofs.Ytbgmbnikpjjmcaa.AM.D07
open Go Go.Proofs.Ytbgmbnikpjjmcaa.AM Go.Proofs.Ytbgmbnikpjjmcaa.AM.C02
set_option maxHeartbeats 2000000
set_option maxRecDepth 100000
attribute [local go_sem] tn_add1 tn_sub1 put_all' nums_len aop_mn aop_mx mnO_int mxO_int
theorem s_Precision {H : Heap} {c : Cfg} {h : Hd} (h1 : 0 ≤ c.drift ∧ c.drift ≤ 1048576) (h2 : 0 ≤ c.reading ∧ c.reading ≤ 1048576) : WC F fn_config_Precision [.agg (c.cells h)] H fun v H' => v = .c (.int .i64 c.prec) ∧ Xt H H' := by
  unfold Cfg.cells Cfg.prec
  generalize c.drift = d at *
  generalize c.reading = r at *
  obtain ⟨h3, h4⟩ := h1
  obtain ⟨h5, h6⟩ := h2
  refine WC_start e_config_Precision (by simp) ?_
  unfold c_config_Precision
  repeat (with_reducible first|(first|refine pI1 ?_|refine pS1 ?_);intros|refine pA1 ?_|refine pX1 ?_|refine pB1 ?_|exact True.intro)
  rename_i b1 H1 p1 g1 x1
  repeat (with_reducible first|(first|refine pI1 ?_|refine pS1 ?_);intros|refine pA1 ?_|refine pX1 ?_|refine pB1 ?_|exact True.intro)
  exact ⟨rfl, by omega, fun b hb => x1 b (by omega)⟩
theorem sub12 (a b c d e f g h i j k l : Cell) : sub [a, b, c, d, e, f, g, h, i, j, k, l] 0 12 = some [a, b, c, d, e, f, g, h, i, j, k, l] := rfl
attribute [local go_sem] sub12
theorem s_cclocks {H : Heap} {c : Cfg} {h : Hd} : WC F fn_config_clocks [.agg (c.cells h)] H fun v H' => v = .c (.bool (dB c.okClock)) ∧ Xt H H' := by
  have hP : ∀ Hx : Heap, (0 ≤ c.drift ∧ c.drift ≤ 1048576) → (0 ≤ c.reading ∧ c.reading ≤ 1048576) → _ := fun Hx h1 h2 => s_Precision (H := Hx) (c := c) (h := h) h1 h2
  have hpr : c.prec = 2 * (c.drift + c.reading) + 1 := rfl
  have hok : c.okClock ↔ (0 ≤ c.drift ∧ c.drift ≤ 1048576 ∧ 0 ≤ c.reading ∧ c.reading ≤ 1048576 ∧ 2 * c.prec + c.reading ≤ c.margin ∧ c.margin ≤ 16777216 ∧ 2 * c.prec + c.reading ≤ c.bound ∧ c.bound ≤ 16777216 ∧ 1 ≤ c.rejoin ∧ c.rejoin ≤ 8 ∧ 1 ≤ c.quota ∧ c.quota ≤ 16) := Iff.rfl
  rw [dB_iff hok]
  clear hok
  unfold Cfg.cells at *
  generalize c.prec = p at *
  generalize c.drift = d at *
  generalize c.reading = r at *
  generalize c.margin = m at *
  generalize c.bound = bo at *
  generalize c.rejoin = rj at *
  generalize c.quota = q at *
  refine WC_start e_config_clocks (by simp) ?_
  unfold c_config_clocks
  repeat (with_reducible first|(first|refine pI1 ?_|refine pS1 ?_);intros|refine pA1 ?_|refine pX1 ?_|refine pB1 ?_|exact True.intro)
  rename_i b1 H1 p1 g1 x1
  refine outM_call s_within ?_
  rintro _ H1 ⟨rfl, rfl⟩
  by_cases h1 : 0 ≤ d ∧ d ≤ 1048576
  case neg =>
    clear hP
    repeat (with_reducible first|(first|refine pI1 ?_|refine pS1 ?_);intros|refine pA1 ?_|refine pX1 ?_|refine pB1 ?_|exact True.intro)
    exact ⟨by rw [dB_f (by omega)], by omega, fun b hb => x1 b (by omega)⟩
  have hP := fun Hx => hP Hx h1
  obtain ⟨d1, d2⟩ := h1
  repeat (with_reducible first|(first|refine pI1 ?_|refine pS1 ?_);intros|refine pA1 ?_|refine pX1 ?_|refine pB1 ?_|exact True.intro)
  refine outM_call s_within ?_
  rintro _ H1 ⟨rfl, rfl⟩
  by_cases h1 : 0 ≤ r ∧ r ≤ 1048576
  case neg =>
    clear hP
    repeat (with_reducible first|(first|refine pI1 ?_|refine pS1 ?_);intros|refine pA1 ?_|refine pX1 ?_|refine pB1 ?_|exact True.intro)
    exact ⟨by rw [dB_f (by omega)], by omega, fun b hb => x1 b (by omega)⟩
  have hP := hP H1 h1
  obtain ⟨r1, r2⟩ := h1
  have fin1 : Hid _ := fun (A : Prop) (h : _ → A) => h hpr
  have hpb : 1 ≤ p ∧ p ≤ 4194305 := by omega
  obtain ⟨p1, p2⟩ := hpb
  clear hpr
  repeat (with_reducible first|(first|refine pI1 ?_|refine pS1 ?_);intros|refine pA1 ?_|refine pX1 ?_|refine pB1 ?_|exact True.intro)
  refine outM_call hP ?_
  clear hP
  rintro _ H2 ⟨rfl, l2, x2⟩
  have g2 : H2[b1]? = _ := (x2 b1 (by omega)).trans g1
  have y2 : ∀ b, b < H.length → H2[b]? = H[b]? := fun b hb => by rw [x2 b (by omega), x1 b (by omega)]
  clear x1 x2 g1
  repeat (with_reducible first|(first|refine pI1 ?_|refine pS1 ?_);intros|refine pA1 ?_|refine pX1 ?_|refine pB1 ?_|exact True.intro)
  refine outM_call s_within ?_
  rintro _ H2 ⟨rfl, rfl⟩
  by_cases h1 : 2 * p + r ≤ m ∧ m ≤ 16777216
  case neg =>
    repeat (with_reducible first|(first|refine pI1 ?_|refine pS1 ?_);intros|refine pA1 ?_|refine pX1 ?_|refine pB1 ?_|exact True.intro)
    exact ⟨by rw [dB_f (by omega)], by omega, y2⟩
  obtain ⟨m1, m2⟩ := h1
  repeat (with_reducible first|(first|refine pI1 ?_|refine pS1 ?_);intros|refine pA1 ?_|refine pX1 ?_|refine pB1 ?_|exact True.intro)
  refine outM_call s_within ?_
  rintro _ H2 ⟨rfl, rfl⟩
  by_cases h1 : 2 * p + r ≤ bo ∧ bo ≤ 16777216
  case neg =>
    repeat (with_reducible first|(first|refine pI1 ?_|refine pS1 ?_);intros|refine pA1 ?_|refine pX1 ?_|refine pB1 ?_|exact True.intro)
    exact ⟨by rw [dB_f (by omega)], by omega, y2⟩
  obtain ⟨o1, o2⟩ := h1
  repeat (with_reducible first|(first|refine pI1 ?_|refine pS1 ?_);intros|refine pA1 ?_|refine pX1 ?_|refine pB1 ?_|exact True.intro)
  refine outM_call s_within ?_
  rintro _ H2 ⟨rfl, rfl⟩
  by_cases h1 : 1 ≤ rj ∧ rj ≤ 8
  case neg =>
    repeat (with_reducible first|(first|refine pI1 ?_|refine pS1 ?_);intros|refine pA1 ?_|refine pX1 ?_|refine pB1 ?_|exact True.intro)
    exact ⟨by rw [dB_f (by omega)], by omega, y2⟩
  obtain ⟨j1, j2⟩ := h1
  repeat (with_reducible first|(first|refine pI1 ?_|refine pS1 ?_);intros|refine pA1 ?_|refine pX1 ?_|refine pB1 ?_|exact True.intro)
  refine outM_call s_within ?_
  rintro _ H2 ⟨rfl, rfl⟩
  by_cases h1 : 1 ≤ q ∧ q ≤ 16
  case neg =>
    repeat (with_reducible first|(first|refine pI1 ?_|refine pS1 ?_);intros|refine pA1 ?_|refine pX1 ?_|refine pB1 ?_|exact True.intro)
    exact ⟨by rw [dB_f (by omega)], by omega, y2⟩
  obtain ⟨q1, q2⟩ := h1
  repeat (with_reducible first|(first|refine pI1 ?_|refine pS1 ?_);intros|refine pA1 ?_|refine pX1 ?_|refine pB1 ?_|exact True.intro)
  exact ⟨by rw [dB_t ⟨d1, d2, r1, r2, m1, m2, o1, o2, j1, j2, q1, q2⟩], by omega, y2⟩
def up (k i : Nat) : List (Nat × Nat) := (List.range (k - i)).map fun j => (i + j, k)
def rest (n k : Nat) : List (Nat × Nat) := (List.range (n - k)).flatMap fun d => up (k + d) 0
theorem up_cons {k i : Nat} (h : i < k) : up k i = (i, k) :: up k (i + 1) := by
  unfold up
  obtain ⟨m, hm⟩ : ∃ m, k - i = m + 1 := ⟨k - i - 1, by omega⟩
  rw [hm, show k - (i + 1) = m by omega, List.range_succ_eq_map, List.map_cons, List.map_map]
  congr 1
  apply List.map_congr_left
  intro j _
  simp [Function.comp]; omega
theorem up_nil {k i : Nat} (h : k ≤ i) : up k i = [] := by unfold up; rw [show k - i = 0 by omega]; rfl
theorem rest_cons {n k : Nat} (h : k < n) : rest n k = up k 0 ++ rest n (k + 1) := by
  unfold rest
  obtain ⟨m, hm⟩ : ∃ m, n - k = m + 1 := ⟨n - k - 1, by omega⟩
  rw [hm, show n - (k + 1) = m by omega, List.range_succ_eq_map, List.flatMap_cons, List.flatMap_map]
  congr 1
  apply congrArg (fun f => List.flatMap f (List.range m))
  funext j
  simp [Function.comp]
  congr 1; omega
theorem rest_nil {n k : Nat} (h : n ≤ k) : rest n k = [] := by unfold rest; rw [show n - k = 0 by omega]; rfl
theorem rest_mem {n i k : Nat} (h1 : i < k) (h2 : k < n) : (i, k) ∈ rest n 0 := by
  unfold rest
  rw [List.mem_flatMap]
  refine ⟨k, List.mem_range.2 (by omega), ?_⟩
  unfold up
  rw [List.mem_map]
  exact ⟨i, List.mem_range.2 (by omega), by simp⟩
theorem rest_is {n i k : Nat} (h : (i, k) ∈ rest n 0) : i < k ∧ k < n := by
  unfold rest at h
  rw [List.mem_flatMap] at h
  obtain ⟨d, hd, h⟩ := h
  unfold up at h
  rw [List.mem_map] at h
  obtain ⟨j, hj, e⟩ := h
  rw [List.mem_range] at hd hj
  simp at e
  omega
def enp (p : Nat × Nat) : List V := [.c (.int .i64 (p.1 : Nat)), .c (.int .i64 (p.2 : Nat))]
theorem s_pairs {H : Heap} {x : Cell} : WC F fn_config_pairs [.c x] H fun v H' => ∃ b, v = .c (.fn fn_config_pairs_1 [] [(b, 0)]) ∧ H.length ≤ b ∧ b < H'.length ∧ H'[b]? = some (.cells [x] false none) ∧ Xt H H' := by
  refine WC_start e_config_pairs (by simp) ?_
  unfold c_config_pairs
  repeat (with_reducible first|(first|refine pI1 ?_|refine pS1 ?_);intros|refine pA1 ?_|refine pX1 ?_|refine pB1 ?_|exact True.intro)
  rename_i b1 H1 p1 g1 x1
  repeat (with_reducible first|(first|refine pI1 ?_|refine pS1 ?_);intros|refine pA1 ?_|refine pX1 ?_|refine pB1 ?_|exact True.intro)
  exact ⟨b1, rfl, by omega, by omega, g1, by omega, fun b hb => by simp (disch := first | with_reducible assumption | omega) only [go_sem, *, reduceCtorEq, ↓reduceIte, Nat.reduceLT, Nat.reduceBEq, Nat.reduceAdd, Nat.reduceSub, Nat.reduceMul, Nat.reduceDiv, Nat.reduceMod, Nat.reducePow, Nat.reduceEqDiff, Nat.reduceLeDiff, Int.reduceLT, Int.reduceLE, Int.reduceNeg, Int.reduceToNat, Int.reduceAdd, Int.reduceSub, Int.reduceMul, Int.reduceEq, Int.reduceNe, Int.reduceBEq, Int.reduceBNe, Int.reducePow]⟩
theorem it_pairs {b n : Nat} (M : Nat → Prop) (hn : n ≤ 100000) : IterM F fn_config_pairs_1 [] [(b, 0)] M (fun H => H[b]? = some (.cells [.int .i64 (n : Nat)] false none)) ((rest n 0).map enp) := by
  intro l H J E hP hM hlt hJ hE hr h0 hfin
  refine WC_start e_config_pairs_1 (by simp) ?_
  unfold c_config_pairs_1
  have fin0 : Hid _ := fun (A : Prop) (h : _ → _ → _ → A) => h hr h0 hfin
  clear hJ hE hr h0 hfin
  repeat (with_reducible first|(first|refine pI1 ?_|refine pS1 ?_);intros|refine pA1 ?_|refine pX1 ?_|refine pB1 ?_|exact True.intro)
  refine fin0 _ fun _ h0 _ => ?_
  refine W_loop (fun m st => ∃ ρ k Hk, st = ⟨L 20 ρ, [], Hk⟩ ∧ m = n - k ∧ k ≤ n ∧ ρ 0 = .c (.yld l) ∧ ρ 5 = .c (.int .i64 (n : Nat)) ∧ ρ 6 = .c (.int .i64 (k : Nat)) ∧ J ((rest n k).map enp) Hk) n ⟨_, 0, H, rfl, rfl, by omega, zf, zf, zf, h0⟩ ?_
  clear h0
  rintro m st ⟨ρ, k, Hk, rfl, rfl, hk, z0, z5, z6, hJk⟩
  unfold b_config_pairs_1_10
  by_cases hkn : k < n
  · have hxt : (k : Int) < (n : Int) := by omega
    rw [rest_cons hkn, List.map_append] at hJk
    have fin1 : Hid _ := fun (A : Prop) (h : _ → A) => h hJk
    clear hJk
    repeat (with_reducible first|(first|refine pI1 ?_|refine pS1 ?_);intros|refine pA1 ?_|refine pX1 ?_|refine pB1 ?_|exact True.intro)
    refine fin1 _ fun hJk => ?_
    refine W_loop (fun m st => ∃ ρ i Hk, st = ⟨L 20 ρ, [], Hk⟩ ∧ m = k - i ∧ i ≤ k ∧ ρ 0 = .c (.yld l) ∧ ρ 3 = .c (.int .i64 (k : Nat)) ∧ ρ 5 = .c (.int .i64 (n : Nat)) ∧ ρ 6 = .c (.int .i64 (k : Nat)) ∧ ρ 9 = .c (.int .i64 (k : Nat)) ∧ ρ 10 = .c (.int .i64 (i : Nat)) ∧ J ((up k i).map enp ++ (rest n (k + 1)).map enp) Hk) k ⟨_, 0, Hk, rfl, rfl, by omega, zf, zf, zf, zf, zf, zf, hJk⟩ ?_
    clear hJk fin1 z0 z5 z6
    rintro m st ⟨ρ, i, Hk, rfl, rfl, hi, z0, z3, z5, z6, z9, z10, hJk⟩
    unfold b_config_pairs_1_8
    by_cases hik : i < k
    · have hxt2 : (i : Int) < (k : Int) := by omega
      rw [up_cons hik, List.map_cons, List.cons_append] at hJk
      have hw := fin0 _ fun hr _ _ => hr _ _ _ hJk
      clear hJk
      repeat (with_reducible first|(first|refine pI1 ?_|refine pS1 ?_);intros|refine pA1 ?_|refine pX1 ?_|refine pB1 ?_|exact True.intro)
      refine outM_yld hw ?_
      clear hw
      rintro v H' ⟨u1, u2, ⟨rfl, u3⟩ | ⟨rfl, u3⟩⟩
      · clear u1
        repeat (with_reducible first|(first|refine pI1 ?_|refine pS1 ?_);intros|refine pA1 ?_|refine pX1 ?_|refine pB1 ?_|exact True.intro)
        exact loopQ_n (k - (i + 1)) (by omega) ⟨_, i + 1, H', rfl, rfl, by omega, zf, zf, zf, zf, zf, zf, u3⟩
      · clear u1
        repeat (with_reducible first|(first|refine pI1 ?_|refine pS1 ?_);intros|refine pA1 ?_|refine pX1 ?_|refine pB1 ?_|exact True.intro)
        exact u3
    · obtain rfl : i = k := by omega
      have hxt2 : ¬ (i : Int) < (i : Int) := by omega
      rw [up_nil (Nat.le_refl _), List.map_nil, List.nil_append] at hJk
      have fin1 : Hid _ := fun (A : Prop) (h : _ → A) => h hJk
      clear hJk
      repeat (with_reducible first|(first|refine pI1 ?_|refine pS1 ?_);intros|refine pA1 ?_|refine pX1 ?_|refine pB1 ?_|exact True.intro)
      exact loopQ_n (n - (i + 1)) (by omega) ⟨_, i + 1, Hk, rfl, rfl, by omega, zf, zf, zf, fin1 _ fun h => h⟩
  · obtain rfl : k = n := by omega
    have hxt : ¬ (k : Int) < (k : Int) := by omega
    rw [rest_nil (Nat.le_refl _), List.map_nil] at hJk
    have hend := fin0 _ fun _ _ hfin => hfin _ hJk
    clear hJk fin0
    repeat (with_reducible first|(first|refine pI1 ?_|refine pS1 ?_);intros|refine pA1 ?_|refine pX1 ?_|refine pB1 ?_|exact True.intro)
    exact hend
end Go.Proofs.Ytbgmbnikpjjmcaa.AM.D07
