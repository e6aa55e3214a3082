/- What the functions of chapter 2 come to: windows, ports. -/
import Derived.Test.YtbgmbnikpjjmcaaD07C02c
set_option linter.unusedVariables false
set_option linter.unusedSimpArgs false
set_option linter.unusedSectionVars false
namespace Go.Proofs.Ytbgmbnikpjjmcaa.AM.D07
open Go Go.Proofs.Ytbgmbnikpjjmcaa.AM Go.Proofs.Ytbgmbnikpjjmcaa.AM.C02
set_option maxHeartbeats 2000000
set_option maxRecDepth 100000
attribute [local go_sem] tn_add1 tn_sub1 put_all' nums_len aop_mn aop_mx mnO_int mxO_int sub12 sub3
theorem ldB_of_ldnB {H : Heap} {la y : Nat} {x : Cell} (h : ldnB H[la]? y 1 = some [x]) : ldB H[la]? y = some x := by
  unfold ldnB at h
  unfold ldB
  generalize H[la]? = q at *
  split at h
  · unfold sub at h
    split at h
    · rename_i hl
      have h' := Option.some.inj h
      have := congrArg (fun (l : List Cell) => l[0]?) h'
      simpa using this
    · cases h
  · cases h
theorem win_at {N : Nat} {H : Heap} {c : Cfg} {h : Hd} (hc : CfgM N H c h) {i : Nat} (hi : i < c.wins.length) : ∃ la y a cc row, h.a9 = some (la, y) ∧ la < N ∧ ldB H[la]? (y + i) = some (.sl a row.length cc false) ∧ c.wins[i]? = some row ∧ Sl H 1 a row.length (nums row) ∧ (∀ b x, a = some (b, x) → b < N) := by
  obtain ⟨⟨la, y⟩, cs, e1, e2, e3, a, cc, rfl, e4, e5, -⟩ := hc.wins.at hi
  exact ⟨la, y, a, cc, _, e1, e2, ldB_of_ldnB (by rw [Nat.mul_one] at e3; exact e3), List.getElem?_eq_getElem hi, e4, e5⟩
theorem ld_of_ldn3 {H : Heap} {la y : Nat} {a b d : Cell} (h : ldnB H[la]? y 3 = some [a, b, d]) : ldB H[la]? y = some a := by
  unfold ldnB at h
  unfold ldB
  generalize H[la]? = q at *
  split at h
  · unfold sub at h
    split at h
    · have h' := Option.some.inj h
      have := congrArg (fun (l : List Cell) => l[0]?) h'
      simpa using this
    · cases h
  · cases h
theorem s_cwins {N : Nat} {H : Heap} {c : Cfg} {h : Hd} (hc : CfgM N H c h) (hN : N ≤ H.length) (hnd : 4 ≤ c.nodes ∧ c.nodes ≤ 16) (hps : c.parts.length ≤ 32) : WC F fn_config_windows [.agg (c.cells h)] H fun v H' => v = .c (.bool (dB c.okWins)) ∧ Xt H H' := by
  refine WC_start e_config_windows (by simp) ?_
  unfold c_config_windows Cfg.cells
  obtain ⟨n, hn⟩ : ∃ n, c.wins.length = n := ⟨_, rfl⟩
  obtain ⟨np, hnp⟩ : ∃ n, c.parts.length = n := ⟨_, rfl⟩
  rw [hn, hnp]
  rw [hnp] at hps
  obtain ⟨n1, n2⟩ := hnd
  have fin0 : Hid _ := fun (A : Prop) (h : _ → _ → _ → A) => h hc hn hnp
  clear hc hn hnp
  repeat (with_reducible first|(first|refine pI1 ?_|refine pS1 ?_);intros|refine pA1 ?_|refine pX1 ?_|refine pB1 ?_|exact True.intro)
  rename_i b1 H1 p1 g1 x1
  have fy1 : Hid _ := fun (A : Prop) (h : _ → A) => h x1
  clear x1
  by_cases hlen : (n : Int) = c.nodes
  case neg =>
    repeat (with_reducible first|(first|refine pI1 ?_|refine pS1 ?_);intros|refine pA1 ?_|refine pX1 ?_|refine pB1 ?_|exact True.intro)
    exact ⟨by rw [dB_f (fun h => hlen (by rw [← h.1]; exact fin0 _ fun _ hn _ => by omega))], by omega, fun b hb => fy1 _ fun x1 => x1 b (by omega)⟩
  repeat (with_reducible first|(first|refine pI1 ?_|refine pS1 ?_);intros|refine pA1 ?_|refine pX1 ?_|refine pB1 ?_|exact True.intro)
  refine W_loop (fun m st => ∃ ρ i, st = ⟨L 55 ρ, [], H1⟩ ∧ m = n - i ∧ i ≤ n ∧ ρ 1 = .c (.ptr (some (b1, 0))) ∧ ρ 14 = .c (.sl h.a9 n h.c9 false) ∧ ρ 15 = .c (.int .i64 (n : Nat)) ∧ ρ 16 = .c (.int .i64 (i : Nat)) ∧ ∀ (j : Nat) row, j < i → c.wins[j]? = some row → (row.length : Int) = c.nodes ∧ ∀ p ∈ row, c.okWin j p) n ⟨_, 0, rfl, by omega, by omega, zf, zf, zf, zf, fun j r hj => by omega⟩ ?_
  rintro m st ⟨ρ, i, rfl, rfl, hi, e1, e14, e15, e16, hall⟩
  unfold b_config_windows_16
  have fin1 : Hid _ := fun (A : Prop) (h : _ → A) => h hall
  clear hall
  by_cases hin : i < n
  · have hxt : (i : Int) < (n : Int) := by omega
    obtain ⟨la, y, ar, cr, row, ea, hla, hld, hrow, hsl, har⟩ := fin0 _ fun hc hn _ => win_at hc (i := i) (by omega)
    rw [← fy1 _ fun x1 => x1 la (by omega)] at hld
    have hsl1 : Sl H1 1 ar row.length (nums row) := hsl.keep fun b x e => fy1 _ fun x1 => x1 b (by have := har b x e; omega)
    obtain ⟨m, hm⟩ : ∃ m, row.length = m := ⟨_, rfl⟩
    rw [hm] at hld hsl1
    have fin2 : Hid _ := fun (A : Prop) (h : _ → _ → _ → A) => h hrow hsl1 hm
    rw [ea] at e14
    have fea : Hid _ := fun (A : Prop) (h : _ → A) => h ea
    clear ea hrow hsl hsl1 hm har
    by_cases hml : (m : Int) = c.nodes
    case neg =>
      repeat (with_reducible first|(first|refine pI1 ?_|refine pS1 ?_);intros|refine pA1 ?_|refine pX1 ?_|refine pB1 ?_|exact True.intro)
      exact ⟨by rw [dB_f (fun h => hml (by have := fin2 _ fun hrow _ hm => (h.2 i row hrow).1; have := fin2 _ fun _ _ hm => hm; omega))], by omega, fun b hb => fy1 _ fun x1 => x1 b (by omega)⟩
    repeat (with_reducible first|(first|refine pI1 ?_|refine pS1 ?_);intros|refine pA1 ?_|refine pX1 ?_|refine pB1 ?_|exact True.intro)
    refine W_loop (fun q st => ∃ ρ j, st = ⟨L 55 ρ, [], H1⟩ ∧ q = m - j ∧ j ≤ m ∧ ρ 1 = .c (.ptr (some (b1, 0))) ∧ ρ 3 = .c (.int .i64 (i : Nat)) ∧ ρ 14 = .c (.sl (some (la, y)) n h.c9 false) ∧ ρ 15 = .c (.int .i64 (n : Nat)) ∧ ρ 16 = .c (.int .i64 (i : Nat)) ∧ ρ 26 = .c (.sl ar m cr false) ∧ ρ 27 = .c (.int .i64 (m : Nat)) ∧ ρ 28 = .c (.int .i64 (j : Nat)) ∧ ∀ k, k < j → c.okWin i (gn row k)) m ⟨_, 0, rfl, by omega, by omega, zf, zf, zf, zf, zf, zf, zf, zf, fun k hk => by omega⟩ ?_
    clear e1 e14 e15 e16
    rintro q st ⟨ρ, j, rfl, rfl, hj, e1, e3, e14, e15, e16, e26, e27, e28, hrw⟩
    unfold b_config_windows_14
    have fin3 : Hid _ := fun (A : Prop) (h : _ → A) => h hrw
    clear hrw hld
    by_cases hjm : j < m
    · have hxt2 : (j : Int) < (m : Int) := by omega
      obtain ⟨⟨lr, yr⟩, rfl⟩ := (fin2 _ fun _ h _ => h).is_some (by omega)
      have hldr := fin2 _ fun _ h hm => Sl.gn h hm hjm
      dsimp only at hldr
      have hmem := fin2 _ fun _ _ hm => gn_mem (l := row) (i := j) (by omega)
      have hnot : ¬ c.okWin i (gn row j) → dB c.okWins = false := fun h => dB_f fun h' => h ((fin2 _ fun hrow _ _ => (h'.2 i row hrow).2) _ hmem)
      have hnext : c.okWin i (gn row j) → ∀ k, k < j + 1 → c.okWin i (gn row k) := fun h k hk => by
        by_cases e : k = j
        · subst e; exact h
        · exact fin3 _ fun h => h k (by omega)
      have hiff : c.okWin i (gn row j) ↔ (gn row j = -1 ∨ (0 ≤ gn row j ∧ gn row j < (np : Int) ∧ (c.part (gn row j)).node = i)) := by
        unfold Cfg.okWin
        rw [fin0 _ fun _ _ h => h]
      have hpt := fun hv : (0 ≤ gn row j ∧ gn row j ≤ (np : Int) - 1) => fin0 _ fun hc _ hnp => part_at hc (i := (gn row j).toNat) (by omega)
      generalize c.okWin i (gn row j) = P at *
      generalize gn row j = v at *
      have fin4 : Hid _ := fun (A : Prop) (h : _ → _ → _ → _ → A) => h hnot hnext hiff hpt
      clear hnot hnext hiff hpt hmem fin3
      by_cases hv1 : v = -1
      · have hP : P := fin4 _ fun _ _ h _ => h.2 (.inl hv1)
        repeat (with_reducible first|(first|refine pI1 ?_|refine pS1 ?_);intros|refine pA1 ?_|refine pX1 ?_|refine pB1 ?_|exact True.intro)
        exact loopQ_n (m - (j + 1)) (by omega) ⟨_, j + 1, rfl, rfl, by omega, zf, zf, zf, zf, zf, zf, zf, zf, fin4 _ fun _ h _ _ => h hP⟩
      · by_cases hv2 : 0 ≤ v ∧ v ≤ (np : Int) - 1
        · obtain ⟨lp, yp, ea8, hlp, hldp, -⟩ := fin4 _ fun _ _ _ h => h hv2
          obtain ⟨v1, v2⟩ := hv2
          have hcast : ((v.toNat : Nat) : Int) = v := by omega
          rw [hcast, ← fy1 _ fun x1 => x1 lp (by omega)] at hldp
          have hldn := ld_of_ldn3 hldp
          have g1' := g1
          rw [ea8] at g1'
          have fg : Hid _ := fun (A : Prop) (h : _ → A) => h g1
          have hvt : v.toNat < np := by omega
          clear hldp ea8 hcast g1
          generalize hpn : (c.part v).node = pn at *
          have hiff := fin4 _ fun _ _ h _ => h
          by_cases hv3 : pn = (i : Int)
          · have hP : P := hiff.2 (.inr ⟨v1, by omega, hv3⟩)
            clear hiff hpn
            repeat (with_reducible first|(first|refine pI1 ?_|refine pS1 ?_);intros|refine pA1 ?_|refine pX1 ?_|refine pB1 ?_|exact True.intro)
            refine outM_call s_within ?_
            rintro _ H1 ⟨rfl, rfl⟩
            repeat (with_reducible first|(first|refine pI1 ?_|refine pS1 ?_);intros|refine pA1 ?_|refine pX1 ?_|refine pB1 ?_|exact True.intro)
            exact loopQ_n (m - (j + 1)) (by omega) ⟨_, j + 1, rfl, rfl, by omega, zf, zf, zf, zf, zf, zf, zf, zf, fin4 _ fun _ h _ _ => h hP⟩
          · have hP : ¬ P := fun h => by
              rcases hiff.1 h with e | e
              · exact hv1 e
              · exact hv3 e.2.2
            clear hiff hpn
            repeat (with_reducible first|(first|refine pI1 ?_|refine pS1 ?_);intros|refine pA1 ?_|refine pX1 ?_|refine pB1 ?_|exact True.intro)
            refine outM_call s_within ?_
            rintro _ H1 ⟨rfl, rfl⟩
            repeat (with_reducible first|(first|refine pI1 ?_|refine pS1 ?_);intros|refine pA1 ?_|refine pX1 ?_|refine pB1 ?_|exact True.intro)
            exact ⟨by rw [fin4 _ fun h _ _ _ => h hP], by omega, fun b hb => fy1 _ fun x1 => x1 b (by omega)⟩
        · have hP : ¬ P := fun h => by
            have hiff := fin4 _ fun _ _ h _ => h
            rcases hiff.1 h with e | e
            · exact hv1 e
            · exact hv2 ⟨e.1, by omega⟩
          repeat (with_reducible first|(first|refine pI1 ?_|refine pS1 ?_);intros|refine pA1 ?_|refine pX1 ?_|refine pB1 ?_|exact True.intro)
          refine outM_call s_within ?_
          rintro _ H1 ⟨rfl, rfl⟩
          repeat (with_reducible first|(first|refine pI1 ?_|refine pS1 ?_);intros|refine pA1 ?_|refine pX1 ?_|refine pB1 ?_|exact True.intro)
          exact ⟨by rw [fin4 _ fun h _ _ _ => h hP], by omega, fun b hb => fy1 _ fun x1 => x1 b (by omega)⟩
    · obtain rfl : j = m := by omega
      have hxt2 : ¬ (j : Int) < (j : Int) := by omega
      repeat (with_reducible first|(first|refine pI1 ?_|refine pS1 ?_);intros|refine pA1 ?_|refine pX1 ?_|refine pB1 ?_|exact True.intro)
      exact loopQ_n (n - (i + 1)) (by omega) ⟨_, i + 1, rfl, rfl, by omega, zf, by rw [fea _ fun e => e]; simp (disch := first | with_reducible assumption | omega) only [go_sem, *, reduceCtorEq, ↓reduceIte, Nat.reduceLT, Nat.reduceBEq, Nat.reduceAdd, Nat.reduceSub, Nat.reduceMul, Nat.reduceDiv, Nat.reduceMod, Nat.reducePow, Nat.reduceEqDiff, Nat.reduceLeDiff, Int.reduceLT, Int.reduceLE, Int.reduceNeg, Int.reduceToNat, Int.reduceAdd, Int.reduceSub, Int.reduceMul, Int.reduceEq, Int.reduceNe, Int.reduceBEq, Int.reduceBNe, Int.reducePow]; first | done | rfl, zf, zf, fun k r hk hr => by
        by_cases e : k = i
        · subst e
          obtain rfl : r = row := by have := fin2 _ fun h _ _ => h; rw [this] at hr; cases hr; rfl
          have hm := fin2 _ fun _ _ h => h
          refine ⟨by omega, fun p hp => ?_⟩
          obtain ⟨t, ht, rfl⟩ := gn_of hp
          exact fin3 _ fun h => h t (by omega)
        · exact fin1 _ fun h => h k r (by omega) hr⟩
  · obtain rfl : i = n := by omega
    have hxt : ¬ (i : Int) < (i : Int) := by omega
    repeat (with_reducible first|(first|refine pI1 ?_|refine pS1 ?_);intros|refine pA1 ?_|refine pX1 ?_|refine pB1 ?_|exact True.intro)
    have hT : c.okWins := ⟨by have := fin0 _ fun _ hn _ => hn; omega, fun k r hr => by
      have hk : k < c.wins.length := by
        have := (List.getElem?_eq_some_iff.1 hr).1; exact this
      have := fin0 _ fun _ hn _ => hn
      exact fin1 _ fun h => h k r (by omega) hr⟩
    exact ⟨by rw [dB_t hT], by omega, fun b hb => fy1 _ fun x1 => x1 b (by omega)⟩
end Go.Proofs.Ytbgmbnikpjjmcaa.AM.D07
