/- What the document's functions of chapter 2 come to: windows, ports. -/
import Derived.Test.YtbgmbnikpjjmcaaD07C02m
set_option linter.unusedVariables false
set_option linter.unusedSimpArgs false
set_option linter.unusedSectionVars false
namespace Go.Proofs.Ytbgmbnikpjjmcaa.AM.D07
open Go Go.Proofs.Ytbgmbnikpjjmcaa.AM Go.Proofs.Ytbgmbnikpjjmcaa.AM.C02
set_option maxHeartbeats 2000000
set_option maxRecDepth 100000
attribute [local go_sem] tn_add1 tn_sub1 put_all' nums_len sub12 sub3 sub6
section
variable {N : Nat} {H : Heap} {c : Cfg} {h : Hd}
theorem s_rwins (hc : CfgM N H c h) (hN : N ≤ H.length) (hnd : 4 ≤ c.nodes ∧ c.nodes ≤ 16) (hps : c.parts.length ≤ 32) : WC F fn_rotaref02_windows [.agg (c.cells h)] H fun v H' => v = .c (.bool (dB c.okWins)) ∧ Xt H H' := by
  refine WC_start e_rotaref02_windows (by simp) ?_
  unfold c_rotaref02_windows Cfg.cells
  obtain ⟨n, hn⟩ : ∃ n, c.wins.length = n := ⟨_, rfl⟩
  obtain ⟨np, hnp⟩ : ∃ n, c.parts.length = n := ⟨_, rfl⟩
  rw [hn, hnp]
  rw [hnp] at hps
  obtain ⟨nd, hnd'⟩ : ∃ nd : Nat, c.nodes = nd := ⟨c.nodes.toNat, by omega⟩
  rw [hnd'] at hnd ⊢
  obtain ⟨n1, n2⟩ := hnd
  have fin0 : Hid _ := fun (A : Prop) (h : _ → _ → _ → _ → A) => h hc hn hnp hnd'
  clear hc hn hnp hnd'
  by_cases hlen : n = nd
  case neg =>
    have hlen' : ¬ (n : Int) = (nd : Int) := by omega
    have e : dB c.okWins = false := dB_f fun h => fin0 _ fun _ hn _ hnd => by have := h.1; omega
    rw [e]
    repeat (with_reducible first|(first|refine pI1 ?_|refine pS1 ?_);intros|refine pA1 ?_|refine pX1 ?_|refine pB1 ?_|exact True.intro)
    rename_i b1 H1 p1 g1 x1
    repeat (with_reducible first|(first|refine pI1 ?_|refine pS1 ?_);intros|refine pA1 ?_|refine pX1 ?_|refine pB1 ?_|exact True.intro)
    exact ⟨rfl, by omega, fun b hb => x1 b (by omega)⟩
  subst hlen
  repeat (with_reducible first|(first|refine pI1 ?_|refine pS1 ?_);intros|refine pA1 ?_|refine pX1 ?_|refine pB1 ?_|exact True.intro)
  rename_i b1 H1 p1 g1 x1
  have fx : Hid _ := fun (A : Prop) (h : _ → A) => h x1
  clear x1
  repeat (with_reducible first|(first|refine pI1 ?_|refine pS1 ?_);intros|refine pA1 ?_|refine pX1 ?_|refine pB1 ?_|exact True.intro)
  refine W_loop (fun m st => ∃ ρ, ∃ i : Nat, st = ⟨L 64 ρ, [], H1⟩ ∧ m = n - i ∧ i ≤ n ∧ ρ 1 = .c (.ptr (some (b1, 0))) ∧ ρ 3 = .c (.int .i64 (i : Nat)) ∧ ∀ (j : Nat) row, j < i → c.wins[j]? = some row → (row.length : Int) = c.nodes ∧ ∀ p ∈ row, c.okWin j p) n ⟨_, 0, rfl, rfl, by omega, zf, zf, fun j r hj => by omega⟩ ?_
  rintro m st ⟨ρ, i, rfl, rfl, hi, e1, e3, hall⟩
  unfold b_rotaref02_windows_15
  have fin1 : Hid _ := fun (A : Prop) (h : _ → A) => h hall
  clear hall
  by_cases hin : i < n
  · have hxt : (i : Int) < (n : Int) := by omega
    obtain ⟨la, y, a, cc, row, ea, hla, hld, hrow, hsl, hsN⟩ := fin0 _ fun hc hn _ _ => win_at hc (i := i) (by omega)
    rw [← fx _ fun x1 => x1 la (by omega)] at hld
    rw [ea] at g1
    have hsl1 : Sl H1 1 a row.length (nums row) := hsl.keep fun b x e => fx _ fun x1 => x1 b (by have := hsN b x e; omega)
    clear hsl
    obtain ⟨rl, hrl⟩ : ∃ rl, row.length = rl := ⟨_, rfl⟩
    rw [hrl] at hld hsl1
    have hbad : ¬ ((row.length : Int) = c.nodes ∧ ∀ p ∈ row, c.okWin i p) → dB c.okWins = false := fun h => dB_f fun h' => h (h'.2 i row hrow)
    have hnext : ((row.length : Int) = c.nodes ∧ ∀ p ∈ row, c.okWin i p) → ∀ (j : Nat) r, j < i + 1 → c.wins[j]? = some r → (r.length : Int) = c.nodes ∧ ∀ p ∈ r, c.okWin j p := fun h j r hj hr => by
      by_cases e : j = i
      · subst e; rw [hrow] at hr; cases hr; exact h
      · exact fin1 _ fun hall => hall j r (by omega) hr
    have f2 : Hid _ := fun (A : Prop) (h : _ → _ → _ → _ → _ → A) => h hbad hnext hsl1 hrl ea
    clear hbad hnext hsl1 hrow hsN ea
    by_cases hr : rl = n
    case neg =>
      have hr' : ¬ (rl : Int) = (n : Int) := by omega
      have e := f2 _ fun hbad _ _ _ _ => hbad fun h => hr (fin0 _ fun _ _ _ hnd => by have := h.1; omega)
      have fr : Hid _ := fun (A : Prop) (h : _ → A) => h hrl
      clear hrl
      rw [e]
      repeat (with_reducible first|(first|refine pI1 ?_|refine pS1 ?_);intros|refine pA1 ?_|refine pX1 ?_|refine pB1 ?_|exact True.intro)
      exact ⟨rfl, by omega, fx _ fun x1 b hb => x1 b (by omega)⟩
    subst hr
    have fr : Hid _ := fun (A : Prop) (h : _ → A) => h hrl
    clear hrl
    repeat (with_reducible first|(first|refine pI1 ?_|refine pS1 ?_);intros|refine pA1 ?_|refine pX1 ?_|refine pB1 ?_|exact True.intro)
    refine W_loop (fun m st => ∃ ρ, ∃ k : Nat, st = ⟨L 64 ρ, [], H1⟩ ∧ m = rl - k ∧ k ≤ rl ∧ ρ 1 = .c (.ptr (some (b1, 0))) ∧ ρ 3 = .c (.int .i64 (i : Nat)) ∧ ρ 4 = .c (.int .i64 (k : Nat)) ∧ ∀ j, j < k → c.okWin i (gn row j)) rl ⟨_, 0, rfl, rfl, by omega, zf, zf, zf, fun j hj => by omega⟩ ?_
    clear e1 e3
    rintro m st ⟨ρ, k, rfl, rfl, hk, e1, e3, e4, hwk⟩
    unfold b_rotaref02_windows_13
    have f3 : Hid _ := fun (A : Prop) (h : _ → A) => h hwk
    clear hwk
    by_cases hkn : k < rl
    · have hxk : (k : Int) < (rl : Int) := by omega
      obtain ⟨⟨lb, z⟩, eb⟩ := f2 _ fun _ _ hsl _ _ => hsl.is_some (by omega)
      have hld2 := f2 _ fun _ _ hsl hrl _ => Sl.gn (by rw [eb] at hsl; exact hsl) hrl hkn
      dsimp only at hld2
      rw [eb] at hld
      have hokw : c.okWin i (gn row k) ↔ (gn row k = -1 ∨ (0 ≤ gn row k ∧ gn row k < c.parts.length ∧ (c.part (gn row k)).node = i)) := Iff.rfl
      have hbad : ¬ c.okWin i (gn row k) → dB c.okWins = false := fun h => f2 _ fun hbad _ _ hrl _ => hbad fun h' => h (h'.2 _ (gn_mem (by omega)))
      have hnext : c.okWin i (gn row k) → ∀ j, j < k + 1 → c.okWin i (gn row j) := fun h j hj => by
        by_cases e : j = k
        · subst e; exact h
        · exact f3 _ fun h => h j (by omega)
      have hpart : 0 ≤ gn row k → gn row k < np → ∃ la y, h.a8 = some (la, y) ∧ la < N ∧ ldnB H[la]? (y + (gn row k).toNat * 3) 3 = some (c.part (gn row k)).cells := fun h0 h1 => fin0 _ fun hc _ hnp _ => by
        obtain ⟨la, y, q1, q2, q3, -⟩ := part_at hc (i := (gn row k).toNat) (by omega)
        rw [show ((gn row k).toNat : Int) = gn row k by omega] at q3
        exact ⟨la, y, q1, q2, q3⟩
      have hnpe : (c.parts.length : Int) = np := fin0 _ fun _ _ hnp _ => by rw [hnp]
      rw [hnpe] at hokw
      clear hnpe
      generalize c.okWin i (gn row k) = P at *
      generalize gn row k = u at *
      have f4 : Hid _ := fun (A : Prop) (h : _ → _ → _ → _ → _ → A) => h hbad hnext hokw eb hpart
      clear hbad hnext hokw eb hpart
      by_cases c1 : u = -1
      · have hP := f4 _ fun _ hnext hokw _ _ => hnext (hokw.2 (.inl c1))
        have fP : Hid _ := fun (A : Prop) (h : _ → _ → A) => h hP c1
        clear hP
        subst c1
        repeat (with_reducible first|(first|refine pI1 ?_|refine pS1 ?_);intros|refine pA1 ?_|refine pX1 ?_|refine pB1 ?_|exact True.intro)
        exact loopQ_n (rl - (k + 1)) (by omega) ⟨_, k + 1, rfl, rfl, by omega, zf, zf, zf, fP _ fun h _ => h⟩
      by_cases c2 : u < 0
      · have e := f4 _ fun hbad _ hokw _ _ => hbad fun h => by rcases hokw.1 h with h | h; exact c1 h; omega
        rw [e]
        repeat (with_reducible first|(first|refine pI1 ?_|refine pS1 ?_);intros|refine pA1 ?_|refine pX1 ?_|refine pB1 ?_|exact True.intro)
        exact ⟨rfl, by omega, fx _ fun x1 b hb => x1 b (by omega)⟩
      by_cases c3 : (np : Int) ≤ u
      · have e := f4 _ fun hbad _ hokw _ _ => hbad fun h => by rcases hokw.1 h with h | h; exact c1 h; omega
        rw [e]
        repeat (with_reducible first|(first|refine pI1 ?_|refine pS1 ?_);intros|refine pA1 ?_|refine pX1 ?_|refine pB1 ?_|exact True.intro)
        exact ⟨rfl, by omega, fx _ fun x1 b hb => x1 b (by omega)⟩
      obtain ⟨u, rfl⟩ : ∃ w : Nat, u = w := ⟨u.toNat, by omega⟩
      obtain ⟨la', y', ea', hla', hlp⟩ := f4 _ fun _ _ _ _ hp => hp (by omega) (by omega)
      rw [Int.toNat_natCast] at hlp
      have hlp1 := ld_of_ldn3 hlp
      rw [← fx _ fun x1 => x1 la' (by omega)] at hlp1
      rw [ea'] at g1
      clear hlp
      generalize (c.part (u : Nat)).node = pn at *
      have fe' := fun (A : Prop) (h : _ → A) => h ea'
      clear ea'
      by_cases c4 : pn = i
      · have hP := f4 _ fun _ hnext hokw _ _ => hnext (hokw.2 (.inr ⟨by omega, by omega, c4⟩))
        have fP : Hid _ := fun (A : Prop) (h : _ → _ → A) => h hP c4
        clear hP
        subst c4
        repeat (with_reducible first|(first|refine pI1 ?_|refine pS1 ?_);intros|refine pA1 ?_|refine pX1 ?_|refine pB1 ?_|exact True.intro)
        exact loopQ_n (rl - (k + 1)) (by omega) ⟨_, k + 1, rfl, rfl, by omega, zf, zf, zf, fP _ fun h _ => h⟩
      · have e := f4 _ fun hbad _ hokw _ _ => hbad fun h => by rcases hokw.1 h with h | h; exact c1 h; exact c4 h.2.2
        rw [e]
        repeat (with_reducible first|(first|refine pI1 ?_|refine pS1 ?_);intros|refine pA1 ?_|refine pX1 ?_|refine pB1 ?_|exact True.intro)
        exact ⟨rfl, by omega, fx _ fun x1 b hb => x1 b (by omega)⟩
    · obtain rfl : k = rl := by omega
      have hxk : ¬ (k : Int) < (k : Int) := by omega
      have hg := f2 _ fun _ hnext _ hrl _ => hnext ⟨fin0 _ fun _ _ _ hnd => by rw [hrl, hnd], fun p hp => by
        obtain ⟨j, hj, rfl⟩ := gn_of hp
        exact f3 _ fun h => h j (by omega)⟩
      have fg : Hid _ := fun (A : Prop) (h : _ → A) => h hg
      clear hg
      repeat (with_reducible first|(first|refine pI1 ?_|refine pS1 ?_);intros|refine pA1 ?_|refine pX1 ?_|refine pB1 ?_|exact True.intro)
      exact loopQ_n (k - (i + 1)) (by omega) ⟨_, i + 1, rfl, rfl, by omega, zf, zf, fg _ fun h => h⟩
  · obtain rfl : i = n := by omega
    have hxt : ¬ (i : Int) < (i : Int) := by omega
    have e : dB c.okWins = true := dB_t (fin0 _ fun _ hn _ hnd => ⟨by rw [hn, hnd], fun j row hr => fin1 _ fun hall => hall j row (by have := (List.getElem?_eq_some_iff.1 hr).1; omega) hr⟩)
    rw [e]
    repeat (with_reducible first|(first|refine pI1 ?_|refine pS1 ?_);intros|refine pA1 ?_|refine pX1 ?_|refine pB1 ?_|exact True.intro)
    exact ⟨rfl, by omega, fx _ fun x1 b hb => x1 b (by omega)⟩
end
end Go.Proofs.Ytbgmbnikpjjmcaa.AM.D07
