/- What the functions of chapter 2 come to: all links; the check. -/
import Derived.Test.YtbgmbnikpjjmcaaD07C02h
set_option linter.unusedVariables false
set_option linter.unusedSimpArgs false
set_option linter.unusedSectionVars false
namespace Go.Proofs.Ytbgmbnikpjjmcaa.AM.D07
open Go Go.Proofs.Ytbgmbnikpjjmcaa.AM Go.Proofs.Ytbgmbnikpjjmcaa.AM.C02
set_option maxHeartbeats 2000000
set_option maxRecDepth 100000
attribute [local go_sem] tn_add1 tn_sub1 put_all' nums_len aop_mn aop_mx mnO_int mxO_int sub12 sub3 sub6 rep6
set_option maxHeartbeats 20000000
theorem mkslO_tkn {H : Heap} {m : Nat} (h : m ≤ 1000000) : mkslO 1 8 [Cell.int .i64 0] (.c (.int .i64 (m : Nat))) (.c (.int .i64 (m : Nat))) H = some (.v (.c (.sl (some (H.length, 0)) m m false)), H ++ [.cells (nums (tkn m [])) false none]) := by
  have e := mkslO_int (H := H) (sz := 1) (by_ := 8) (z := [Cell.int .i64 0]) (i := .i64) (i' := .i64) (l := (m : Nat)) (c := (m : Nat)) ⟨by omega, by omega, by omega⟩ rfl
  rw [e, Int.toNat_natCast, tkn_0]
attribute [local go_sem high] mkslO_tkn
theorem s_clinks {N : Nat} {H : Heap} {c : Cfg} {h : Hd} (hc : CfgM N H c h) (hN : N ≤ H.length) (hps : c.okParts) (hpt : c.okPorts) : WC F fn_config_links [.agg (c.cells h)] H fun v H' => v = .c (.bool (dB c.okLinks)) ∧ Xt H H' := by
  refine WC_start e_config_links (by simp) ?_
  unfold c_config_links Cfg.cells
  obtain ⟨n, hn⟩ : ∃ n, c.links.length = n := ⟨_, rfl⟩
  obtain ⟨m, hm⟩ : ∃ m, c.ports.length = m := ⟨_, rfl⟩
  obtain ⟨np, hnp⟩ : ∃ n, c.parts.length = n := ⟨_, rfl⟩
  rw [hn, hm, hnp]
  have hm64 : m ≤ 64 := by have := hpt.1; omega
  have fin0 : Hid _ := fun (A : Prop) (h : _ → _ → _ → _ → _ → _ → A) => h hc hn hm hnp hps hpt
  clear hc hn hm hnp hps hpt
  repeat (with_reducible first|(first|refine pI1 ?_|refine pS1 ?_);intros|refine pA1 ?_|refine pX1 ?_|refine pB1 ?_|exact True.intro)
  rename_i b1 H1 p1 g1 x1 b2 H2 p2 g2 x2
  by_cases hbig : 64 < (n : Int)
  · repeat (with_reducible first|(first|refine pI1 ?_|refine pS1 ?_);intros|refine pA1 ?_|refine pX1 ?_|refine pB1 ?_|exact True.intro)
    rename_i H3 l3 g3 x3
    repeat (with_reducible first|(first|refine pI1 ?_|refine pS1 ?_);intros|refine pA1 ?_|refine pX1 ?_|refine pB1 ?_|exact True.intro)
    exact ⟨by rw [dB_f (fun h => by have := h.1; have := fin0 _ fun _ hn _ _ _ _ => hn; omega)], by omega, fun b hb => by rw [x3 b (by omega), x2 b (by omega), x1 b (by omega)]⟩
  have hn64 : n ≤ 64 := by omega
  have g12 : H2[b1]? = _ := (x2 b1 (by omega)).trans g1
  have y2 : Xt H H2 := ⟨by omega, fun b hb => by rw [x2 b (by omega), x1 b (by omega)]⟩
  have fy2 : Hid _ := fun (A : Prop) (h : _ → A) => h y2
  clear x1 x2 g1 y2
  repeat (with_reducible first|(first|refine pI1 ?_|refine pS1 ?_);intros|refine pA1 ?_|refine pX1 ?_|refine pB1 ?_|exact True.intro)
  rename_i b3 H3 p3 g3 x3
  have g13 : H3[b1]? = _ := (x3 b1 (by omega)).trans g12
  have g23 : H3[b2]? = _ := (x3 b2 (by omega)).trans g2
  have y3 : Xt H H3 := ⟨by omega, fun b hb => by rw [x3 b (by omega)]; exact fy2 _ fun y => y.2 b hb⟩
  have fy3 : Hid _ := fun (A : Prop) (h : _ → A) => h y3
  clear x3 g12 g2 y3 fy2
  repeat (with_reducible first|(first|refine pI1 ?_|refine pS1 ?_);intros|refine pA1 ?_|refine pX1 ?_|refine pB1 ?_|exact True.intro)
  refine W_loop (fun q st => ∃ ρ i Hk, st = ⟨L 195 ρ, [], Hk⟩ ∧ q = n - i ∧ i ≤ n ∧ ρ 1 = .c (.ptr (some (b1, 0))) ∧ ρ 2 = .c (.ptr (some (b2, 0))) ∧ ρ 3 = .c (.sl (some (b3, 0)) m m false) ∧ ρ 27 = .c (.sl h.a11 n h.c11 false) ∧ ρ 28 = .c (.int .i64 (n : Nat)) ∧ ρ 29 = .c (.int .i64 (i : Nat)) ∧ LkOk c i ∧ H3.length ≤ Hk.length ∧ (∀ b, b < H3.length → b ≠ b3 → Hk[b]? = H3[b]?) ∧ Hk[b3]? = some (.cells (nums (tkn m (Cfg.used (c.links.take i)))) false none)) n ⟨_, 0, H3, rfl, rfl, by omega, zf, zf, zf, zf, zf, zf, ⟨fun j hj => by omega, fun x => by simp [Cfg.used]⟩, Nat.le_refl _, fun _ _ _ => rfl, g3⟩ ?_
  clear g3
  rintro q st ⟨ρ, i, Hk, rfl, rfl, hi, e1, e2, e3, e27, e28, e29, hlk, lk, xk, k3⟩
  unfold b_config_links_22
  have k1 : Hk[b1]? = _ := (xk b1 (by omega) (by omega)).trans g13
  have k2 : Hk[b2]? = _ := (xk b2 (by omega) (by omega)).trans g23
  have yk : ∀ b, b < H.length → Hk[b]? = H[b]? := fun b hb => by rw [xk b (by omega) (by omega)]; exact fy3 _ fun y => y.2 b hb
  by_cases hin : i < n
  · have hxt : (i : Int) < (n : Int) := by omega
    obtain ⟨la, y, ad, cd, ea, hla, hld, had, hadN, hmem, hndb⟩ := fin0 _ fun hc hn _ _ _ _ => link_at hc (i := i) (by omega)
    rw [← yk la (by omega)] at hld
    have hi' : i < c.links.length := fin0 _ fun _ hn _ _ _ _ => by omega
    obtain ⟨nd, hnd⟩ : ∃ nd, (c.link i).dests.length = nd := ⟨_, rfl⟩
    rw [hnd] at hld had hndb
    have hsrc : c.okSrc (c.link i) ↔ ((0 ≤ (c.link i).src ∧ (c.link i).src < (m : Int)) ∧ (c.port (c.link i).src).dir = 1 ∧ nd ≠ 0 ∧ 0 ≤ (c.link i).off ∧ (c.link i).off ≤ 63 - (c.port (c.link i).src).size) := by
      unfold Cfg.okSrc Cfg.isP
      rw [fin0 _ fun _ _ hm _ _ _ => hm]
      have : (c.link i).dests ≠ [] ↔ nd ≠ 0 := by rw [← hnd]; simp
      rw [this]
    have hisP : c.isP (c.link i).src ↔ (0 ≤ (c.link i).src ∧ (c.link i).src < (m : Int)) := by unfold Cfg.isP; rw [fin0 _ fun _ _ hm _ _ _ => hm]
    have hsize : 0 ≤ (c.link i).src → (c.link i).src < (m : Int) → 1 ≤ (c.port (c.link i).src).size ∧ (c.port (c.link i).src).size ≤ 32 := fun h1 h2 => fin0 _ fun _ _ hm _ _ hpt => by
      have hmem2 : c.port (c.link i).src ∈ c.ports := by
        unfold Cfg.port
        rw [List.getD_eq_getElem?_getD, List.getElem?_eq_getElem (show (c.link i).src.toNat < c.ports.length by omega), Option.getD_some]
        exact List.getElem_mem _
      have := (hpt.2 _ hmem2).1
      exact ⟨this.2.2.1, this.2.2.2.1⟩
    have hno0 : (¬ c.okSrc (c.link i) ∨ 0 < cn (c.link i).src (Cfg.used (c.links.take i))) → ¬ c.okLinks := no_src hi'
    have hcp : ∀ Hx : Heap, (∀ b, b < N → Hx[b]? = H[b]?) → N ≤ Hx.length → _ := fun Hx hx hl => s_port (n := (c.link i).src) (fin0 _ fun hc _ _ _ _ _ => hc.keep (H' := Hx) hx) hl (fin0 _ fun _ _ hm _ _ _ => by omega)
    unfold Cfg.cells at hcp
    rw [fin0 _ fun _ _ hm _ _ _ => hm, fin0 _ fun _ hn _ _ _ _ => hn, fin0 _ fun _ _ _ hnp _ _ => hnp] at hcp
    have hU : ∃ U, U = Cfg.used (c.links.take i) := ⟨_, rfl⟩
    obtain ⟨U, hU⟩ := hU
    obtain ⟨src, hsr⟩ : ∃ s, s = (c.link i).src := ⟨_, rfl⟩
    obtain ⟨off, hof⟩ : ∃ s, s = (c.link i).off := ⟨_, rfl⟩
    have hget : 0 ≤ src → src < (m : Int) → (nums (tkn m U))[src.toNat]? = some (.int .i64 ((cn src U : Nat) : Int)) := fun h1 h2 => by
      rw [nums_get (by rw [tkn_len]; omega), tkn_gn (by omega), show ((src.toNat : Nat) : Int) = src by omega]
    have hset : 0 ≤ src → src < (m : Int) → (nums (tkn m U)).set src.toNat (.int .i64 (((cn src U : Nat) : Int) + 1)) = nums (tkn m (U ++ [src])) := fun h1 h2 => by
      have := tkn_set (m := m) (U := U) (k := src.toNat) (by omega)
      rwa [show ((src.toNat : Nat) : Int) = src by omega] at this
    have hcl : (nums (tkn m U)).length = m := by rw [nums_len, tkn_len]
    rw [← hU] at k3
    rw [← hsr] at hld hsrc hisP
    rw [← hof] at hld hsrc
    rw [← hsr] at hno0 hcp hsize
    rw [← hU] at hno0
    rw [ea] at e27
    have fea : Hid _ := fun (A : Prop) (h : _ → A) => h ea
    have hDest := fun hs : c.okSrc (c.link i) => fun hx : cn src U = 0 => DsOk.start (c := c) (i := i) hlk hs (by rw [← hsr, ← hU]; exact hx)
    generalize c.okSrc (c.link i) = P at *
    have fin1 : Hid _ := fun (A : Prop) (h : _ → _ → _ → _ → _ → _ → _ → _ → A) => h hsrc hisP hsize hno0 hcp hget hset hDest
    have fin2 : Hid _ := fun (A : Prop) (h : _ → _ → _ → _ → _ → _ → _ → _ → _ → _ → A) => h hlk xk yk had hadN hnd hU hsr hof hi'
    have lb1 := lt_of_get k1
    have hlk3 := lt_of_get k3
    clear hsrc hisP hsize hno0 hcp hget hset hDest hlk xk yk had hadN hnd hU hsr hof hi' hmem ea g13 g23
    have lk0 : H3.length ≤ Hk.length := lk
    repeat (with_reducible first|(first|refine pI1 ?_|refine pS1 ?_);intros|refine pA1 ?_|refine pX1 ?_|refine pB1 ?_|exact True.intro)
    rename_i b5 H5 p5 g5 x5 H6 l6 g6 x6
    have z6 : ∀ b, b < Hk.length → H6[b]? = Hk[b]? := fun b hb => by rw [x6 b (by omega), x5 b (by omega)]
    have m1 : H6[b1]? = _ := (z6 b1 (by omega)).trans k1
    have m2 : H6[b2]? = _ := (z6 b2 (by omega)).trans k2
    have m3 : H6[b3]? = _ := (z6 b3 (by omega)).trans k3
    have y6 : ∀ b, b < H.length → H6[b]? = H[b]? := fun b hb => (z6 b (by omega)).trans (fin2 _ fun _ _ yk _ _ _ _ _ _ _ => yk b hb)
    have f6 : Hid _ := fun (A : Prop) (h : _ → _ → A) => h z6 y6
    clear x5 x6 z6 y6 g5 k1 k2 k3 hld
    have hcp := fin1 _ fun _ _ _ _ hcp _ _ _ => hcp
    refine outM_call (hcp H6 (fun b hb => f6 _ fun _ y => y b (by omega)) (by omega)) ?_
    clear hcp
    rintro _ H7 ⟨⟨p, rfl, hp⟩, l7, x7⟩
    have m17 : H7[b1]? = _ := (x7 b1 (by omega)).trans m1
    have m27 : H7[b2]? = _ := (x7 b2 (by omega)).trans m2
    have m37 : H7[b3]? = _ := (x7 b3 (by omega)).trans m3
    have m57 : H7[b5]? = _ := (x7 b5 (by omega)).trans g6
    obtain ⟨p1, p2, p3, p4, p5_, p6⟩ := p
    dsimp only [Pt.cells]
    have y7 : ∀ b, b < H.length → H7[b]? = H[b]? := fun b hb => (x7 b (by omega)).trans (f6 _ fun _ y => y b hb)
    have w7 : ∀ b, b < H3.length → b ≠ b3 → H7[b]? = H3[b]? := fun b hb hne => by rw [x7 b (by omega), f6 _ fun z _ => z b (by omega)]; exact fin2 _ fun _ xk _ _ _ _ _ _ _ _ => xk b hb hne
    have f7 : Hid _ := fun (A : Prop) (h : _ → _ → _ → A) => h hp y7 w7
    clear hp x7 m1 m2 m3 g6 y7 w7
    have hl7 : H6.length ≤ H7.length := l7
    by_cases hv1 : 0 ≤ src ∧ src ≤ (m : Int) - 1
    case neg =>
      have hP : ¬ P := fun h => hv1 (by have := ((fin1 _ fun hs _ _ _ _ _ _ _ => hs).1 h).1; omega)
      rw [decide_eq_false hv1]
      repeat (with_reducible first|(first|refine pI1 ?_|refine pS1 ?_);intros|refine pA1 ?_|refine pX1 ?_|refine pB1 ?_|exact True.intro)
      rename_i b8 H8 q8 g8 x8 H9 l9 g9 x9 H10 l10 g10 x10
      exact ⟨by rw [dB_f (fin1 _ fun _ _ _ hn _ _ _ _ => hn (.inl hP))], by omega, fun b hb => by rw [x10 b (by omega), x9 b (by omega), x8 b (by omega)]; exact f7 _ fun _ y _ => y b hb⟩
    rw [decide_eq_true hv1]
    obtain ⟨v1, v2⟩ := hv1
    have hpe := f7 _ fun hp _ _ => hp ((fin1 _ fun _ hi _ _ _ _ _ _ => hi).2 ⟨v1, by omega⟩)
    have hsz := fin1 _ fun _ _ hs _ _ _ _ _ => hs v1 (by omega)
    have hsr := fin1 _ fun hs _ _ _ _ _ _ _ => hs
    have hpe' : (⟨p1, p2, p3, p4, p5_, p6⟩ : Pt) = c.port src := hpe
    rw [← hpe'] at hsz
    rw [← hpe'] at hsr
    dsimp only at hsz hsr
    obtain ⟨sz1, sz2⟩ := hsz
    have hPi : P ↔ (p3 = 1 ∧ nd ≠ 0 ∧ 0 ≤ off ∧ off ≤ 63 - p4) := by
      rw [hsr]
      constructor
      · rintro ⟨_, h1, h2, h3, h4⟩; exact ⟨h1, h2, h3, h4⟩
      · rintro ⟨h1, h2, h3, h4⟩; exact ⟨⟨v1, by omega⟩, h1, h2, h3, h4⟩
    have f8 : Hid _ := fun (A : Prop) (h : _ → _ → A) => h hPi hpe'
    clear hpe hpe' hsr hPi
    by_cases c1 : p3 = 1
    case neg =>
      have hP : ¬ P := fun h => c1 (f8 _ fun hi _ => (hi.1 h).1)
      repeat (with_reducible first|(first|refine pI1 ?_|refine pS1 ?_);intros|refine pA1 ?_|refine pX1 ?_|refine pB1 ?_|exact True.intro)
      rename_i b8 H8 q8 g8 x8 H9 l9 g9 x9 H10 l10 g10 x10
      exact ⟨by rw [dB_f (fin1 _ fun _ _ _ hn _ _ _ _ => hn (.inl hP))], by omega, fun b hb => by rw [x10 b (by omega), x9 b (by omega), x8 b (by omega)]; exact f7 _ fun _ y _ => y b hb⟩
    by_cases c2 : nd = 0
    · have hP : ¬ P := fun h => (f8 _ fun hi _ => (hi.1 h).2.1) c2
      have c2' : (nd : Int) = 0 := by omega
      repeat (with_reducible first|(first|refine pI1 ?_|refine pS1 ?_);intros|refine pA1 ?_|refine pX1 ?_|refine pB1 ?_|exact True.intro)
      rename_i b8 H8 q8 g8 x8 H9 l9 g9 x9 H10 l10 g10 x10
      exact ⟨by rw [dB_f (fin1 _ fun _ _ _ hn _ _ _ _ => hn (.inl hP))], by omega, fun b hb => by rw [x10 b (by omega), x9 b (by omega), x8 b (by omega)]; exact f7 _ fun _ y _ => y b hb⟩
    have c2' : ¬ (nd : Int) = 0 := by omega
    subst c1
    repeat (with_reducible first|(first|refine pI1 ?_|refine pS1 ?_);intros|refine pA1 ?_|refine pX1 ?_|refine pB1 ?_|exact True.intro)
    rename_i b8 H8 q8 g8 x8 H9 l9 g9 x9
    have z9 : ∀ b, b < H7.length → H9[b]? = H7[b]? := fun b hb => by rw [x9 b (by omega), x8 b (by omega)]
    have m19 : H9[b1]? = _ := (z9 b1 (by omega)).trans m17
    have m29 : H9[b2]? = _ := (z9 b2 (by omega)).trans m27
    have m39 : H9[b3]? = _ := (z9 b3 (by omega)).trans m37
    have m59 : H9[b5]? = _ := (z9 b5 (by omega)).trans m57
    have f9 : Hid _ := fun (A : Prop) (h : _ → A) => h z9
    clear x8 x9 z9 m17 m27 m37 m57 g8
    refine outM_call s_within ?_
    rintro _ H9 ⟨rfl, rfl⟩
    by_cases c3 : 0 ≤ off ∧ off ≤ 63 - p4
    case neg =>
      have hP : ¬ P := fun h => c3 (f8 _ fun hi _ => (hi.1 h).2.2)
      rw [decide_eq_false c3]
      repeat (with_reducible first|(first|refine pI1 ?_|refine pS1 ?_);intros|refine pA1 ?_|refine pX1 ?_|refine pB1 ?_|exact True.intro)
      rename_i H10 l10 g10 x10
      exact ⟨by rw [dB_f (fin1 _ fun _ _ _ hn _ _ _ _ => hn (.inl hP))], by omega, fun b hb => by rw [x10 b (by omega), f9 _ fun z => z b (by omega)]; exact f7 _ fun _ y _ => y b hb⟩
    have hP : P := (f8 _ fun hi _ => hi.2 ⟨rfl, c2, c3⟩)
    rw [decide_eq_true c3]
    obtain ⟨c3, c4⟩ := c3
    have hgt := fin1 _ fun _ _ _ _ _ hg _ _ => hg v1 (by omega)
    have hvm : src.toNat < m := by omega
    have hcnb : cn src U ≤ U.length := List.countP_le_length
    by_cases hcn : (0 : Int) < ((cn src U : Nat) : Int)
    · repeat (with_reducible first|(first|refine pI1 ?_|refine pS1 ?_);intros|refine pA1 ?_|refine pX1 ?_|refine pB1 ?_|exact True.intro)
      rename_i H10 l10 g10 x10
      exact ⟨by rw [dB_f (fin1 _ fun _ _ _ hn _ _ _ _ => hn (.inr (by omega)))], by omega, fun b hb => by rw [x10 b (by omega), f9 _ fun z => z b (by omega)]; exact f7 _ fun _ y _ => y b hb⟩
    have hcz : cn src U = 0 := by omega
    have hds := fin1 _ fun _ _ _ _ _ _ _ hD => hD hP hcz
    have hst := fin1 _ fun _ _ _ _ _ _ hs _ => hs v1 (by omega)
    rw [hcz] at hgt hst
    have hgt : (nums (tkn m U))[src.toNat]? = some (.int .i64 0) := hgt
    have hst : (nums (tkn m U)).set src.toNat (.int .i64 1) = nums (tkn m (U ++ [src])) := hst
    have fa : Hid _ := fun (A : Prop) (h : _ → _ → A) => h hds hst
    clear hcn hcz hds hst hcnb
    repeat (with_reducible first|(first|refine pI1 ?_|refine pS1 ?_);intros|refine pA1 ?_|refine pX1 ?_|refine pB1 ?_|exact True.intro)
    rename_i H10 l10 g10 x10
    have n1 : H10[b1]? = _ := (x10 b1 (by omega)).trans m19
    have n2 : H10[b2]? = _ := (x10 b2 (by omega)).trans m29
    have n5 : H10[b5]? = _ := (x10 b5 (by omega)).trans m59
    have n6 : H10[b8]? = _ := (x10 b8 (by omega)).trans g9
    have y10 : ∀ b, b < H.length → H10[b]? = H[b]? := fun b hb => by rw [x10 b (by omega), f9 _ fun z => z b (by omega)]; exact f7 _ fun _ y _ => y b hb
    have w10 : ∀ b, b < H3.length → b ≠ b3 → H10[b]? = H3[b]? := fun b hb hne => by rw [x10 b hne, f9 _ fun z => z b (by omega)]; exact f7 _ fun _ _ w => w b hb hne
    have hsrc := fin2 _ fun _ _ _ _ _ _ _ h _ _ => h
    have hoff := fin2 _ fun _ _ _ _ _ _ _ _ h _ => h
    have hUU := fin2 _ fun _ _ _ _ _ _ h _ _ _ => h
    have g10' : H10[b3]? = some (.cells (nums (tkn m (Cfg.used (c.links.take i) ++ [(c.link i).src]))) false none) := by
      rw [← hUU, ← hsrc, ← fa _ fun _ h => h]; exact g10
    refine fin0 _ fun hc hn hm hnp _ _ => fin2 _ fun _ _ _ had hadN hnd _ _ _ hi' => ?_
    have hn1 : H10[b1]? = some (.cells (c.cells h) false none) := by
      unfold Cfg.cells
      rw [hn, hm, hnp]; exact n1
    refine W_dest (n := 0) (N := N) (H0 := H) (h := h) (C := c.cells h) (s := ⟨p1, p2, 1, p4, p5_, p6⟩) (b5 := b5) (b6 := b8) (nd := nd) (cd := cd) (ad := ad) (C5 := [.int .i64 src, .sl ad nd cd false, .int .i64 off]) hc (by omega) rfl (fun b hb => y10 b (by omega)) hm hm64 hi' hnd (by omega) hndb (by rw [← hsrc]; exact f8 _ fun _ h => h) (by rw [hsrc, hoff]) (had.keep fun b x e => y10 b (by have := hadN b x e; omega)) hadN hn1 n2 g10' n5 n6 (by omega) (fa _ fun h _ => h) zf zf zf zf zf zf zf zf ?_ ?_
    · intro ρ' H' u1 u2 u3 u27 u28 u29 hds lH xH gH
      replace u1 : ρ' 1 = .c (.ptr (some (b1, 0))) := by rw [u1]; simp (disch := first | with_reducible assumption | omega) only [go_sem, *, reduceCtorEq, ↓reduceIte, Nat.reduceLT, Nat.reduceBEq, Nat.reduceAdd, Nat.reduceSub, Nat.reduceMul, Nat.reduceDiv, Nat.reduceMod, Nat.reducePow, Nat.reduceEqDiff, Nat.reduceLeDiff, Int.reduceLT, Int.reduceLE, Int.reduceNeg, Int.reduceToNat, Int.reduceAdd, Int.reduceSub, Int.reduceMul, Int.reduceEq, Int.reduceNe, Int.reduceBEq, Int.reduceBNe, Int.reducePow]
      replace u2 : ρ' 2 = .c (.ptr (some (b2, 0))) := by rw [u2]; simp (disch := first | with_reducible assumption | omega) only [go_sem, *, reduceCtorEq, ↓reduceIte, Nat.reduceLT, Nat.reduceBEq, Nat.reduceAdd, Nat.reduceSub, Nat.reduceMul, Nat.reduceDiv, Nat.reduceMod, Nat.reducePow, Nat.reduceEqDiff, Nat.reduceLeDiff, Int.reduceLT, Int.reduceLE, Int.reduceNeg, Int.reduceToNat, Int.reduceAdd, Int.reduceSub, Int.reduceMul, Int.reduceEq, Int.reduceNe, Int.reduceBEq, Int.reduceBNe, Int.reducePow]
      replace u3 : ρ' 3 = .c (.sl (some (b3, 0)) m m false) := by rw [u3]; simp (disch := first | with_reducible assumption | omega) only [go_sem, *, reduceCtorEq, ↓reduceIte, Nat.reduceLT, Nat.reduceBEq, Nat.reduceAdd, Nat.reduceSub, Nat.reduceMul, Nat.reduceDiv, Nat.reduceMod, Nat.reducePow, Nat.reduceEqDiff, Nat.reduceLeDiff, Int.reduceLT, Int.reduceLE, Int.reduceNeg, Int.reduceToNat, Int.reduceAdd, Int.reduceSub, Int.reduceMul, Int.reduceEq, Int.reduceNe, Int.reduceBEq, Int.reduceBNe, Int.reducePow]
      replace u27 : ρ' 27 = .c (.sl h.a11 n h.c11 false) := by rw [u27, fea _ fun e => e]; simp (disch := first | with_reducible assumption | omega) only [go_sem, *, reduceCtorEq, ↓reduceIte, Nat.reduceLT, Nat.reduceBEq, Nat.reduceAdd, Nat.reduceSub, Nat.reduceMul, Nat.reduceDiv, Nat.reduceMod, Nat.reducePow, Nat.reduceEqDiff, Nat.reduceLeDiff, Int.reduceLT, Int.reduceLE, Int.reduceNeg, Int.reduceToNat, Int.reduceAdd, Int.reduceSub, Int.reduceMul, Int.reduceEq, Int.reduceNe, Int.reduceBEq, Int.reduceBNe, Int.reducePow]
      replace u28 : ρ' 28 = .c (.int .i64 (n : Nat)) := by rw [u28]; simp (disch := first | with_reducible assumption | omega) only [go_sem, *, reduceCtorEq, ↓reduceIte, Nat.reduceLT, Nat.reduceBEq, Nat.reduceAdd, Nat.reduceSub, Nat.reduceMul, Nat.reduceDiv, Nat.reduceMod, Nat.reducePow, Nat.reduceEqDiff, Nat.reduceLeDiff, Int.reduceLT, Int.reduceLE, Int.reduceNeg, Int.reduceToNat, Int.reduceAdd, Int.reduceSub, Int.reduceMul, Int.reduceEq, Int.reduceNe, Int.reduceBEq, Int.reduceBNe, Int.reducePow]
      replace u29 : ρ' 29 = .c (.int .i64 (i : Nat)) := by rw [u29]; simp (disch := first | with_reducible assumption | omega) only [go_sem, *, reduceCtorEq, ↓reduceIte, Nat.reduceLT, Nat.reduceBEq, Nat.reduceAdd, Nat.reduceSub, Nat.reduceMul, Nat.reduceDiv, Nat.reduceMod, Nat.reducePow, Nat.reduceEqDiff, Nat.reduceLeDiff, Int.reduceLT, Int.reduceLE, Int.reduceNeg, Int.reduceToNat, Int.reduceAdd, Int.reduceSub, Int.reduceMul, Int.reduceEq, Int.reduceNe, Int.reduceBEq, Int.reduceBNe, Int.reducePow]
      have hfin : LkOk c (i + 1) := DsOk.fin hi' (by rw [hnd]; exact hds)
      have fb : Hid _ := fun (A : Prop) (h : _ → _ → _ → A) => h hfin gH (fun b (hb : b < H3.length) (hne : b ≠ b3) => (xH b (by omega) hne).trans (w10 b hb hne))
      clear hc hn hm hnp had hadN hnd hi' hds xH gH hfin w10 y10 n1 n2 n5 n6 g10 g10' x10 hn1 hsrc hoff hUU m19 m29 m39 m59 g9
      repeat (with_reducible first|(first|refine pI1 ?_|refine pS1 ?_);intros|refine pA1 ?_|refine pX1 ?_|refine pB1 ?_|exact True.intro)
      exact loopQ_n (n - (i + 1)) (by omega) ⟨_, i + 1, H', rfl, rfl, by omega, zf, zf, zf, zf, zf, zf, fb _ fun a _ _ => a, by omega, fb _ fun _ _ a => a, fb _ fun _ a _ => a⟩
    · intro ρ' H' u2 hnot lH xH gH
      replace u2 : ρ' 2 = .c (.ptr (some (b2, 0))) := by rw [u2]; simp (disch := first | with_reducible assumption | omega) only [go_sem, *, reduceCtorEq, ↓reduceIte, Nat.reduceLT, Nat.reduceBEq, Nat.reduceAdd, Nat.reduceSub, Nat.reduceMul, Nat.reduceDiv, Nat.reduceMod, Nat.reducePow, Nat.reduceEqDiff, Nat.reduceLeDiff, Int.reduceLT, Int.reduceLE, Int.reduceNeg, Int.reduceToNat, Int.reduceAdd, Int.reduceSub, Int.reduceMul, Int.reduceEq, Int.reduceNe, Int.reduceBEq, Int.reduceBNe, Int.reducePow]
      have fb : Hid _ := fun (A : Prop) (h : _ → A) => h (fun b (hb : b < H.length) => (xH b (by omega) (by omega) (by omega)).trans (y10 b hb))
      clear hc hn hm hnp had hadN hnd hi' xH w10 y10 n1 n2 n5 n6 g10 g10' x10 hn1 hsrc hoff hUU m19 m29 m39 m59 g9
      repeat (with_reducible first|(first|refine pI1 ?_|refine pS1 ?_);intros|refine pA1 ?_|refine pX1 ?_|refine pB1 ?_|exact True.intro)
      exact ⟨by rw [dB_f hnot], by omega, fb _ fun a => a⟩
  · obtain rfl : i = n := by omega
    have hxt : ¬ (i : Int) < (i : Int) := by omega
    have hlk' : (∀ j, j < i → c.okLink (c.link j)) ∧ ∀ x, cn x (Cfg.used c.links) ≤ 1 := by
      refine ⟨hlk.1, ?_⟩
      have := hlk.2
      rw [fin0 _ fun _ hn _ _ _ _ => hn.symm, List.take_length] at this
      exact this
    have fyk : Hid _ := fun (A : Prop) (h : _ → _ → A) => h yk hlk'
    clear xk g13 g23 yk hlk hlk' k3
    repeat (with_reducible first|(first|refine pI1 ?_|refine pS1 ?_);intros|refine pA1 ?_|refine pX1 ?_|refine pB1 ?_|exact True.intro)
    refine outM_call s_pairs ?_
    rintro _ H4 ⟨b4, rfl, q4, r4, g4, l4, x4⟩
    have k14 : H4[b1]? = _ := (x4 b1 (by omega)).trans k1
    have k24 : H4[b2]? = _ := (x4 b2 (by omega)).trans k2
    have y4 : ∀ b, b < H.length → H4[b]? = H[b]? := fun b hb => (x4 b (by omega)).trans (fyk _ fun yk _ => yk b hb)
    have fy4 : Hid _ := fun (A : Prop) (h : _ → A) => h y4
    clear x4 k1 k2 y4
    repeat (with_reducible first|(first|refine pI1 ?_|refine pS1 ?_);intros|refine pA1 ?_|refine pX1 ?_|refine pB1 ?_|exact True.intro)
    unfold a_config_links_30
    refine W_rangeM (F := F) (enc := enp) (xs := rest i 0) kF zf (it_pairs (fun d => d = b2) (by omega))
      (fun d r Hx => Hx[b1]? = H4[b1]? ∧ Hx[b2]? = H4[b2]? ∧ (∀ b, b < H.length → Hx[b]? = H[b]?) ∧ ∀ p ∈ d, c.apartL p.1 p.2)
      (fun e Hx => e = .ret ∧ Hx[b2]? = some (.cells [.bool false] false none) ∧ (∀ b, b < H.length → Hx[b]? = H[b]?) ∧ ¬ c.okLinks)
      (fun J => get_app' J g4) (fun b hb => by omega) (fun _ => rfl) ?_ ?_ ?_ ?_ ?_ ?_
    · rintro d r H7 H8 ⟨w1, w2, w3, w4⟩ l7 l8 x8
      exact ⟨(x8 b1 (by omega) (by omega)).trans w1, (x8 b2 (by omega) (by omega)).trans w2, fun b hb => (x8 b (by omega) (by omega)).trans (w3 b hb), w4⟩
    · rintro e H7 H8 ⟨w1, w2, w3, w4⟩ l7 l8 x8
      exact ⟨w1, (x8 b2 (by omega) (by omega)).trans w2, fun b hb => (x8 b (by omega) (by omega)).trans (w3 b hb), w4⟩
    · intro H7 l7 x7
      exact ⟨x7 b1 (by omega), x7 b2 (by omega), fun b hb => (x7 b (by omega)).trans (fy4 _ fun y => y b hb), fun p hp => by simp at hp⟩
    · intro d p r Ha hd
      obtain ⟨j, k⟩ := p
      obtain ⟨hjk, hkn⟩ := rest_is (show (j, k) ∈ rest i 0 by rw [hd]; simp)
      simp only [enp, List.zip_cons_cons, List.zip_nil_left, List.foldl_cons, List.foldl_nil, L_set]
      have hone : ∀ t, t < i → ∃ la y ad cd lp yp lq yq, h.a11 = some (la, y) ∧ h.a10 = some (lp, yp) ∧ h.a8 = some (lq, yq) ∧ la < N ∧ lp < N ∧ lq < N ∧
          ldnB H[la]? (y + t * 3) 3 = some [.int .i64 (c.link t).src, .sl ad (c.link t).dests.length cd false, .int .i64 (c.link t).off] ∧
          ldnB H[lp]? (yp + (c.link t).src.toNat * 6) 6 = some (c.port (c.link t).src).cells ∧ ldB H[lq]? (yq + (c.port (c.link t).src).part.toNat * 3) = some (.int .i64 (c.part (c.port (c.link t).src).part).node) ∧
          0 ≤ (c.link t).src ∧ (c.link t).src < (m : Int) ∧ 0 ≤ (c.port (c.link t).src).part ∧ (c.port (c.link t).src).part < (np : Int) ∧ 0 ≤ (c.link t).off ∧ (c.link t).off ≤ 63 ∧ 1 ≤ (c.port (c.link t).src).size ∧ (c.port (c.link t).src).size ≤ 32 := by
        intro t ht
        refine fin0 _ fun hc hn hm hnp _ hpt => fyk _ fun _ hlk => ?_
        obtain ⟨la, y, ad, cd, ea, hla, hld, -, -, -, -⟩ := link_at hc (i := t) (by omega)
        obtain ⟨⟨hs1, hs2, hs3, hs4, hs5⟩, -⟩ := hlk.1 t ht
        obtain ⟨hs6, hs7⟩ := hs1
        obtain ⟨lp, yp, ep, hlp, hldp, hmem⟩ := port_at hc (i := (c.link t).src.toNat) (by omega)
        rw [show (((c.link t).src.toNat : Nat) : Int) = (c.link t).src by omega] at hldp hmem
        obtain ⟨hq1, hq2, hq3⟩ := hpt.2 _ hmem
        obtain ⟨lq, yq, eq, hlq, hldq, -⟩ := part_at hc (i := (c.port (c.link t).src).part.toNat) (by omega)
        rw [show (((c.port (c.link t).src).part.toNat : Nat) : Int) = (c.port (c.link t).src).part by omega] at hldq
        have hz := hq1.2.2
        exact ⟨la, y, ad, cd, lp, yp, lq, yq, ea, ep, eq, hla, hlp, hlq, hld, hldp, ld_of_ldn3 hldq, hs6, by omega, hq2, by omega, hs4, by omega, hz.1, hz.2.1⟩
      obtain ⟨la, y, ad, cd, lp, yp, lq, yq, ea, ep, eq, hla, hlp, hlq, hld, hldp, hldq, t1, t2, t3, t4, t5, t6, t7, t8⟩ := hone j (by omega)
      obtain ⟨la', y', ad', cd', lp', yp', lq', yq', ea', ep', eq', -, -, -, hld', hldp', hldq', u1, u2, u3, u4, u5, u6, u7, u8⟩ := hone k (by omega)
      rw [ea] at ea'
      rw [ep] at ep'
      rw [eq] at eq'
      cases ea'
      cases ep'
      cases eq'
      clear hone
      have hnp : ¬ c.apartL j k → ¬ c.okLinks := fun h h' => h (h'.2.2.2 j k hjk (fin0 _ fun _ hn _ _ _ _ => by omega))
      have hap : c.apartL j k ↔ ¬ ((c.part (c.port (c.link j).src).part).node = (c.part (c.port (c.link k).src).part).node ∧
          Cfg.meets (c.link j).off ((c.link j).off + 1 + (c.port (c.link j).src).size) (c.link k).off ((c.link k).off + 1 + (c.port (c.link k).src).size)) := Iff.rfl
      have hnext : c.apartL j k → (∀ p ∈ d, c.apartL p.1 p.2) → ∀ p ∈ d ++ [(j, k)], c.apartL p.1 p.2 := fun h h' p hp => by
        rcases List.mem_append.1 hp with hp | hp
        · exact h' p hp
        · obtain rfl : p = (j, k) := by simpa using hp
          exact h
      clear hd
      generalize c.apartL j k = P at *
      generalize (c.link j).dests.length = nj at *
      generalize (c.link k).dests.length = nk at *
      generalize (c.part (c.port (c.link j).src).part).node = dj at *
      generalize (c.part (c.port (c.link k).src).part).node = dk at *
      generalize c.port (c.link j).src = pj at *
      generalize c.port (c.link k).src = pk at *
      generalize (c.link j).src = sj at *
      generalize (c.link k).src = sk at *
      generalize (c.link j).off = oj at *
      generalize (c.link k).off = ok at *
      obtain ⟨pj1, pj2, pj3, pj4, pj5, pj6⟩ := pj
      obtain ⟨pk1, pk2, pk3, pk4, pk5, pk6⟩ := pk
      dsimp only [Pt.cells] at *
      have fin2 : Hid _ := fun (A : Prop) (h : _ → _ → _ → A) => h hnp hnext hap
      clear hnp hnext hap
      repeat (with_reducible first|(first|refine pI1 ?_|refine pS1 ?_);intros|refine pA1 ?_|refine pX1 ?_|refine pB1 ?_|exact True.intro)
      refine ⟨rfl, rfl, rfl, ?_⟩
      rintro H7 ⟨w1, w2, w3, w4⟩ hll l7
      have fw : Hid _ := fun (A : Prop) (h : _ → _ → A) => h w1 w2
      rw [← w3 la (by omega)] at hld hld'
      rw [← w3 lp (by omega)] at hldp hldp'
      rw [← w3 lq (by omega)] at hldq hldq'
      rw [k14, ea, ep, eq] at w1
      rw [k24] at w2
      have fin3 : Hid _ := fun (A : Prop) (h : _ → _ → A) => h w3 w4
      have v1 : sj.toNat < m := by omega
      have v2 : sk.toNat < m := by omega
      have v3 : pj1.toNat < np := by omega
      have v4 : pk1.toNat < np := by omega
      clear w3 w4 k14 k24 ea ep eq
      unfold b_config_links_31
      have hmt : ∀ Hx, WC F fn_config_meet [.c (.int .i64 oj), .c (.int .i64 (oj + 1 + pj4)), .c (.int .i64 ok), .c (.int .i64 (ok + 1 + pk4))] Hx fun v H' => v = .c (.bool (dB (Cfg.meets oj (oj + 1 + pj4) ok (ok + 1 + pk4)))) ∧ H' = Hx := fun Hx => s_meet
      have fm : Hid _ := fun (A : Prop) (h : _ → A) => h hmt
      clear hmt
      by_cases hne : dj = dk
      case neg =>
        have hP : P := fin2 _ fun _ _ hap => hap.2 fun h => hne h.1
        repeat (with_reducible first|(first|refine pI1 ?_|refine pS1 ?_);intros|refine pA1 ?_|refine pX1 ?_|refine pB1 ?_|exact True.intro)
        rename_i c1 G1 _ _ z1 c2 G2 _ _ z2 G3 _ _ z3 G4 _ _ z4 c5 G5 _ _ z5 c6 G6 _ _ z6 G7 _ _ z7 G8 _ _ z8
        have z : ∀ b, b < H7.length → G8[b]? = H7[b]? := fun b hb => by rw [z8 b (by omega), z7 b (by omega), z6 b (by omega), z5 b (by omega), z4 b (by omega), z3 b (by omega), z2 b (by omega), z1 b (by omega)]
        exact turnQ_n (by omega) (z _ (by omega)) (fun b hb => z b hb.1) ⟨(z b1 (by omega)).trans (fw _ fun w _ => w), (z b2 (by omega)).trans (fw _ fun _ w => w), fun b hb => (z b (by omega)).trans (fin3 _ fun w3 _ => w3 b hb), fin3 _ fun _ w4 => fin2 _ fun _ hnext _ => hnext hP w4⟩
      subst hne
      repeat (with_reducible first|(first|refine pI1 ?_|refine pS1 ?_);intros|refine pA1 ?_|refine pX1 ?_|refine pB1 ?_|exact True.intro)
      rename_i c1 G1 _ _ z1 c2 G2 _ _ z2 G3 _ _ z3 G4 _ _ z4 c5 G5 _ _ z5 c6 G6 _ _ z6 G7 _ _ z7 G8 _ g8 z8
      have z : ∀ b, b < H7.length → G8[b]? = H7[b]? := fun b hb => by rw [z8 b (by omega), z7 b (by omega), z6 b (by omega), z5 b (by omega), z4 b (by omega), z3 b (by omega), z2 b (by omega), z1 b (by omega)]
      have hlen : H7.length + 4 ≤ G8.length := by omega
      have fz : Hid _ := fun (A : Prop) (h : _ → A) => h z
      have w2' := (z b2 (by omega)).trans w2
      clear z z1 z2 z3 z4 z5 z6 z7 z8 g8
      refine outM_call (fm _ fun h => h G8) ?_
      rintro _ G8 ⟨rfl, rfl⟩
      by_cases hm : Cfg.meets oj (oj + 1 + pj4) ok (ok + 1 + pk4)
      · have hP : ¬ P := fun h => fin2 _ fun _ _ hap => hap.1 h ⟨rfl, hm⟩
        rw [dB_t hm]
        repeat (with_reducible first|(first|refine pI1 ?_|refine pS1 ?_);intros|refine pA1 ?_|refine pX1 ?_|refine pB1 ?_|exact True.intro)
        rename_i H12 l12 g12 x12
        refine fz _ fun z => ?_
        exact turnQ_r (by omega) (by rw [x12 _ (by omega)]; exact z _ (by omega)) (fun b hb => by rw [x12 b hb.2.1]; exact z b hb.1) ⟨rfl, g12, fun b hb => by rw [x12 b (by omega), z b (by omega)]; exact fin3 _ fun w3 _ => w3 b hb, fin2 _ fun hnp _ _ => hnp hP⟩
      · have hP : P := fin2 _ fun _ _ hap => hap.2 fun h => hm h.2
        rw [dB_f hm]
        repeat (with_reducible first|(first|refine pI1 ?_|refine pS1 ?_);intros|refine pA1 ?_|refine pX1 ?_|refine pB1 ?_|exact True.intro)
        refine fz _ fun z => ?_
        exact turnQ_n (by omega) (z _ (by omega)) (fun b hb => z b hb.1) ⟨(z b1 (by omega)).trans (fw _ fun w _ => w), (z b2 (by omega)).trans (fw _ fun _ w => w), fun b hb => (z b (by omega)).trans (fin3 _ fun w3 _ => w3 b hb), fin3 _ fun _ w4 => fin2 _ fun _ hnext _ => hnext hP w4⟩
    · rintro H7 ⟨w1, w2, w3, w4⟩ hd l7
      rw [k14] at w1
      rw [k24] at w2
      have fin3 : Hid _ := fun (A : Prop) (h : _ → _ → A) => h w3 w4
      clear w3 w4 k14 k24
      repeat (with_reducible first|(first|refine pI1 ?_|refine pS1 ?_);intros|refine pA1 ?_|refine pX1 ?_|refine pB1 ?_|exact True.intro)
      rename_i H8 l8 g8 x8
      have hd8 : H8[H4.length]? = some .defd := by rw [x8 _ (by omega)]; exact hd
      have fy8 : ∀ b, b < H.length → H8[b]? = H[b]? := fun b hb => by rw [x8 b (by omega)]; exact fin3 _ fun w3 _ => w3 b hb
      have fy8 : Hid _ := fun (A : Prop) (h : _ → A) => h fy8
      clear x8
      refine callQ_1 hd8 fun H9 l9 x9 => ?_
      have g9 : H9[b2]? = _ := (x9 b2 (by omega)).trans g8
      have y9 : ∀ b, b < H.length → H9[b]? = H[b]? := fun b hb => (x9 b (by omega)).trans (fy8 _ fun y8 => y8 b hb)
      have fy9 : Hid _ := fun (A : Prop) (h : _ → A) => h y9
      clear x9 g8 y9
      repeat (with_reducible first|(first|refine pI1 ?_|refine pS1 ?_);intros|refine pA1 ?_|refine pX1 ?_|refine pB1 ?_|exact True.intro)
      have hT : c.okLinks := by
        refine fin0 _ fun _ hn _ _ _ _ => fyk _ fun _ hlk => ⟨by omega, fun l hl => ?_, hlk.2, fun j k h1 h2 => fin3 _ fun _ w4 => w4 (j, k) (rest_mem h1 (by omega))⟩
        obtain ⟨t, ht, rfl⟩ := List.mem_iff_getElem.1 hl
        have e : c.link t = c.links[t] := by simp [Cfg.link, ht]
        rw [← e]; exact hlk.1 t (by omega)
      exact ⟨by rw [dB_t hT], by omega, fy9 _ fun h => h⟩
    · rintro e H7 ⟨rfl, w2, w3, w4⟩ hd l7
      have fin3 : Hid _ := fun (A : Prop) (h : _ → _ → A) => h w3 w4
      clear w3 w4 k14 k24
      repeat (with_reducible first|(first|refine pI1 ?_|refine pS1 ?_);intros|refine pA1 ?_|refine pX1 ?_|refine pB1 ?_|exact True.intro)
      refine callQ_1 hd fun H9 l9 x9 => ?_
      have g9 : H9[b2]? = _ := (x9 b2 (by omega)).trans w2
      have y9 : ∀ b, b < H.length → H9[b]? = H[b]? := fun b hb => (x9 b (by omega)).trans (fin3 _ fun w3 _ => w3 b hb)
      have fy9 : Hid _ := fun (A : Prop) (h : _ → A) => h y9
      clear x9 w2 y9
      repeat (with_reducible first|(first|refine pI1 ?_|refine pS1 ?_);intros|refine pA1 ?_|refine pX1 ?_|refine pB1 ?_|exact True.intro)
      exact ⟨by rw [dB_f (fin3 _ fun _ w4 => w4)], by omega, fy9 _ fun h => h⟩
end Go.Proofs.Ytbgmbnikpjjmcaa.AM.D07
