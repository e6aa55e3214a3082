/- What the document's functions of chapter 2 come to: links, one by one. -/
import Derived.Test.YtbgmbnikpjjmcaaD07C02q
set_option linter.unusedVariables false
set_option linter.unusedSimpArgs false
set_option linter.unusedSectionVars false
namespace Go.Proofs.Ytbgmbnikpjjmcaa.AM.D07
open Go Go.Proofs.Ytbgmbnikpjjmcaa.AM Go.Proofs.Ytbgmbnikpjjmcaa.AM.C02
set_option maxHeartbeats 2000000
set_option maxRecDepth 100000
attribute [local go_sem] tn_add1 tn_sub1 put_all' nums_len sub12 sub3 sub6 rep6
section
variable {N : Nat} {H : Heap} {c : Cfg} {h : Hd}
theorem ld6 {k : Option Blk} {o : Nat} {a b d w3 f g : Cell} (h : ldnB k o 6 = some [a, b, d, w3, f, g]) : ldB k (o + 2) = some d ∧ ldB k (o + 3) = some w3 ∧ ldB k (o + 1) = some b := by
  match k, h with
  | some (.cells cs ro gg), h =>
    have h : sub cs o 6 = some [a, b, d, w3, f, g] := h
    unfold sub at h
    split at h
    · have e := Option.some.inj h
      have e0 : ((cs.drop o).take 6)[1]? = some b := by rw [e]; rfl
      have e1 : ((cs.drop o).take 6)[2]? = some d := by rw [e]; rfl
      have e2 : ((cs.drop o).take 6)[3]? = some w3 := by rw [e]; rfl
      simp at e0 e1 e2
      exact ⟨by simpa [ldB] using e1, by simpa [ldB] using e2, by simpa [ldB] using e0⟩
    · cases h
theorem s_rlinks (hc : CfgM N H c h) (hN : N ≤ H.length) (hpt : c.okPorts) (hdest : ∀ l ∈ c.links, l.dests.length ≤ 1048576) : WC F fn_rotaref02_links [.agg (c.cells h)] H fun v H' => v = .c (.bool (dB c.okLinks)) ∧ Xt H H' := by
  refine WC_start e_rotaref02_links (by simp) ?_
  unfold c_rotaref02_links
  have hm64 : c.ports.length ≤ 64 := hpt.1
  by_cases hbig : 64 < c.links.length
  · have e : dB c.okLinks = false := dB_f fun h => by have := h.1; omega
    rw [e]
    clear hc hdest hpt
    unfold Cfg.cells
    repeat (with_reducible first|(first|refine pI1 ?_|refine pS1 ?_);intros|refine pA1 ?_|refine pX1 ?_|refine pB1 ?_|exact True.intro)
    rename_i b1 H1 p1 g1 x1
    repeat (with_reducible first|(first|refine pI1 ?_|refine pS1 ?_);intros|refine pA1 ?_|refine pX1 ?_|refine pB1 ?_|exact True.intro)
    exact ⟨rfl, by omega, fun b hb => x1 b (by omega)⟩
  have hcounts := fun (Hk : Heap) (ρ : Env) (b1 nu : Nat) (ua : Option Ad) (uo : Bool) e1 e3 k1 lk yk hall hu hnu hn6 => rl_counts (Hk := Hk) (ρ := ρ) (b1 := b1) (nu := nu) (ua := ua) (uo := uo) hc hN hpt (by omega) e1 e3 k1 lk yk hall hu hnu hn6
  obtain ⟨o22, ho⟩ : ∃ o, o = o_rotaref02_links_22 := ⟨_, rfl⟩
  rw [← ho] at hcounts ⊢
  have his := fun (Hx : Heap) (n : Int) => s_ris (H := Hx) (c := c) (h := h) (n := n)
  obtain ⟨a1, c1, a8, c8, a9, c9, a10, c10, a11, c11⟩ := h
  unfold Cfg.cells at hcounts his ⊢
  dsimp only at hcounts his ⊢
  obtain ⟨n, hn⟩ : ∃ n, c.links.length = n := ⟨_, rfl⟩
  obtain ⟨m, hm⟩ : ∃ m, c.ports.length = m := ⟨_, rfl⟩
  rw [hn] at hbig ⊢
  rw [hm] at hm64 ⊢
  rw [hn, hm] at his
  have fin0 : Hid _ := fun (A : Prop) (h : _ → _ → _ → _ → _ → _ → _ → A) => h hc hpt hdest hcounts hn hm ho
  have fis : Hid _ := fun (A : Prop) (h : _ → A) => h his
  clear hc hpt hdest hcounts hn hm ho his
  repeat (with_reducible first|(first|refine pI1 ?_|refine pS1 ?_);intros|refine pA1 ?_|refine pX1 ?_|refine pB1 ?_|exact True.intro)
  rename_i b1 H1 p1 g1 x1
  have fx : Hid _ := fun (A : Prop) (h : _ → A) => h x1
  clear x1
  repeat (with_reducible first|(first|refine pI1 ?_|refine pS1 ?_);intros|refine pA1 ?_|refine pX1 ?_|refine pB1 ?_|exact True.intro)
  refine W_loop (fun mm st => ∃ ρ, ∃ i nu : Nat, ∃ uo Hk ua, st = ⟨L 227 ρ, [], Hk⟩ ∧ mm = n - i ∧ i ≤ n ∧ ρ 1 = .c (.ptr (some (b1, 0))) ∧ ρ 3 = .c (.sl ua nu nu uo) ∧ ρ 4 = .c (.int .i64 (i : Nat)) ∧ H1.length ≤ Hk.length ∧ nu ≤ 64 ∧ Hid ((∀ d, d < H1.length → Hk[d]? = H1[d]?) ∧ Gr H1.length Hk 1 ua nu uo (nums (Cfg.used (c.links.take i))) ∧ ∀ j, j < i → c.okLink (c.link j))) n ⟨_, 0, 0, false, H1, none, rfl, rfl, by omega, zf, zf, zf, Nat.le_refl _, by omega, fun _ _ => rfl, Gr.none _ _ _, fun j hj => by omega⟩ ?_
  rintro mm st ⟨ρ, i, nu, uo, Hk, ua, rfl, rfl, hi, e1, e3, e4, lk, hnu, hall⟩
  unfold b_rotaref02_links_21
  have k1 := (hall.1 b1 (by omega)).trans g1
  by_cases hin : i < n
  · have hxt : (i : Int) < (n : Int) := by omega
    have yk : ∀ b, b < H.length → Hk[b]? = H[b]? := fun b hb => (hall.1 b (by omega)).trans (fx _ fun x1 => x1 b (by omega))
    obtain ⟨la, y, ad, cd, ea, hla, v1, hsl, hsN, hmem, -⟩ := fin0 _ fun hc _ _ _ hn _ _ => link_at hc (i := i) (by omega)
    rw [← yk la (by omega)] at v1
    have hdl := fin0 _ fun _ _ hdest _ _ _ _ => hdest _ hmem
    have hport : ∀ s : Nat, s < m → ∃ lp yp, a10 = some (lp, yp) ∧ lp < N ∧ ldnB H[lp]? (yp + s * 6) 6 = some (c.port (s : Nat)).cells := fun s hs => fin0 _ fun hc _ _ _ _ hm _ => by
      obtain ⟨lp, yp, q1, q2, q3, -⟩ := port_at hc (i := s) (by omega)
      exact ⟨lp, yp, q1, q2, q3⟩
    have hpsz : ∀ s : Nat, s < m → 1 ≤ (c.port (s : Nat)).size ∧ (c.port (s : Nat)).size ≤ 32 := fun s hs => fin0 _ fun hc hpt _ _ _ hm _ => by
      obtain ⟨-, -, -, -, -, q4⟩ := port_at hc (i := s) (by omega)
      have := (hpt.2 _ q4).1
      exact ⟨this.2.2.1, this.2.2.2.1⟩
    have fsz : Hid _ := fun (A : Prop) (h : _ → A) => h hpsz
    clear hpsz
    have hnosrc : ¬ c.okSrc (c.link i) → dB c.okLinks = false := fun h' => dB_f (no_src (fin0 _ fun _ _ _ _ hn _ _ => by omega) (.inl h'))
    have hosrc : c.okSrc (c.link i) ↔ ((0 ≤ (c.link i).src ∧ (c.link i).src < (m : Int)) ∧ (c.port (c.link i).src).dir = 1 ∧ (c.link i).dests ≠ [] ∧ 0 ≤ (c.link i).off ∧ (c.link i).off ≤ 63 - (c.port (c.link i).src).size) := by
      unfold Cfg.okSrc Cfg.isP
      rw [fin0 _ fun _ _ _ _ _ hm _ => hm]
    have hseq : c.link i = c.link i := rfl
    generalize hlk : c.link i = L0 at *
    obtain ⟨src, dests, off⟩ := L0
    dsimp only at v1 hsl hdl hosrc
    obtain ⟨dl, hdl'⟩ : ∃ dl, dests.length = dl := ⟨_, rfl⟩
    rw [hdl'] at v1 hsl hdl
    have hds : dests ≠ [] ↔ dl ≠ 0 := by rw [← hdl']; cases dests <;> simp
    rw [hds] at hosrc
    have f1 : Hid _ := fun (A : Prop) (h : _ → _ → _ → _ → _ → _ → _ → _ → _ → _ → A) => h hall yk hsl hsN hmem hport hnosrc hosrc hlk hdl'
    clear hall yk hsl hsN hmem hport hnosrc hosrc hlk hdl' hds hseq
    have hbad : ¬ ((0 ≤ src ∧ src < (m : Int)) ∧ (c.port src).dir = 1 ∧ dl ≠ 0 ∧ 0 ≤ off ∧ off ≤ 63 - (c.port src).size) → dB c.okLinks = false := fun h' => f1 _ fun _ _ _ _ _ _ hnosrc hosrc _ _ => hnosrc fun h'' => h' (hosrc.1 h'')
    have fb : Hid _ := fun (A : Prop) (h : _ → A) => h hbad
    clear hbad
    have ea : a11 = some (la, y) := ea
    subst ea
    repeat (with_reducible first|(first|refine pI1 ?_|refine pS1 ?_);intros|refine pA1 ?_|refine pX1 ?_|refine pB1 ?_|exact True.intro)
    rename_i b3 H3 p3 g3 x3 H4 l4 g4 x4
    have k1' := (x4 b1 (by omega)).trans ((x3 b1 (by omega)).trans k1)
    have hx4 : ∀ d, d < Hk.length → H4[d]? = Hk[d]? := fun d hd => by rw [x4 d (by omega), x3 d (by omega)]
    have f4 : Hid _ := fun (A : Prop) (h : _ → A) => h hx4
    clear x3 x4 hx4 k1 v1 g3
    repeat (with_reducible first|(first|refine pI1 ?_|refine pS1 ?_);intros|refine pA1 ?_|refine pX1 ?_|refine pB1 ?_|exact True.intro)
    refine outM_call (fis _ fun h => h H4 src) ?_
    rintro _ H5 ⟨rfl, l5, x5⟩
    have k5 := (x5 b1 (by omega)).trans k1'
    have g5 := (x5 b3 (by omega)).trans g4
    have hxe : ∀ b, b < H.length → H5[b]? = H[b]? := fun b hb => by rw [x5 b (by omega), f4 _ fun h => h b (by omega)]; exact f1 _ fun _ yk _ _ _ _ _ _ _ _ => yk b hb
    have f5 : Hid _ := fun (A : Prop) (h : _ → _ → A) => h x5 hxe
    clear x5 hxe k1' g4
    by_cases z1 : 0 ≤ src ∧ src < (m : Int)
    case neg =>
      have e := fb _ fun h => h fun h' => z1 h'.1
      rw [decide_eq_false z1, e]
      repeat (with_reducible first|(first|refine pI1 ?_|refine pS1 ?_);intros|refine pA1 ?_|refine pX1 ?_|refine pB1 ?_|exact True.intro)
      exact ⟨rfl, by omega, f5 _ fun _ h => h⟩
    rw [decide_eq_true z1]
    obtain ⟨z11, z12⟩ := z1
    obtain ⟨s, rfl⟩ : ∃ s : Nat, src = s := ⟨src.toNat, by omega⟩
    obtain ⟨lp, yp, ep, hlp, v2⟩ := f1 _ fun _ _ _ _ _ hport _ _ _ _ => hport s (by omega)
    rw [← f5 _ fun _ h => h lp (by omega)] at v2
    have hsz := fsz _ fun h => h s (by omega)
    generalize hps : c.port (s : Nat) = ps at *
    obtain ⟨pa, kd, dr, sz, dp, fr⟩ := ps
    dsimp only [Pt.cells] at v2 hsz
    obtain ⟨sz1, sz2⟩ := hsz
    have ep : a10 = some (lp, yp) := ep
    subst ep
    have fps : Hid _ := fun (A : Prop) (h : _ → A) => h hps
    clear hps
    have hbad : ¬ (dr = 1 ∧ dl ≠ 0 ∧ 0 ≤ off ∧ off ≤ 63 - sz) → dB c.okLinks = false := fun h => fb _ fun hb => hb fun h' => h h'.2
    have fb2 : Hid _ := fun (A : Prop) (h : _ → A) => h hbad
    clear hbad fb
    have hdir : ldB H5[lp]? (yp + s * 6 + 2) = some (.int .i64 dr) ∧ ldB H5[lp]? (yp + s * 6 + 3) = some (.int .i64 sz) ∧ ldB H5[lp]? (yp + s * 6 + 1) = some (.int .i64 kd) := ld6 v2
    obtain ⟨v21, v22, v23⟩ := hdir
    have fv : Hid _ := fun (A : Prop) (h : _ → _ → _ → _ → A) => h v2 v21 v22 v23
    clear v2 v23
    by_cases z2 : dr = 1
    case neg =>
      have e := fb2 _ fun h => h fun h' => z2 h'.1
      rw [e]
      repeat (with_reducible first|(first|refine pI1 ?_|refine pS1 ?_);intros|refine pA1 ?_|refine pX1 ?_|refine pB1 ?_|exact True.intro)
      exact ⟨rfl, by omega, f5 _ fun _ h => h⟩
    by_cases z3 : dl = 0
    · have e := fb2 _ fun h => h fun h' => h'.2.1 z3
      have fz : Hid _ := fun (A : Prop) (h : _ → A) => h z3
      subst z2
      subst z3
      rw [e]
      repeat (with_reducible first|(first|refine pI1 ?_|refine pS1 ?_);intros|refine pA1 ?_|refine pX1 ?_|refine pB1 ?_|exact True.intro)
      exact ⟨rfl, by omega, f5 _ fun _ h => h⟩
    have z3' : ¬ (dl : Int) = 0 := by omega
    by_cases z4 : off < 0
    · have e := fb2 _ fun h => h fun h' => by omega
      rw [e]
      subst z2
      repeat (with_reducible first|(first|refine pI1 ?_|refine pS1 ?_);intros|refine pA1 ?_|refine pX1 ?_|refine pB1 ?_|exact True.intro)
      exact ⟨rfl, by omega, f5 _ fun _ h => h⟩
    by_cases z5 : 64 < off
    · have e := fb2 _ fun h => h fun h' => by omega
      rw [e]
      subst z2
      repeat (with_reducible first|(first|refine pI1 ?_|refine pS1 ?_);intros|refine pA1 ?_|refine pX1 ?_|refine pB1 ?_|exact True.intro)
      exact ⟨rfl, by omega, f5 _ fun _ h => h⟩
    by_cases z6 : 64 < off + 1 + sz
    · have e := fb2 _ fun h => h fun h' => by omega
      rw [e]
      subst z2
      repeat (with_reducible first|(first|refine pI1 ?_|refine pS1 ?_);intros|refine pA1 ?_|refine pX1 ?_|refine pB1 ?_|exact True.intro)
      exact ⟨rfl, by omega, f5 _ fun _ h => h⟩
    subst z2
    have hsrc : c.okSrc (c.link i) := f1 _ fun _ _ _ _ _ _ _ hosrc hlk _ => by rw [hlk]; exact hosrc.2 ⟨⟨z11, z12⟩, rfl, z3, by omega, by show off ≤ 63 - sz; omega⟩
    have fsrc : Hid _ := fun (A : Prop) (h : _ → A) => h hsrc
    clear hsrc fb2
    repeat (with_reducible first|(first|refine pI1 ?_|refine pS1 ?_);intros|refine pA1 ?_|refine pX1 ?_|refine pB1 ?_|exact True.intro)
    rename_i b7 H7 p7 g7 x7
    have hx7 : ∀ d, d < Hk.length → H7[d]? = Hk[d]? := fun d hd => by rw [x7 d (by omega), f5 _ fun x5 _ => x5 d (by omega)]; exact f4 _ fun h => h d hd
    have hgr := f1 _ fun hall _ _ _ _ _ _ _ _ _ => hall.2.1.keepX (H' := H7) hx7
    have haw : away ua b3 := f1 _ fun hall _ _ _ _ _ _ _ _ _ x e => by have := (hall.2.1.lt x e).2; omega
    have k7 := (x7 b1 (by omega)).trans k5
    have g37 := (x7 b3 (by omega)).trans g5
    refine outM_appG (j := 1) hgr (by omega) (Sl.blk g7 rfl) (by omega) (by omega) ?_
    intro a' H8 q1 q2 q3 q4 q5
    have k8 := (q3 b1 (by omega)).trans k7
    have g8 := (q4 b3 (by omega) haw).trans g37
    rw [show nums (Cfg.used (List.take i c.links)) ++ [Cell.int .i64 (s : Nat)] = nums (Cfg.used (List.take i c.links) ++ ((s : Int) :: dests.take 0)) by rw [nums_app]; rfl] at q1
    have h8 : ∀ d, d < H1.length → H8[d]? = H1[d]? := fun d hd => by rw [q3 d hd, hx7 d (by omega)]; exact f1 _ fun hall _ _ _ _ _ _ _ _ _ => hall.1 d hd
    have haw' := q5 b3 (by omega)
    have f8 : Hid _ := fun (A : Prop) (h : _ → _ → _ → A) => h q1 h8 haw'
    clear hgr haw k7 g37 x7 g7 hx7 q1 q3 q4 q5 h8 haw' k5 g5 v21 v22 fv
    obtain ⟨⟨da, dz⟩, had⟩ := f1 _ fun _ _ hsl _ _ _ _ _ _ _ => hsl.is_some (by omega)
    subst had
    repeat (with_reducible first|(first|refine pI1 ?_|refine pS1 ?_);intros|refine pA1 ?_|refine pX1 ?_|refine pB1 ?_|exact True.intro)
    refine W_loop (fun mm st => ∃ ρ, ∃ k : Nat, ∃ oo Hm aa, st = ⟨L 227 ρ, [], Hm⟩ ∧ mm = dl - k ∧ k ≤ dl ∧ ρ 1 = .c (.ptr (some (b1, 0))) ∧ ρ 3 = .c (.sl aa (nu + 1 + k) (nu + 1 + k) oo) ∧ ρ 4 = .c (.int .i64 (i : Nat)) ∧ ρ 5 = .c (.ptr (some (b3, 0))) ∧ ρ 6 = .c (.int .i64 (k : Nat)) ∧ H8.length ≤ Hm.length ∧
      Hid ((∀ d, d < H1.length → Hm[d]? = H1[d]?) ∧ Hm[b3]? = H8[b3]? ∧ away aa b3 ∧ Gr H1.length Hm 1 aa (nu + 1 + k) oo (nums (Cfg.used (List.take i c.links) ++ ((s : Int) :: dests.take k))) ∧ ∀ j, j < k → c.okDest (s : Nat) (gn dests j))) dl ⟨_, 0, true, H8, a', rfl, rfl, by omega, zf, zf, zf, zf, zf, Nat.le_refl _, f8 _ fun q1 h8 haw' => ⟨h8, rfl, haw', q1, fun j hj => by omega⟩⟩ ?_
    clear e1 e3 e4
    rintro mm st ⟨ρ, k, oo, Hm, aa, rfl, rfl, hk, e1, e3, e4, e5, e6, lm, hall⟩
    unfold b_rotaref02_links_17
    have km := (hall.1 b1 (by omega)).trans g1
    have gm := hall.2.1.trans g8
    by_cases hkd : k < dl
    · have hxk : (k : Int) < (dl : Int) := by omega
      have ym : ∀ b, b < H.length → Hm[b]? = H[b]? := fun b hb => (hall.1 b (by omega)).trans (fx _ fun x1 => x1 b (by omega))
      have hld := f1 _ fun _ _ hsl _ _ _ _ _ _ hdl' => hsl.gn hdl' hkd
      have hda : da < N := f1 _ fun _ _ _ hsN _ _ _ _ _ _ => hsN _ _ rfl
      rw [← ym da (by omega)] at hld
      dsimp only at hld
      have hbad : ¬ c.okDest (s : Nat) (gn dests k) → dB c.okLinks = false := fun h => dB_f (no_dest (i := i) (k := k) (fin0 _ fun _ _ _ _ hn _ _ => by omega) (f1 _ fun _ _ _ _ _ _ _ _ hlk hdl' => by rw [hlk]; show k < dests.length; omega) (.inl (f1 _ fun _ _ _ _ _ _ _ _ hlk _ => by rw [hlk]; exact h)))
      have hnext : c.okDest (s : Nat) (gn dests k) → ∀ j, j < k + 1 → c.okDest (s : Nat) (gn dests j) := fun h j hj => by
        by_cases e : j = k
        · subst e; exact h
        · exact hall.2.2.2.2 j (by omega)
      have hod : c.okDest (s : Nat) (gn dests k) ↔ ((0 ≤ gn dests k ∧ gn dests k < (m : Int)) ∧ (c.port (gn dests k)).dir = 2 ∧ (c.port (gn dests k)).kind = kd ∧ (c.port (gn dests k)).size = sz) := by
        unfold Cfg.okDest Cfg.isP
        rw [fin0 _ fun _ _ _ _ _ hm _ => hm, fps _ fun h => h]
      have htk : (s : Int) :: dests.take (k + 1) = ((s : Int) :: dests.take k) ++ [gn dests k] := f1 _ fun _ _ _ _ _ _ _ _ _ hdl' => by
        have e1 : gn dests k = dests[k]'(by omega) := by simp [gn, show k < dests.length by omega]
        rw [List.take_succ_eq_append_getElem (by omega), e1]; rfl
      generalize c.okDest (s : Nat) (gn dests k) = P at *
      generalize gn dests k = u at *
      obtain ⟨lp1, v2⟩ := f1 _ fun _ _ _ _ _ hport _ _ _ _ => hport s (by omega)
      obtain ⟨yp1, ep1, -, v2⟩ := v2
      cases ep1
      rw [← ym lp (by omega), fps _ fun h => h] at v2
      obtain ⟨w1, w2, w3⟩ := ld6 v2
      have f9 : Hid _ := fun (A : Prop) (h : _ → _ → _ → _ → _ → _ → A) => h hall ym hbad hnext hod htk
      clear hall ym hbad hnext hod htk v2 k8 g8
      repeat (with_reducible first|(first|refine pI1 ?_|refine pS1 ?_);intros|refine pA1 ?_|refine pX1 ?_|refine pB1 ?_|exact True.intro)
      refine outM_call (fis _ fun h => h Hm u) ?_
      rintro _ Hn ⟨rfl, ln, xn⟩
      have kn := (xn b1 (by omega)).trans km
      have gn' := (xn b3 (by omega)).trans gm
      rw [← xn lp (by omega)] at w1 w2 w3
      have fn : Hid _ := fun (A : Prop) (h : _ → A) => h xn
      clear xn km gm
      by_cases y1 : 0 ≤ u ∧ u < (m : Int)
      case neg =>
        have e := f9 _ fun _ _ hbad _ hod _ => hbad fun h => y1 (hod.1 h).1
        rw [decide_eq_false y1, e]
        clear w1 w2 w3
        repeat (with_reducible first|(first|refine pI1 ?_|refine pS1 ?_);intros|refine pA1 ?_|refine pX1 ?_|refine pB1 ?_|exact True.intro)
        exact ⟨rfl, by omega, fun b hb => by rw [fn _ fun xn => xn b (by omega)]; exact f9 _ fun _ ym _ _ _ _ => ym b hb⟩
      rw [decide_eq_true y1]
      obtain ⟨y11, y12⟩ := y1
      obtain ⟨u, rfl⟩ : ∃ w : Nat, u = w := ⟨u.toNat, by omega⟩
      obtain ⟨lp2, yp2, ep2, hlp2, v3⟩ := f1 _ fun _ _ _ _ _ hport _ _ _ _ => hport u (by omega)
      cases ep2
      rw [← f9 _ fun _ ym _ _ _ _ => ym lp (by omega), ← fn _ fun xn => xn lp (by omega)] at v3
      generalize hpu : c.port (u : Nat) = pu at *
      obtain ⟨upa, ukd, udr, usz, udp, ufr⟩ := pu
      obtain ⟨w4, w5, w6⟩ := ld6 v3
      have fpu : Hid _ := fun (A : Prop) (h : _ → A) => h hpu
      clear hpu v3
      dsimp only at w4 w5 w6
      have hob : ¬ (udr = 2 ∧ ukd = kd ∧ usz = sz) → dB c.okLinks = false := fun h => f9 _ fun _ _ hbad _ hod _ => hbad fun h' => h (hod.1 h').2
      have fob : Hid _ := fun (A : Prop) (h : _ → A) => h hob
      clear hob
      by_cases y2 : udr = 2
      case neg =>
        have e := fob _ fun h => h fun h' => y2 h'.1
        rw [e]
        clear w1 w2 w3 w5 w6
        repeat (with_reducible first|(first|refine pI1 ?_|refine pS1 ?_);intros|refine pA1 ?_|refine pX1 ?_|refine pB1 ?_|exact True.intro)
        exact ⟨rfl, by omega, fun b hb => by rw [fn _ fun xn => xn b (by omega)]; exact f9 _ fun _ ym _ _ _ _ => ym b hb⟩
      by_cases y3 : ukd = kd
      case neg =>
        have e := fob _ fun h => h fun h' => y3 h'.2.1
        rw [e]
        subst y2
        repeat (with_reducible first|(first|refine pI1 ?_|refine pS1 ?_);intros|refine pA1 ?_|refine pX1 ?_|refine pB1 ?_|exact True.intro)
        exact ⟨rfl, by omega, fun b hb => by rw [fn _ fun xn => xn b (by omega)]; exact f9 _ fun _ ym _ _ _ _ => ym b hb⟩
      by_cases y4 : usz = sz
      case neg =>
        have e := fob _ fun h => h fun h' => y4 h'.2.2
        rw [e]
        subst y2
        subst y3
        repeat (with_reducible first|(first|refine pI1 ?_|refine pS1 ?_);intros|refine pA1 ?_|refine pX1 ?_|refine pB1 ?_|exact True.intro)
        exact ⟨rfl, by omega, fun b hb => by rw [fn _ fun xn => xn b (by omega)]; exact f9 _ fun _ ym _ _ _ _ => ym b hb⟩
      have hP := f9 _ fun _ _ _ hnext hod _ => hnext (hod.2 ⟨⟨y11, y12⟩, y2, y3, y4⟩)
      have fP : Hid _ := fun (A : Prop) (h : _ → A) => h hP
      clear hP fob
      subst y2
      subst y3
      subst y4
      repeat (with_reducible first|(first|refine pI1 ?_|refine pS1 ?_);intros|refine pA1 ?_|refine pX1 ?_|refine pB1 ?_|exact True.intro)
      rename_i b9 H9 p9 g9 x9
      have hx9 : ∀ d, d < Hm.length → H9[d]? = Hm[d]? := fun d hd => by rw [x9 d (by omega)]; exact fn _ fun xn => xn d hd
      have hgr := f9 _ fun hall _ _ _ _ _ => hall.2.2.2.1.keepX (H' := H9) hx9
      have haw : away aa b3 := f9 _ fun hall _ _ _ _ _ => hall.2.2.1
      refine outM_appG (j := 1) hgr (by omega) (Sl.blk g9 rfl) (by omega) (by omega) ?_
      intro a2 Ha r1 r2 r3 r4 r5
      have hb3 : Ha[b3]? = H8[b3]? := by rw [r4 b3 (by omega) haw, hx9 b3 (by omega)]; exact f9 _ fun hall _ _ _ _ _ => hall.2.1
      rw [show nums (Cfg.used (List.take i c.links) ++ (s : Int) :: List.take k dests) ++ [Cell.int .i64 (u : Nat)] = nums (Cfg.used (List.take i c.links) ++ ((s : Int) :: dests.take (k + 1))) by rw [f9 _ fun _ _ _ _ _ htk => htk, ← List.append_assoc, nums_app _ [(u : Int)]]; rfl] at r1
      have fr : Hid _ := fun (A : Prop) (h : _ → _ → _ → _ → _ → A) => h r1 r3 hx9 hb3 r5
      clear r1 r3 r4 r5 hx9 hb3 hgr haw x9 g9
      repeat (with_reducible first|(first|refine pI1 ?_|refine pS1 ?_);intros|refine pA1 ?_|refine pX1 ?_|refine pB1 ?_|exact True.intro)
      exact loopQ_n (dl - (k + 1)) (by omega) ⟨_, k + 1, true, Ha, a2, rfl, rfl, by omega, zf, zf, zf, zf, zf, by omega, fr _ fun r1 r3 hx9 hb3 r5 => ⟨fun d hd => by rw [r3 d hd, hx9 d (by omega)]; exact f9 _ fun hall _ _ _ _ _ => hall.1 d hd, hb3, r5 b3 (by omega), r1, fP _ fun h => h⟩⟩
    · obtain rfl : k = dl := by omega
      have hxk : ¬ (k : Int) < (k : Int) := by omega
      have hU : Cfg.used (c.links.take (i + 1)) = Cfg.used (c.links.take i) ++ ((s : Int) :: dests.take k) := f1 _ fun _ _ _ _ _ _ _ _ hlk hdl' => by
        rw [used_take (fin0 _ fun _ _ _ _ hn _ _ => by omega), hlk, ← hdl', List.take_length]
      have hok1 : ∀ j, j < i + 1 → c.okLink (c.link j) := fun j hj => by
        by_cases e : j = i
        · subst e
          refine ⟨fsrc _ fun h => h, fun x hx => ?_⟩
          rw [f1 _ fun _ _ _ _ _ _ _ _ hlk _ => hlk] at hx ⊢
          obtain ⟨t, ht, rfl⟩ := gn_of hx
          exact hall.2.2.2.2 t (by have : t < dests.length := ht; have := f1 _ fun _ _ _ _ _ _ _ _ _ hdl' => hdl'; omega)
        · exact f1 _ fun hall _ _ _ _ _ _ _ _ _ => hall.2.2 j (by omega)
      have hlenU : (Cfg.used (c.links.take (i + 1))).length = nu + 1 + k := by
        have := hall.2.2.2.1.len
        rw [nums_len, Nat.mul_one] at this
        rw [hU]; exact this
      have hmany : m < nu + 1 + k → dB c.okLinks = false := fun h => dB_f fun h' => by
        have := used_few (c := c) (i := i + 1) (fin0 _ fun _ _ _ _ hn _ _ => by omega) hok1 fun n => Nat.le_trans (used_le n) (h'.2.2.1 n)
        rw [hlenU, fin0 _ fun _ _ _ _ _ hm _ => hm] at this
        omega
      have f9 : Hid _ := fun (A : Prop) (h : _ → _ → _ → _ → A) => h hall hU hok1 hmany
      clear hall hU hok1 hmany hlenU
      by_cases hmm : m < nu + 1 + k
      · have e := f9 _ fun _ _ _ h => h hmm
        have hmi : (m : Int) < (nu : Int) + 1 + k := by omega
        rw [e]
        repeat (with_reducible first|(first|refine pI1 ?_|refine pS1 ?_);intros|refine pA1 ?_|refine pX1 ?_|refine pB1 ?_|exact True.intro)
        exact ⟨rfl, by omega, fun b hb => by rw [f9 _ fun hall _ _ _ => hall.1 b (by omega)]; exact fx _ fun x1 => x1 b (by omega)⟩
      · have hmi : ¬ (m : Int) < (nu : Int) + 1 + k := by omega
        repeat (with_reducible first|(first|refine pI1 ?_|refine pS1 ?_);intros|refine pA1 ?_|refine pX1 ?_|refine pB1 ?_|exact True.intro)
        exact loopQ_n (n - (i + 1)) (by omega) ⟨_, i + 1, nu + 1 + k, oo, Hm, aa, rfl, rfl, by omega, zf, zf, zf, by omega, by omega, f9 _ fun hall hU hok1 _ => ⟨hall.1, by rw [hU]; exact hall.2.2.2.1, hok1⟩⟩
  · obtain rfl : i = n := by omega
    have hxt : ¬ (i : Int) < (i : Int) := by omega
    have yk : ∀ b, b < H.length → Hk[b]? = H[b]? := fun b hb => (hall.1 b (by omega)).trans (fx _ fun x1 => x1 b (by omega))
    have htl : c.links.take i = c.links := fin0 _ fun _ _ _ _ hn _ _ => by rw [← hn]; exact List.take_length
    have fy : Hid _ := fun (A : Prop) (h : _ → _ → _ → A) => h yk htl hall
    clear yk htl hall
    repeat (with_reducible first|(first|refine pI1 ?_|refine pS1 ?_);intros|refine pA1 ?_|refine pX1 ?_|refine pB1 ?_|exact True.intro)
    refine fin0 _ fun _ _ _ hcounts hn hm _ => fy _ fun yk htl hall => ?_
    rw [htl] at hall
    have hl := hall.2.1.len
    rw [nums_len, Nat.mul_one] at hl
    rw [← hn, ← hm] at k1
    exact hcounts Hk _ b1 nu ua uo zf zf k1 (by omega) yk (fun j hj => hall.2.2 j (by omega)) hall.2.1.sl hl hnu
end
end Go.Proofs.Ytbgmbnikpjjmcaa.AM.D07
