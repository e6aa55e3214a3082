/- What the document's functions of chapter 2 come to: the check. -/
import Derived.Test.YtbgmbnikpjjmcaaD07C02r
import Derived.Test.YtbgmbnikpjjmcaaA4
set_option linter.unusedVariables false
set_option linter.unusedSimpArgs false
set_option linter.unusedSectionVars false
namespace Go.Proofs.Ytbgmbnikpjjmcaa.AM.D07
open Go Go.Proofs.Ytbgmbnikpjjmcaa.AM Go.Proofs.Ytbgmbnikpjjmcaa.AM.C02
set_option maxHeartbeats 2000000
set_option maxRecDepth 100000
attribute [local go_sem] tn_add1 tn_sub1 put_all' nums_len sub12
structure Few (c : Cfg) : Prop where
  owners : c.owners.length ≤ 10000000
  ports : c.ports.length ≤ 10000000
  dests : ∀ l ∈ c.links, l.dests.length ≤ 1048576
section
variable {N : Nat} {H : Heap} {c : Cfg} {h : Hd}
theorem s_rCheck (hc : CfgM N H c h) (hN : N ≤ H.length) (hf : Few c) : WC F fn_rotaref02_Check [.agg (c.cells h)] H fun v H' => v = .c (.int .i64 c.check) ∧ Xt H H' := by
  refine WC_start e_rotaref02_Check (by simp) ?_
  unfold c_rotaref02_Check
  have h1 := fun (Hx : Heap) (hx : Xt H Hx) => s_rnodes (H := Hx) (hc.keep fun b hb => hx.2 b (by omega)) (by have := hx.1; omega) hf.owners
  have h2 := fun (Hx : Heap) => s_rclock (H := Hx) (c := c) (h := h)
  have h3 := fun (Hx : Heap) (hx : Xt H Hx) (ho : c.okNodes) => s_rparts (H := Hx) (hc.keep fun b hb => hx.2 b (by omega)) (by have := hx.1; omega) ⟨ho.1, ho.2.1⟩
  have h4 := fun (Hx : Heap) (hx : Xt H Hx) (ho : c.okNodes) (hp : c.okParts) => s_rwins (H := Hx) (hc.keep fun b hb => hx.2 b (by omega)) (by have := hx.1; omega) ⟨ho.1, ho.2.1⟩ hp.1
  have h5 := fun (Hx : Heap) (hx : Xt H Hx) (hp : c.okParts) => s_rports (H := Hx) (hc.keep fun b hb => hx.2 b (by omega)) (by have := hx.1; omega) hp.1 hf.ports
  have h6 := fun (Hx : Heap) (hx : Xt H Hx) (hp : c.okPorts) => s_rlinks (H := Hx) (hc.keep fun b hb => hx.2 b (by omega)) (by have := hx.1; omega) hp hf.dests
  obtain ⟨C, hC⟩ : ∃ C, C = c.cells h := ⟨_, rfl⟩
  have hsub : sub C 0 12 = some C := by rw [hC]; rfl
  rw [← hC] at h1 h2 h3 h4 h5 h6 ⊢
  have hck : c.check = if dB c.okNodes = false then 21 else if dB c.okClock = false then 22 else if dB c.okParts = false then 23 else if dB c.okWins = false then 24 else if dB c.okPorts = false then 25 else if dB c.okLinks = false then 26 else 0 := rfl
  obtain ⟨ck, hck'⟩ : ∃ ck, c.check = ck := ⟨_, rfl⟩
  rw [hck'] at hck ⊢
  have fin0 : Hid _ := fun (A : Prop) (h : _ → _ → _ → _ → _ → _ → _ → A) => h h1 h2 h3 h4 h5 h6 hck
  clear h1 h2 h3 h4 h5 h6 hck hck' hC hc hf
  repeat (with_reducible first|(first|refine pI1 ?_|refine pS1 ?_);intros|refine pA1 ?_|refine pX1 ?_|refine pB1 ?_|exact True.intro)
  rename_i b1 H1 p1 g1 x1
  have t1 : Xt H H1 := ⟨by omega, fun b hb => x1 b (by omega)⟩
  have f1 : Hid _ := fun (A : Prop) (h : _ → A) => h t1
  clear x1 t1
  repeat (with_reducible first|(first|refine pI1 ?_|refine pS1 ?_);intros|refine pA1 ?_|refine pX1 ?_|refine pB1 ?_|exact True.intro)
  refine outM_call (fin0 _ fun h _ _ _ _ _ _ => f1 _ fun t => h H1 t) ?_
  rintro _ H2 ⟨rfl, l2, x2⟩
  have g2 := (x2 b1 (by omega)).trans g1
  have t2 : Xt H H2 := f1 _ fun t => ⟨by omega, fun b hb => (x2 b (by omega)).trans (t.2 b hb)⟩
  have f2 : Hid _ := fun (A : Prop) (h : _ → A) => h t2
  clear x2 t2 g1 f1
  by_cases o1 : c.okNodes
  case neg =>
    have e : ck = 21 := fin0 _ fun _ _ _ _ _ _ hck => by rw [hck, if_pos (dB_f o1)]
    rw [dB_f o1]
    subst e
    clear o1
    repeat (with_reducible first|(first|refine pI1 ?_|refine pS1 ?_);intros|refine pA1 ?_|refine pX1 ?_|refine pB1 ?_|exact True.intro)
    exact ⟨rfl, f2 _ fun t => t⟩
  rw [dB_t o1]
  have fo1 : Hid _ := fun (A : Prop) (h : _ → A) => h o1
  clear o1
  repeat (with_reducible first|(first|refine pI1 ?_|refine pS1 ?_);intros|refine pA1 ?_|refine pX1 ?_|refine pB1 ?_|exact True.intro)
  refine outM_call (fin0 _ fun _ h _ _ _ _ _ => h H2) ?_
  rintro _ H3 ⟨rfl, l3, x3⟩
  have g3 := (x3 b1 (by omega)).trans g2
  have t3 : Xt H H3 := f2 _ fun t => ⟨by omega, fun b hb => (x3 b (by omega)).trans (t.2 b hb)⟩
  have f3 : Hid _ := fun (A : Prop) (h : _ → A) => h t3
  clear x3 t3 g2 f2
  by_cases o2 : c.okClock
  case neg =>
    have e : ck = 22 := fin0 _ fun _ _ _ _ _ _ hck => fo1 _ fun o1 => by rw [hck, if_neg (by rw [dB_t o1]; decide), if_pos (dB_f o2)]
    rw [dB_f o2]
    subst e
    clear o2
    repeat (with_reducible first|(first|refine pI1 ?_|refine pS1 ?_);intros|refine pA1 ?_|refine pX1 ?_|refine pB1 ?_|exact True.intro)
    exact ⟨rfl, f3 _ fun t => t⟩
  rw [dB_t o2]
  have fo2 : Hid _ := fun (A : Prop) (h : _ → A) => h o2
  clear o2
  repeat (with_reducible first|(first|refine pI1 ?_|refine pS1 ?_);intros|refine pA1 ?_|refine pX1 ?_|refine pB1 ?_|exact True.intro)
  refine outM_call (fin0 _ fun _ _ h _ _ _ _ => f3 _ fun t => fo1 _ fun o1 => h H3 t o1) ?_
  rintro _ H4 ⟨rfl, l4, x4⟩
  have g4 := (x4 b1 (by omega)).trans g3
  have t4 : Xt H H4 := f3 _ fun t => ⟨by omega, fun b hb => (x4 b (by omega)).trans (t.2 b hb)⟩
  have f4 : Hid _ := fun (A : Prop) (h : _ → A) => h t4
  clear x4 t4 g3 f3
  by_cases o3 : c.okParts
  case neg =>
    have e : ck = 23 := fin0 _ fun _ _ _ _ _ _ hck => fo1 _ fun o1 => fo2 _ fun o2 => by rw [hck, if_neg (by rw [dB_t o1]; decide), if_neg (by rw [dB_t o2]; decide), if_pos (dB_f o3)]
    rw [dB_f o3]
    subst e
    clear o3
    repeat (with_reducible first|(first|refine pI1 ?_|refine pS1 ?_);intros|refine pA1 ?_|refine pX1 ?_|refine pB1 ?_|exact True.intro)
    exact ⟨rfl, f4 _ fun t => t⟩
  rw [dB_t o3]
  have fo3 : Hid _ := fun (A : Prop) (h : _ → A) => h o3
  clear o3
  repeat (with_reducible first|(first|refine pI1 ?_|refine pS1 ?_);intros|refine pA1 ?_|refine pX1 ?_|refine pB1 ?_|exact True.intro)
  refine outM_call (fin0 _ fun _ _ _ h _ _ _ => f4 _ fun t => fo1 _ fun o1 => fo3 _ fun o3 => h H4 t o1 o3) ?_
  rintro _ H5 ⟨rfl, l5, x5⟩
  have g5 := (x5 b1 (by omega)).trans g4
  have t5 : Xt H H5 := f4 _ fun t => ⟨by omega, fun b hb => (x5 b (by omega)).trans (t.2 b hb)⟩
  have f5 : Hid _ := fun (A : Prop) (h : _ → A) => h t5
  clear x5 t5 g4 f4
  by_cases o4 : c.okWins
  case neg =>
    have e : ck = 24 := fin0 _ fun _ _ _ _ _ _ hck => fo1 _ fun o1 => fo2 _ fun o2 => fo3 _ fun o3 => by rw [hck, if_neg (by rw [dB_t o1]; decide), if_neg (by rw [dB_t o2]; decide), if_neg (by rw [dB_t o3]; decide), if_pos (dB_f o4)]
    rw [dB_f o4]
    subst e
    clear o4
    repeat (with_reducible first|(first|refine pI1 ?_|refine pS1 ?_);intros|refine pA1 ?_|refine pX1 ?_|refine pB1 ?_|exact True.intro)
    exact ⟨rfl, f5 _ fun t => t⟩
  rw [dB_t o4]
  have fo4 : Hid _ := fun (A : Prop) (h : _ → A) => h o4
  clear o4
  repeat (with_reducible first|(first|refine pI1 ?_|refine pS1 ?_);intros|refine pA1 ?_|refine pX1 ?_|refine pB1 ?_|exact True.intro)
  refine outM_call (fin0 _ fun _ _ _ _ h _ _ => f5 _ fun t => fo3 _ fun o3 => h H5 t o3) ?_
  rintro _ H6 ⟨rfl, l6, x6⟩
  have g6 := (x6 b1 (by omega)).trans g5
  have t6 : Xt H H6 := f5 _ fun t => ⟨by omega, fun b hb => (x6 b (by omega)).trans (t.2 b hb)⟩
  have f6 : Hid _ := fun (A : Prop) (h : _ → A) => h t6
  clear x6 t6 g5 f5
  by_cases o5 : c.okPorts
  case neg =>
    have e : ck = 25 := fin0 _ fun _ _ _ _ _ _ hck => fo1 _ fun o1 => fo2 _ fun o2 => fo3 _ fun o3 => fo4 _ fun o4 => by rw [hck, if_neg (by rw [dB_t o1]; decide), if_neg (by rw [dB_t o2]; decide), if_neg (by rw [dB_t o3]; decide), if_neg (by rw [dB_t o4]; decide), if_pos (dB_f o5)]
    rw [dB_f o5]
    subst e
    clear o5
    repeat (with_reducible first|(first|refine pI1 ?_|refine pS1 ?_);intros|refine pA1 ?_|refine pX1 ?_|refine pB1 ?_|exact True.intro)
    exact ⟨rfl, f6 _ fun t => t⟩
  rw [dB_t o5]
  have fo5 : Hid _ := fun (A : Prop) (h : _ → A) => h o5
  clear o5
  repeat (with_reducible first|(first|refine pI1 ?_|refine pS1 ?_);intros|refine pA1 ?_|refine pX1 ?_|refine pB1 ?_|exact True.intro)
  refine outM_call (fin0 _ fun _ _ _ _ _ h _ => f6 _ fun t => fo5 _ fun o5 => h H6 t o5) ?_
  rintro _ H7 ⟨rfl, l7, x7⟩
  have t7 : Xt H H7 := f6 _ fun t => ⟨by omega, fun b hb => (x7 b (by omega)).trans (t.2 b hb)⟩
  have f7 : Hid _ := fun (A : Prop) (h : _ → A) => h t7
  clear x7 t7 g6 f6
  by_cases o6 : c.okLinks
  case neg =>
    have e : ck = 26 := fin0 _ fun _ _ _ _ _ _ hck => fo1 _ fun o1 => fo2 _ fun o2 => fo3 _ fun o3 => fo4 _ fun o4 => fo5 _ fun o5 => by rw [hck, if_neg (by rw [dB_t o1]; decide), if_neg (by rw [dB_t o2]; decide), if_neg (by rw [dB_t o3]; decide), if_neg (by rw [dB_t o4]; decide), if_neg (by rw [dB_t o5]; decide), if_pos (dB_f o6)]
    rw [dB_f o6]
    subst e
    clear o6
    repeat (with_reducible first|(first|refine pI1 ?_|refine pS1 ?_);intros|refine pA1 ?_|refine pX1 ?_|refine pB1 ?_|exact True.intro)
    exact ⟨rfl, f7 _ fun t => t⟩
  have e : ck = 0 := fin0 _ fun _ _ _ _ _ _ hck => fo1 _ fun o1 => fo2 _ fun o2 => fo3 _ fun o3 => fo4 _ fun o4 => fo5 _ fun o5 => by rw [hck, if_neg (by rw [dB_t o1]; decide), if_neg (by rw [dB_t o2]; decide), if_neg (by rw [dB_t o3]; decide), if_neg (by rw [dB_t o4]; decide), if_neg (by rw [dB_t o5]; decide), if_neg (by rw [dB_t o6]; decide)]
  rw [dB_t o6]
  subst e
  clear o6
  repeat (with_reducible first|(first|refine pI1 ?_|refine pS1 ?_);intros|refine pA1 ?_|refine pX1 ?_|refine pB1 ?_|exact True.intro)
  exact ⟨rfl, f7 _ fun t => t⟩
end
theorem lk_rowW {H : Heap} {x : Lk.T.D} {cs : List Cell} (h : Vw Lk.T H x cs) : ∃ e, LkR H.length H e cs ∧ e.dests.length ≤ wt Lk.T x := by
  obtain ⟨_, _, rfl, ⟨rfl, w1⟩, _, _, rfl, h3, _, _, rfl, ⟨rfl, w2⟩, rfl⟩ := h
  obtain ⟨a, c, rfl, h1, h2, h3, h4⟩ := Vw.nums h3
  refine ⟨⟨x.1, x.2.1, x.2.2.1⟩, ⟨a, c, rfl, h3, fun b x e => h3.lt e, h4, h1, h2, wf_i64 w1, wf_i64 w2⟩, ?_⟩
  show List.length (α := Int) x.2.1 ≤ 1 + (1 + (List.map (fun d => wt I d) x.2.1).sum + (1 + 0))
  have : (List.map (fun d => wt I d) x.2.1).sum = List.length (α := Int) x.2.1 := by
    generalize x.2.1 = l
    show (List.map (fun _ : Int => 1) l).sum = _
    have hs : ∀ l : List Int, (List.map (fun _ : Int => 1) l).sum = l.length := fun l => by
      induction l with
      | nil => rfl
      | cons y l ih => simp only [List.map_cons, List.sum_cons, ih, List.length_cons]; omega
    exact hs l
  omega
theorem len1 {α : Type} (l : List α) : (l.map fun _ => 1).sum = l.length := by
  induction l with
  | nil => rfl
  | cons x l ih => simp only [List.map_cons, List.sum_cons, ih, List.length_cons]; omega
theorem cfg_rowW {H : Heap} {x : Cfg.T.D} {cs : List Cell} (h : Vw Cfg.T H x cs) : ∃ c h, cs = c.cells h ∧ CfgM H.length H c h ∧ (wt Cfg.T x ≤ 1048576 → Few c) := by
  obtain ⟨_, _, rfl, ⟨rfl, w1⟩, _, _, rfl, ho, _, _, rfl, ⟨rfl, w2⟩, _, _, rfl, ⟨rfl, w3⟩, _, _, rfl, ⟨rfl, w4⟩, _, _, rfl, ⟨rfl, w5⟩, _, _, rfl, ⟨rfl, w6⟩, _, _, rfl, ⟨rfl, w7⟩, _, _, rfl, hp, _, _, rfl, hw, _, _, rfl, hq, _, _, rfl, hl, rfl⟩ := h
  obtain ⟨a1, c1, rfl, k1, k2, k3, k4⟩ := Vw.nums ho
  obtain ⟨a8, c8, lp, rfl, p1, p2, p3⟩ := Vw.tab (R := PaR) (fun _ _ => pa_row) hp
  obtain ⟨a9, c9, lw, rfl, q1, q2, q3⟩ := Vw.tab (T := .sl I) (R := RowR H.length) (fun _ _ => row_row) hw
  obtain ⟨a10, c10, lt, rfl, r1, r2, r3, r4⟩ := Vw.tabW (R := PtR) (S := fun x _ => 1 ≤ wt Pt.T x) (fun _ _ h => (pt_row h).imp fun _ h => ⟨h, by show 1 ≤ 1 + _; omega⟩) hq
  obtain ⟨a11, c11, ll, rfl, s1, s2, s3, s4⟩ := Vw.tabW (R := LkR H.length) (S := fun x e => e.dests.length ≤ wt Lk.T x) (fun _ _ => lk_rowW) hl
  refine ⟨⟨_, _, _, _, _, _, _, _, lp, lw, lt, ll⟩, ⟨a1, c1, a8, c8, a9, c9, a10, c10, a11, c11⟩, rfl, ⟨k3, fun b x e => k3.lt e, p3, q3, r3, s3, wf_i64 w1, wf_i64 w2, wf_i64 w3, wf_i64 w4, wf_i64 w5, wf_i64 w6, wf_i64 w7, k4⟩, fun hwt => ?_⟩
  have b1 := all2_wt (f := fun _ => 1) r4
  have b2 := all2_wt (f := fun l : Lk => l.dests.length) s4
  rw [len1] at b1
  have hx : wt Cfg.T x = 1 + (wt (.sl I) x.2.1 + (1 + (1 + (1 + (1 + (1 + (1 + (wt (.sl Pa.T) x.2.2.2.2.2.2.2.2.1 + (wt (.sl (.sl I)) x.2.2.2.2.2.2.2.2.2.1 + (wt (.sl Pt.T) x.2.2.2.2.2.2.2.2.2.2.1 + (wt (.sl Lk.T) x.2.2.2.2.2.2.2.2.2.2.2.1 + 0))))))))))) := rfl
  have hp' : wt (.sl Pt.T) x.2.2.2.2.2.2.2.2.2.2.1 = 1 + (x.2.2.2.2.2.2.2.2.2.2.1.map fun d => wt Pt.T d).sum := rfl
  have hl' : wt (.sl Lk.T) x.2.2.2.2.2.2.2.2.2.2.2.1 = 1 + (x.2.2.2.2.2.2.2.2.2.2.2.1.map fun d => wt Lk.T d).sum := rfl
  have ho' : wt (.sl I) x.2.1 = 1 + List.length (α := Int) x.2.1 := congrArg (1 + ·) (len1 (α := Int) x.2.1)
  refine ⟨by show List.length (α := Int) x.2.1 ≤ _; omega, by show lt.length ≤ _; omega, fun l hl => ?_⟩
  have hmem : ∀ {ll : List Lk}, l ∈ ll → l.dests.length ≤ (ll.map fun l : Lk => l.dests.length).sum := fun {ll} => by
    induction ll with
    | nil => intro h; cases h
    | cons y ll ih =>
      intro h
      simp only [List.map_cons, List.sum_cons]
      rcases List.mem_cons.1 h with rfl | h
      · omega
      · have := ih h; omega
  have := hmem (ll := ll) hl
  omega
end Go.Proofs.Ytbgmbnikpjjmcaa.AM.D07
