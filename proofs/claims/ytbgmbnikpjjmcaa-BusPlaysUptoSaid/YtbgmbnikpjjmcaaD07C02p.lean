/- What the document's functions of chapter 2 come to: links, two by two. -/
import Derived.Test.YtbgmbnikpjjmcaaD07C02o
import Derived.Test.YtbgmbnikpjjmcaaD07C02g
set_option linter.unusedVariables false
set_option linter.unusedSimpArgs false
set_option linter.unusedSectionVars false
namespace Go.Proofs.Ytbgmbnikpjjmcaa.AM.D07
open Go Go.Proofs.Ytbgmbnikpjjmcaa.AM Go.Proofs.Ytbgmbnikpjjmcaa.AM.C02
set_option maxHeartbeats 2000000
set_option maxRecDepth 100000
attribute [local go_sem] tn_add1 tn_sub1 put_all' nums_len sub12 sub3 sub6 rep6
section
variable {N : Nat} {H : Heap} {c : Cfg} {h : Hd}
theorem lk_view (hc : CfgM N H c h) (hpt : c.okPorts) {j : Nat} (hj : j < c.links.length) (hl : c.okLink (c.link j)) : ∃ la y ad cd, ∃ s o z p : Nat, ∃ lp yp kd dr dp fr lq yq nd, h.a11 = some (la, y) ∧ la < N ∧ ldnB H[la]? (y + j * 3) 3 = some [.int .i64 (s : Nat), .sl ad (c.link j).dests.length cd false, .int .i64 (o : Nat)] ∧
    h.a10 = some (lp, yp) ∧ lp < N ∧ ldnB H[lp]? (yp + s * 6) 6 = some [.int .i64 (p : Nat), .int .i64 kd, .int .i64 dr, .int .i64 (z : Nat), .int .i64 dp, .int .i64 fr] ∧ h.a8 = some (lq, yq) ∧ lq < N ∧ ldB H[lq]? (yq + p * 3) = some (.int .i64 nd) ∧
    (c.part (c.port (c.link j).src).part).node = nd ∧ (c.link j).off = o ∧ (c.port (c.link j).src).size = z ∧ o + 1 + z ≤ 64 ∧ s < c.ports.length ∧ p < c.parts.length := by
  obtain ⟨⟨⟨q1, q2⟩, -, -, q3, q4⟩, -⟩ := hl
  obtain ⟨s, hs⟩ : ∃ s : Nat, (c.link j).src = s := ⟨(c.link j).src.toNat, by omega⟩
  rw [hs] at q1 q2 q4 ⊢
  obtain ⟨la, y, ad, cd, h1, h2, h3, -⟩ := link_at hc hj
  obtain ⟨lp, yp, h4, h5, h6, h7⟩ := port_at hc (i := s) (by omega)
  obtain ⟨h8, h9, h10⟩ := hpt.2 _ h7
  obtain ⟨-, -, z1, z2, -⟩ := h8
  obtain ⟨p, hp⟩ : ∃ p : Nat, (c.port s).part = p := ⟨(c.port s).part.toNat, by omega⟩
  obtain ⟨z, hz⟩ : ∃ z : Nat, (c.port s).size = z := ⟨(c.port s).size.toNat, by omega⟩
  obtain ⟨o, ho⟩ : ∃ o : Nat, (c.link j).off = o := ⟨(c.link j).off.toNat, by omega⟩
  obtain ⟨lq, yq, h11, h12, h13, -⟩ := part_at hc (i := p) (by omega)
  rw [hs, ho] at h3
  unfold Pt.cells at h6
  rw [hp, hz] at h6
  exact ⟨la, y, ad, cd, s, o, z, p, lp, yp, _, _, _, _, lq, yq, _, h1, h2, h3, h4, h5, h6, h11, h12, ld_of_ldn3 h13, by rw [hp], ho, hz, by omega, by omega, by omega⟩
theorem rl_pairs {Hk : Heap} {ρ : Env} {b1 : Nat} (hc : CfgM N H c h) (hN : N ≤ H.length) (hpt : c.okPorts) (hn64 : c.links.length ≤ 64) (e1 : ρ 1 = .c (.ptr (some (b1, 0)))) (k1 : Hk[b1]? = some (.cells (c.cells h) false none)) (lk : H.length ≤ Hk.length) (yk : ∀ b, b < H.length → Hk[b]? = H[b]?)
    (hall : ∀ j, j < c.links.length → c.okLink (c.link j)) (hcn : ∀ n : Int, cn n (Cfg.used c.links) ≤ 1) :
    WO F o_rotaref02_links_28 (L 227 ρ) Hk fun t H' => W F none ((IC.block 6 b_rotaref02_links_41.loop).seq ((IC.ops o_rotaref02_links_42).seq IC.ret)) ⟨t, [], H'⟩ (callQ [(2, none)] fun v H' => v = .c (.bool (dB c.okLinks)) ∧ Xt H H') := by
  unfold Cfg.cells at k1
  obtain ⟨n, hn⟩ : ∃ n, c.links.length = n := ⟨_, rfl⟩
  rw [hn] at hn64 k1
  have fin0 : Hid _ := fun (A : Prop) (h : _ → _ → _ → _ → _ → _ → A) => h hc hpt hall hcn hn yk
  have lb1 := lt_of_get k1
  clear hc hpt hall hcn hn yk
  repeat (with_reducible first|(first|refine pI1 ?_|refine pS1 ?_);intros|refine pA1 ?_|refine pX1 ?_|refine pB1 ?_|exact True.intro)
  refine W_loop (fun m st => ∃ ρ, ∃ k : Nat, ∃ Hl, st = ⟨L 227 ρ, [], Hl⟩ ∧ m = n - k ∧ k ≤ n ∧ ρ 1 = .c (.ptr (some (b1, 0))) ∧ ρ 9 = .c (.int .i64 (k : Nat)) ∧ Hk.length ≤ Hl.length ∧ Hid ((∀ d, d < Hk.length → Hl[d]? = Hk[d]?) ∧ ∀ j l, l < j → j < k → c.apartL l j)) n ⟨_, 0, Hk, rfl, rfl, by omega, zf, zf, Nat.le_refl _, fun _ _ => rfl, fun j l hl hj => by omega⟩ ?_
  clear e1
  rintro m st ⟨ρ, k, Hl, rfl, rfl, hk, e1, e9, ll, hap⟩
  unfold b_rotaref02_links_41
  have k2 := (hap.1 b1 lb1).trans k1
  by_cases hkn : k < n
  · have hxt : (k : Int) < (n : Int) := by omega
    have f2 : Hid _ := fun (A : Prop) (h : _ → A) => h hap
    clear hap k1
    repeat (with_reducible first|(first|refine pI1 ?_|refine pS1 ?_);intros|refine pA1 ?_|refine pX1 ?_|refine pB1 ?_|exact True.intro)
    refine W_loop (fun m st => ∃ ρ, ∃ l : Nat, ∃ Hm, st = ⟨L 227 ρ, [], Hm⟩ ∧ m = k - l ∧ l ≤ k ∧ ρ 1 = .c (.ptr (some (b1, 0))) ∧ ρ 9 = .c (.int .i64 (k : Nat)) ∧ ρ 10 = .c (.int .i64 (l : Nat)) ∧ Hl.length ≤ Hm.length ∧ Hid ((∀ d, d < Hl.length → Hm[d]? = Hl[d]?) ∧ ∀ j, j < l → c.apartL j k)) k ⟨_, 0, Hl, rfl, rfl, by omega, zf, zf, zf, Nat.le_refl _, fun _ _ => rfl, fun j hj => by omega⟩ ?_
    clear e1 e9
    rintro m st ⟨ρ, l, Hm, rfl, rfl, hl, e1, e9, e10, lm, hal⟩
    unfold b_rotaref02_links_39
    have k3 := (hal.1 b1 (by omega)).trans k2
    by_cases hlk : l < k
    · have hxl : (l : Int) < (k : Int) := by omega
      have ym : ∀ b, b < H.length → Hm[b]? = H[b]? := fun b hb => (hal.1 b (by omega)).trans (f2 _ fun hap => (hap.1 b (by omega)).trans (fin0 _ fun _ _ _ _ _ yk => yk b hb))
      obtain ⟨la, y, ad, cd, s, o, z, p, lp, yp, kd, dr, dp, fr, lq, yq, nd, ea, hla, v1, ep, hlp, v2, eq, hlq, v3, w1, w2, w3, w4, w5, w6⟩ := fin0 _ fun hc hpt hall _ hn _ => lk_view hc hpt (j := k) (by omega) (hall k (by omega))
      obtain ⟨la', y', ad', cd', s', o', z', p', lp', yp', kd', dr', dp', fr', lq', yq', nd', ea', -, v1', ep', -, v2', eq', -, v3', w1', w2', w3', w4', w5', w6'⟩ := fin0 _ fun hc hpt hall _ hn _ => lk_view hc hpt (j := l) (by omega) (hall l (by omega))
      rw [ea] at ea'
      cases ea'
      rw [ep] at ep'
      cases ep'
      rw [eq] at eq'
      cases eq'
      rw [← ym la (by omega)] at v1 v1'
      rw [← ym lp (by omega)] at v2 v2'
      rw [← ym lq (by omega)] at v3 v3'
      have hapd : c.apartL l k ↔ ¬ (nd' = nd ∧ Cfg.meets (o' : Nat) (o' + 1 + z' : Nat) (o : Nat) (o + 1 + z : Nat)) := by
        unfold Cfg.apartL
        rw [w1, w2, w3, w1', w2', w3', show ((o' + 1 + z' : Nat) : Int) = (o' : Int) + 1 + z' by omega, show ((o + 1 + z : Nat) : Int) = (o : Int) + 1 + z by omega]
      have hnot : ¬ c.apartL l k → dB c.okLinks = false := fun h => dB_f fun h' => h (h'.2.2.2 l k hlk (fin0 _ fun _ _ _ _ hn _ => by omega))
      have hnext : c.apartL l k → ∀ j, j < l + 1 → c.apartL j k := fun h j hj => by
        by_cases e : j = l
        · subst e; exact h
        · exact hal.2 j (by omega)
      generalize c.apartL l k = P at *
      obtain ⟨dl, hdl⟩ : ∃ dl, (c.link k).dests.length = dl := ⟨_, rfl⟩
      obtain ⟨dl', hdl'⟩ : ∃ dl, (c.link l).dests.length = dl := ⟨_, rfl⟩
      rw [hdl] at v1
      rw [hdl'] at v1'
      have hcom : Cfg.meets (o : Nat) (o + 1 + z : Nat) (o' : Nat) (o' + 1 + z' : Nat) ↔ Cfg.meets (o' : Nat) (o' + 1 + z' : Nat) (o : Nat) (o + 1 + z : Nat) := by unfold Cfg.meets; omega
      have fin2 : Hid _ := fun (A : Prop) (h : _ → _ → _ → _ → _ → _ → A) => h hnot hnext hal ym hapd hcom
      clear hnot hnext hal ym hapd hcom w1 w2 w3 w1' w2' w3' hdl hdl'
      rw [ea, ep, eq] at k3
      have fea : Hid _ := fun (A : Prop) (h : _ → _ → _ → A) => h ea ep eq
      clear ea ep eq k2
      have hmt := fun Hx => s_rmeet (H := Hx) (a := o) (b := o + 1 + z) (c := o') (d := o' + 1 + z') (by omega)
      rw [show ((o' + 1 + z' : Nat) : Int) = (o' : Int) + 1 + z' by omega, show ((o + 1 + z : Nat) : Int) = (o : Int) + 1 + z by omega] at hmt
      have fmt : Hid _ := fun (A : Prop) (h : _ → A) => h hmt
      clear hmt
      by_cases c1 : nd = nd'
      · subst c1
        repeat (with_reducible first|(first|refine pI1 ?_|refine pS1 ?_);intros|refine pA1 ?_|refine pX1 ?_|refine pB1 ?_|exact True.intro)
        rename_i b3 H3 p3 g3 x3 H4 l4 g4 x4 b5 H5 p5 g5 x5 H6 l6 g6 x6 b7 H7 p7 g7 x7 H8 l8 g8 x8 b9 H9 p9 g9 x9 Ha la_ ga xa
        have k3' := (xa b1 (by omega)).trans ((x9 b1 (by omega)).trans ((x8 b1 (by omega)).trans ((x7 b1 (by omega)).trans ((x6 b1 (by omega)).trans ((x5 b1 (by omega)).trans ((x4 b1 (by omega)).trans ((x3 b1 (by omega)).trans k3)))))))
        have hxa : ∀ d, d < Hm.length → Ha[d]? = Hm[d]? := fun d hd => by rw [xa d (by omega), x9 d (by omega), x8 d (by omega), x7 d (by omega), x6 d (by omega), x5 d (by omega), x4 d (by omega), x3 d (by omega)]
        have fh : Hid _ := fun (A : Prop) (h : _ → A) => h hxa
        clear x3 x4 x5 x6 x7 x8 x9 xa g3 g4 g5 g6 g7 g8 g9 ga k3 v1 v1' v2 v2' v3 v3' hxa
        repeat (with_reducible first|(first|refine pI1 ?_|refine pS1 ?_);intros|refine pA1 ?_|refine pX1 ?_|refine pB1 ?_|exact True.intro)
        refine outM_call (fmt _ fun h => h Ha) ?_
        rintro _ Ha ⟨rfl, rfl⟩
        by_cases hme : Cfg.meets o (o + 1 + z) o' (o' + 1 + z')
        · have e := fin2 _ fun hnot _ _ _ hapd hcom => hnot fun hp => (hapd.1 hp) ⟨rfl, hcom.1 (by rw [show ((o' + 1 + z' : Nat) : Int) = (o' : Int) + 1 + z' by omega, show ((o + 1 + z : Nat) : Int) = (o : Int) + 1 + z by omega]; exact hme)⟩
          rw [dB_t hme, e]
          clear hme e
          repeat (with_reducible first|(first|refine pI1 ?_|refine pS1 ?_);intros|refine pA1 ?_|refine pX1 ?_|refine pB1 ?_|exact True.intro)
          exact ⟨rfl, by omega, fun b hb => by rw [fh _ fun h => h b (by omega)]; exact fin2 _ fun _ _ _ ym _ _ => ym b hb⟩
        · rw [dB_f hme]
          have fm : Hid _ := fun (A : Prop) (h : _ → A) => h hme
          clear hme
          repeat (with_reducible first|(first|refine pI1 ?_|refine pS1 ?_);intros|refine pA1 ?_|refine pX1 ?_|refine pB1 ?_|exact True.intro)
          exact loopQ_n (k - (l + 1)) (by omega) ⟨_, l + 1, Ha, rfl, rfl, by omega, zf, zf, zf, by omega, fm _ fun hme => fh _ fun hxa => fin2 _ fun _ hnext hal _ hapd hcom => ⟨fun d hd => by rw [hxa d (by omega)]; exact hal.1 d hd, hnext (hapd.2 fun h => hme (by
            have := hcom.2 h.2
            rwa [show ((o' + 1 + z' : Nat) : Int) = (o' : Int) + 1 + z' by omega, show ((o + 1 + z : Nat) : Int) = (o : Int) + 1 + z by omega] at this))⟩⟩
      · repeat (with_reducible first|(first|refine pI1 ?_|refine pS1 ?_);intros|refine pA1 ?_|refine pX1 ?_|refine pB1 ?_|exact True.intro)
        rename_i b3 H3 p3 g3 x3 H4 l4 g4 x4 b5 H5 p5 g5 x5 H6 l6 g6 x6 b7 H7 p7 g7 x7 H8 l8 g8 x8 b9 H9 p9 g9 x9 Ha la_ ga xa
        have k3' := (xa b1 (by omega)).trans ((x9 b1 (by omega)).trans ((x8 b1 (by omega)).trans ((x7 b1 (by omega)).trans ((x6 b1 (by omega)).trans ((x5 b1 (by omega)).trans ((x4 b1 (by omega)).trans ((x3 b1 (by omega)).trans k3)))))))
        have hxa : ∀ d, d < Hm.length → Ha[d]? = Hm[d]? := fun d hd => by rw [xa d (by omega), x9 d (by omega), x8 d (by omega), x7 d (by omega), x6 d (by omega), x5 d (by omega), x4 d (by omega), x3 d (by omega)]
        have fh : Hid _ := fun (A : Prop) (h : _ → A) => h hxa
        clear x3 x4 x5 x6 x7 x8 x9 xa g3 g4 g5 g6 g7 g8 g9 ga k3 v1 v1' v2 v2' v3 v3' hxa
        repeat (with_reducible first|(first|refine pI1 ?_|refine pS1 ?_);intros|refine pA1 ?_|refine pX1 ?_|refine pB1 ?_|exact True.intro)
        exact loopQ_n (k - (l + 1)) (by omega) ⟨_, l + 1, Ha, rfl, rfl, by omega, zf, zf, zf, by omega, fh _ fun hxa => fin2 _ fun _ hnext hal _ hapd hcom => ⟨fun d hd => by rw [hxa d (by omega)]; exact hal.1 d hd, hnext (hapd.2 fun h => c1 h.1.symm)⟩⟩
    · obtain rfl : l = k := by omega
      have hxl : ¬ (l : Int) < (l : Int) := by omega
      have fl : Hid _ := fun (A : Prop) (h : _ → A) => h hal
      clear hal
      repeat (with_reducible first|(first|refine pI1 ?_|refine pS1 ?_);intros|refine pA1 ?_|refine pX1 ?_|refine pB1 ?_|exact True.intro)
      exact loopQ_n (n - (l + 1)) (by omega) ⟨_, l + 1, Hm, rfl, rfl, by omega, zf, zf, by omega, fl _ fun hal => f2 _ fun hap => ⟨fun d hd => by rw [hal.1 d (by omega)]; exact hap.1 d hd, fun j q h1 h2 => by
        by_cases e : j = l
        · subst e; exact hal.2 q h1
        · exact hap.2 j q h1 (by omega)⟩⟩
  · obtain rfl : k = n := by omega
    have hxk : ¬ (k : Int) < (k : Int) := by omega
    have e : dB c.okLinks = true := dB_t (fin0 _ fun _ _ hall hcn hn _ => ⟨by omega, fun l hl => by
      obtain ⟨j, hj, rfl⟩ := List.mem_iff_getElem.1 hl
      have := hall j hj
      rwa [show c.link j = c.links[j] by simp [Cfg.link, hj]] at this, hcn, fun j l h1 h2 => hap.2 l j h1 (by omega)⟩)
    rw [e]
    have fl : Hid _ := fun (A : Prop) (h : _ → A) => h hap
    clear hap
    repeat (with_reducible first|(first|refine pI1 ?_|refine pS1 ?_);intros|refine pA1 ?_|refine pX1 ?_|refine pB1 ?_|exact True.intro)
    exact ⟨rfl, by omega, fun b hb => by rw [fl _ fun hap => hap.1 b (by omega)]; exact fin0 _ fun _ _ _ _ _ yk => yk b hb⟩
end
end Go.Proofs.Ytbgmbnikpjjmcaa.AM.D07
