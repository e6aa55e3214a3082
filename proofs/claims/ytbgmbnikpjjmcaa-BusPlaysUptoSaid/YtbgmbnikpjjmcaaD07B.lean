/- What the functions of chapter 7 come to: BusPlays. -/
import Derived.Test.YtbgmbnikpjjmcaaD07A
set_option linter.unusedVariables false
set_option linter.unusedSimpArgs false
set_option linter.unusedSectionVars false
namespace Go.Proofs.Ytbgmbnikpjjmcaa.AM.D07
open Go Go.Proofs.Ytbgmbnikpjjmcaa.AM Go.Proofs.Ytbgmbnikpjjmcaa.AM.C02 Go.Proofs.Ytbgmbnikpjjmcaa.AM.C07
set_option maxHeartbeats 2000000
set_option maxRecDepth 100000
attribute [local go_sem] tn_add1 tn_sub1 put_all' nums_len sub12 sub3 sub4
theorem turn_all {H : Heap} {a : Option Ad} {l : List Trn} (ht : ∀ p, H.length ≤ p → Tab 4 (TrR H.length p) H.length H a l) {i : Nat} (hi : i < l.length) : ∃ b y a1 c o a2 c2 o2, a = some (b, y) ∧ b < H.length ∧ ldnB H[b]? (y + i * 4) 4 = some [.int .i64 (gt l i).slot, .sl a1 (gt l i).sends.length c o, .sl a2 (gt l i).copies.length c2 o2, .bool (gt l i).pass] ∧
    (∀ p, H.length ≤ p → Snds H.length p H a1 (gt l i).sends) ∧ Tab 3 CpR H.length H a2 (gt l i).copies ∧ (∀ p, H.length ≤ p → ∀ b x, a2 = some (b, x) → b ≠ p) ∧ i64 (gt l i).slot := by
  obtain ⟨b, y, a1, c, o, a2, c2, o2, ea, h1, h2, -, h4, -, h6⟩ := turn_at (ht _ (Nat.le_refl _)) hi
  refine ⟨b, y, a1, c, o, a2, c2, o2, ea, h1, h2, fun p hp => ?_, h4, fun p hp => ?_, h6⟩
  · obtain ⟨b', y', a1', c', o', a2', c2', o2', ea', -, h2', h3', -⟩ := turn_at (ht p hp) hi
    rw [ea] at ea'
    cases ea'
    rw [h2] at h2'
    injection h2' with h2'
    injection h2' with _ h2'
    injection h2' with h2' _
    injection h2' with e1 _
    subst e1
    exact h3'
  · obtain ⟨b', y', a1', c', o', a2', c2', o2', ea', -, h2', -, -, h5', -⟩ := turn_at (ht p hp) hi
    rw [ea] at ea'
    cases ea'
    rw [h2] at h2'
    injection h2' with h2'
    injection h2' with _ h2'
    injection h2' with _ h2'
    injection h2' with h2' _
    injection h2' with e1 _
    subst e1
    exact h5'
theorem trT_keep {N p : Nat} {H H' : Heap} {a : Option Ad} {l : List Trn} (h : Tab 4 (TrR N p) N H a l) (hx : ∀ b, b < N → H'[b]? = H[b]?) : Tab 4 (TrR N p) N H' a l := h.keep (fun t cs ht => by
  obtain ⟨a, c, o, a2, c2, o2, h1, h2, h3, h4⟩ := ht
  exact ⟨a, c, o, a2, c2, o2, h1, h2.keep fun b hb _ => hx b hb, tabC_keep h3 fun b _ _ hb => hx b hb, h4⟩) hx
theorem plays_law {H : Heap} {c : Cfg} {h : Hd} {a : Option Ad} {n cc : Nat} {oo : Bool} {l : List Trn} (hc : CfgM H.length H c h) (hf : Few c) (ht : ∀ p, H.length ≤ p → Tab 4 (TrR H.length p) H.length H a l) (hn : l.length = n) (hb : tP l n ≤ 1048576) (hn2 : n ≤ 1048576) :
    WC F fn_rotalaw07_BusPlays [.agg (c.cells h), .c (.sl a n cc oo)] H fun v _ => v = .c (.bool true) := by
  refine WC_start e_rotalaw07_BusPlays (by simp) ?_
  unfold c_rotalaw07_BusPlays
  have hgr := fun (Hx : Heap) (hx : Xt H Hx) => s_great (c := cc) (o := oo) (trT_keep (H' := Hx) (ht _ (Nat.le_refl _)) fun b hb => hx.2 b hb) hn (by omega)
  have hnew := fun (Hx : Heap) (hx : Xt H Hx) => s_New (hc.keep (H' := Hx) hx.2) hx.1
  have hrnew := fun (Hx : Heap) (hx : Xt H Hx) => s_rNew (hc.keep (H' := Hx) hx.2) hx.1 hf
  obtain ⟨C, hC⟩ : ∃ C, C = c.cells h := ⟨_, rfl⟩
  have hsub : sub C 0 12 = some C := by rw [hC]; rfl
  rw [← hC] at hnew hrnew ⊢
  have hown := hc.owners
  have hownN := hc.ownersN
  have fin0 : Hid _ := fun (A : Prop) (h : _ → _ → _ → _ → _ → _ → _ → A) => h hgr hnew hrnew ht hn hown hownN
  clear hgr hnew hrnew ht hn hown hownN hc hf hC
  repeat (with_reducible first|(first|refine pI1 ?_|refine pS1 ?_);intros|refine pA1 ?_|refine pX1 ?_|refine pB1 ?_|exact True.intro)
  rename_i b2 H2 p2 g2 x2
  have t2 : Xt H H2 := ⟨by omega, fun b hb => x2 b (by omega)⟩
  have f2 : Hid _ := fun (A : Prop) (h : _ → A) => h t2
  clear x2 t2
  repeat (with_reducible first|(first|refine pI1 ?_|refine pS1 ?_);intros|refine pA1 ?_|refine pX1 ?_|refine pB1 ?_|exact True.intro)
  refine outM_call (fin0 _ fun hgr _ _ _ _ _ _ => f2 _ fun t => hgr H2 t) ?_
  rintro _ H2 ⟨rfl, rfl⟩
  by_cases hbig : 5000 < tP l n
  · rw [decide_eq_true hbig]
    repeat (with_reducible first|(first|refine pI1 ?_|refine pS1 ?_);intros|refine pA1 ?_|refine pX1 ?_|refine pB1 ?_|exact True.intro)
    exact rfl
  rw [decide_eq_false hbig]
  repeat (with_reducible first|(first|refine pI1 ?_|refine pS1 ?_);intros|refine pA1 ?_|refine pX1 ?_|refine pB1 ?_|exact True.intro)
  refine outM_call (fin0 _ fun _ hnew _ _ _ _ _ => f2 _ fun t => hnew H2 t) ?_
  rintro v H3 ⟨t3, hv⟩
  have g3 := (t3.2 b2 (by omega)).trans g2
  have l3 := t3.1
  have t3' : Xt H H3 := f2 _ fun t => ⟨by omega, fun b hb => (t3.2 b (by omega)).trans (t.2 b hb)⟩
  have f3 : Hid _ := fun (A : Prop) (h : _ → A) => h t3'
  clear t3 t3' g2 f2
  rcases hv with ⟨hk, rfl⟩ | ⟨hk, p, e, rfl, w1, w2, w3, w4, hbus⟩
  · obtain ⟨k, hk'⟩ : ∃ k, c.check = k := ⟨_, rfl⟩
    rw [hk'] at hk
    have hrn : WC F fn_rotaref07_New [.agg C] H3 fun v _ => v = .tup [.agg [.sl none 0 0 false, .int .u64 0, .int .u64 0], .c (.int .i64 k)] := (fin0 _ fun _ _ hrnew _ _ _ _ => f3 _ fun t => hrnew H3 t).mono fun v H' h => by
      rcases h.2 with ⟨-, h⟩ | ⟨h0, -⟩
      · rw [← hk']; exact h
      · rw [hk'] at h0; exact absurd h0 hk
    rw [hk']
    clear hk' fin0
    repeat (with_reducible first|(first|refine pI1 ?_|refine pS1 ?_);intros|refine pA1 ?_|refine pX1 ?_|refine pB1 ?_|exact True.intro)
    refine outM_call hrn ?_
    rintro _ H4 rfl
    clear hrn
    repeat (with_reducible first|(first|refine pI1 ?_|refine pS1 ?_);intros|refine pA1 ?_|refine pX1 ?_|refine pB1 ?_|exact True.intro)
    exact rfl
  have hok : 4 ≤ c.owners.length ∧ c.owners.length ≤ 16 := by
    obtain ⟨q1, q2, q3, _⟩ := (Cfg.check_ok.1 hk).nodes
    omega
  obtain ⟨hok1, hok2⟩ := hok
  have hrn : WC F fn_rotaref07_New [.agg C] H3 fun v H' => v = .tup [.agg [.sl h.a1 c.owners.length h.c1 false, .int .u64 0, .int .u64 0], .c (.int .i64 0)] ∧ Xt H3 H' := (fin0 _ fun _ _ hrnew _ _ _ _ => f3 _ fun t => hrnew H3 t).mono fun v H' h => by
    rcases h.2 with ⟨h0, -⟩ | ⟨-, h'⟩
    · exact absurd hk h0
    · exact ⟨h', h.1⟩
  have hbus3 := fun (H' : Heap) (hx : ∀ b, b < H3.length → H'[b]? = H3[b]?) => hbus.keep (H' := H') fun b hb => hx b (by rcases hb with rfl | ⟨x, q⟩; exact w2; cases q; exact w4)
  have hep : e ≠ p := hbus.2.2 _ _ rfl
  have fb : Hid _ := fun (A : Prop) (h : _ → A) => h hbus3
  clear hbus3 hbus hk
  repeat (with_reducible first|(first|refine pI1 ?_|refine pS1 ?_);intros|refine pA1 ?_|refine pX1 ?_|refine pB1 ?_|exact True.intro)
  refine outM_call hrn ?_
  rintro _ H4 ⟨rfl, l4, x4⟩
  clear hrn
  repeat (with_reducible first|(first|refine pI1 ?_|refine pS1 ?_);intros|refine pA1 ?_|refine pX1 ?_|refine pB1 ?_|exact True.intro)
  rename_i b7 H5 p5 g5 x5 H6 l6 g6 x6
  have hx6 : ∀ b, b < H3.length → H6[b]? = H3[b]? := fun b hb => by rw [x6 b (by omega), x5 b (by omega), x4 b (by omega)]
  have hw6 : BusM H6 b7 h.a1 h.c1 false c.owners 0 0 := fin0 _ fun _ _ _ _ _ hown hownN => ⟨g6, hown.keep fun b x q => by rw [hx6 b (by have := hownN b x q; omega)]; exact f3 _ fun t => t.2 b (hownN b x q), fun b x q => by have := hownN b x q; omega⟩
  have hp6 := fb _ fun h => h H6 hx6
  have hinit : Hid ((∀ b, b < H.length → H6[b]? = H[b]?) ∧ BusM H6 p (some (e, 0)) c.owners.length true c.owners 0 0 ∧ BusM H6 b7 h.a1 h.c1 false c.owners 0 0) := ⟨fun b hb => by rw [hx6 b (by omega)]; exact f3 _ fun t => t.2 b hb, hp6, hw6⟩
  have l7 := lt_of_get g6
  clear x4 x5 x6 g5 g6 hx6 hw6 hp6 g3 fb f3
  repeat (with_reducible first|(first|refine pI1 ?_|refine pS1 ?_);intros|refine pA1 ?_|refine pX1 ?_|refine pB1 ?_|exact True.intro)
  refine W_loop (fun mm st => ∃ ρ, ∃ i bl pa : Nat, ∃ Hk, st = ⟨L 163 ρ, [], Hk⟩ ∧ mm = n - i ∧ i ≤ n ∧ ρ 1 = .c (.sl a n cc oo) ∧ ρ 5 = .c (.ptr (some (p, 0))) ∧ ρ 7 = .c (.ptr (some (b7, 0))) ∧ ρ 9 = .c (.int .i64 (i : Nat)) ∧ H6.length ≤ Hk.length ∧ Hid ((∀ b, b < H.length → Hk[b]? = H[b]?) ∧ BusM Hk p (some (e, 0)) c.owners.length true c.owners bl pa ∧ BusM Hk b7 h.a1 h.c1 false c.owners bl pa)) n ⟨_, 0, 0, 0, H6, rfl, rfl, by omega, zf, zf, zf, zf, Nat.le_refl _, hinit⟩ ?_
  clear hinit
  rintro mm st ⟨ρ, i, bl, pa, Hk, rfl, rfl, hi, e1, e5, e7, e9, lk, hall⟩
  unfold b_rotalaw07_BusPlays_31
  obtain ⟨Y, hY⟩ : ∃ Y, Y = IC.seq (.ops o_rotalaw07_BusPlays_10) (.cond (.t 58) (.seq (.ops o_rotalaw07_BusPlays_11) (.seq (.ops o_rotalaw07_BusPlays_12) (.seq (.ops o_rotalaw07_BusPlays_13) (.cond (.t 84) (.seq (.ops o_rotalaw07_BusPlays_14) .ret) .skip)))) (.seq (.ops o_rotalaw07_BusPlays_15) (.seq (.ops o_rotalaw07_BusPlays_16) (.seq (.seq (.ops o_rotalaw07_BusPlays_17) (.cond (.t 116) (.seq (.ops o_rotalaw07_BusPlays_18) .ret) .skip)) (.seq (.ops o_rotalaw07_BusPlays_19) (.block 2 (.loop b_rotalaw07_BusPlays_27))))))) := ⟨_, rfl⟩
  rw [← hY]
  have fY : Hid _ := fun (A : Prop) (h : _ → A) => h hY
  clear hY
  have fa : Hid _ := fun (A : Prop) (h : _ → A) => h hall
  clear hall
  by_cases hin : i < n
  · have hxt : (i : Int) < (n : Int) := by omega
    obtain ⟨tb, ty, a1, tc1, to1, a2, tc2, to2, ea, ltb, hld, hsn, hcp, h2, hsl⟩ := fin0 _ fun _ _ _ ht hn _ _ => turn_all ht (i := i) (by omega)
    have htP : tP l (i + 1) = tP l i + 1 + (gt l i).copies.length + sP (gt l i).sends (gt l i).sends.length := rfl
    have htle := tP_le l (show i + 1 ≤ n by omega)
    have hns := len_sP (gt l i).sends (gt l i).sends.length
    have hsby : ∀ j, j < (gt l i).sends.length → (gs (gt l i).sends j).bytes.length ≤ 5000 := fun j hj => by have := sP_at (l := (gt l i).sends) hj; omega
    have hn1 : (gt l i).sends.length ≤ 5000 := by omega
    have hn2 : (gt l i).copies.length ≤ 5000 := by omega
    rw [← fa _ fun h => h.1 tb ltb] at hld
    generalize gt l i = t at *
    obtain ⟨slot, sends, copies, pass⟩ := t
    dsimp only at hld hsn hcp hsl htP hns hsby hn1 hn2
    obtain ⟨n1, hn1e⟩ : ∃ n1, sends.length = n1 := ⟨_, rfl⟩
    obtain ⟨n2, hn2e⟩ : ∃ n2, copies.length = n2 := ⟨_, rfl⟩
    rw [hn1e, hn2e] at hld
    rw [hn1e] at hn1 hsby
    rw [hn2e] at hn2
    have f1 : Hid _ := fun (A : Prop) (h : _ → _ → _ → _ → _ → _ → _ → A) => h hsn hcp h2 hsl hsby hn1e hn2e
    clear hsn hcp h2 hsl hsby hn1e hn2e htP htle hns hbig hb
    subst ea
    repeat (with_reducible first|(first|refine pI1 ?_|refine pS1 ?_);intros|refine pA1 ?_|refine pX1 ?_|refine pB1 ?_|exact True.intro)
    rename_i b10 H8 p8 g8 x8 H9 l9 g9 x9
    have hx9 : ∀ b, b < Hk.length → H9[b]? = Hk[b]? := fun b hb => by rw [x9 b (by omega), x8 b (by omega)]
    have hx9' : ∀ b, b < H.length → H9[b]? = H[b]? := fun b hb => by rw [hx9 b (by omega)]; exact fa _ fun h => h.1 b hb
    have f9 : Hid _ := fun (A : Prop) (h : _ → _ → A) => h hx9 hx9'
    clear x8 x9 g8 hx9 hx9'
    rw [fY _ fun h => h]
    have hk9 := f9 _ fun hx9 _ => fa _ fun hq => (⟨hq.2.1.keep fun b hb => hx9 b (by rcases hb with rfl | ⟨x, q⟩; omega; cases q; omega), hq.2.2.keep fun b hb => hx9 b (by rcases hb with rfl | ⟨x, q⟩; omega; exact fin0 _ fun _ _ _ _ _ _ hownN => by have := hownN b x q; omega)⟩ : BusM H9 p (some (e, 0)) c.owners.length true c.owners bl pa ∧ BusM H9 b7 h.a1 h.c1 false c.owners bl pa)
    refine W_cut _ (plays_turn (N := H.length) (e := e) (cA := c.owners.length) (cw := h.c1) (aw := h.a1) (ws := c.owners) (l := sends) (cps := copies) zf zf zf g9 hk9.1 hk9.2 (by omega) (by omega) (fun b x q => by have := fin0 _ fun _ _ _ _ _ _ hownN => hownN b x q; omega) ⟨by omega, by omega⟩ (by omega) hok2 (by omega) (by omega)
      (f1 _ fun hsn _ _ _ _ _ _ => (hsn p (by omega)).keep fun b hb _ => f9 _ fun _ h => h b hb) (f1 _ fun hsn _ _ _ _ _ _ => (hsn b7 (by omega)).keep fun b hb _ => f9 _ fun _ h => h b hb) (f1 _ fun _ _ _ _ _ h _ => h) hn1 (f1 _ fun _ _ _ _ h _ _ => h) (f1 _ fun _ hcp _ _ _ _ _ => tabC_keep hcp fun b _ _ hb => f9 _ fun _ h => h b hb) (f1 _ fun _ _ h2 _ _ _ _ => h2 p (by omega)) (f1 _ fun _ _ h2 _ _ _ _ => h2 b7 (by omega)) (f1 _ fun _ _ _ _ _ _ h => h) hn2 (f1 _ fun _ _ _ h _ _ _ => h)) ?_
    rintro st ⟨ρ2, Ha, bl', pa', rfl, ⟨y1, y5, y7, y9⟩, la, hpa, hwa, xa⟩
    have z1 : ρ2 1 = .c (.sl (some (tb, ty)) n cc oo) := y1.trans zf
    have z5 : ρ2 5 = .c (.ptr (some (p, 0))) := y5.trans zf
    have z7 : ρ2 7 = .c (.ptr (some (b7, 0))) := y7.trans zf
    have z9 : ρ2 9 = .c (.int .i64 (i : Nat)) := y9.trans zf
    have hb7 := hwa.1
    have hc1 := s_Blocked hpa
    have hc2 := s_Passed hpa
    have fz : Hid _ := fun (A : Prop) (h : _ → _ → _ → A) => h hpa hwa xa
    clear y1 y5 y7 y9 e1 e5 e7 e9 hk9 g9 hpa hwa xa hld
    repeat (with_reducible first|(first|refine pI1 ?_|refine pS1 ?_);intros|refine pA1 ?_|refine pX1 ?_|refine pB1 ?_|exact True.intro)
    refine outM_call hc1 ?_
    rintro _ Ha ⟨rfl, rfl⟩
    repeat (with_reducible first|(first|refine pI1 ?_|refine pS1 ?_);intros|refine pA1 ?_|refine pX1 ?_|refine pB1 ?_|exact True.intro)
    refine outM_call hc2 ?_
    rintro _ Ha ⟨rfl, rfl⟩
    clear hc1 hc2
    repeat (with_reducible first|(first|refine pI1 ?_|refine pS1 ?_);intros|refine pA1 ?_|refine pX1 ?_|refine pB1 ?_|exact True.intro)
    exact loopQ_n (n - (i + 1)) (by omega) ⟨_, i + 1, bl', pa', Ha, rfl, rfl, by omega, zf, zf, zf, zf, by omega, fz _ fun hpa hwa xa => ⟨fun b hb => by rw [xa b (by omega) (by omega) (by omega)]; exact f9 _ fun _ h => h b hb, hpa, hwa⟩⟩
  · obtain rfl : i = n := by omega
    have hxt : ¬ (i : Int) < (i : Int) := by omega
    have hb7 := fa _ fun h => h.2.2.1
    have hc1 := fa _ fun h => s_Blocked h.2.1
    repeat (with_reducible first|(first|refine pI1 ?_|refine pS1 ?_);intros|refine pA1 ?_|refine pX1 ?_|refine pB1 ?_|exact True.intro)
    refine outM_call hc1 ?_
    rintro _ Hk ⟨rfl, rfl⟩
    clear hc1
    repeat (with_reducible first|(first|refine pI1 ?_|refine pS1 ?_);intros|refine pA1 ?_|refine pX1 ?_|refine pB1 ?_|exact True.intro)
    exact rfl
theorem plays_wc (H : Heap) (_ : Begins [] H) {x1 : Cfg.T.D} {x2 : List Trn.T.D} {v1 v2 : V} (h1 : VwV Cfg.T H x1 v1) (h2 : VwV (.sl Trn.T) H x2 v2)
    (hk : wt Cfg.T x1 + (wt (.sl Trn.T) x2 + 0) ≤ 1048576) : WC F fn_rotalaw07_BusPlays [v1, v2] H fun v _ => v = .c (.bool true) := by
  obtain ⟨cs1, k1, ⟨-, rfl⟩ | ⟨h, -⟩⟩ := h1
  case inr => cases h
  obtain ⟨cs2, k2, ⟨h, -⟩ | ⟨-, w, rfl, rfl⟩⟩ := h2
  case inl => cases h
  obtain ⟨c, h, rfl, hc, hw1⟩ := cfg_rowW k1
  obtain ⟨a, cc, l, e, q1, q2, htab, hS⟩ := Vw.tabW (R := fun H e cs => ∀ p, H.length ≤ p → TrR H.length p H e cs) (S := fun x e => wT e ≤ wt Trn.T x) (fun _ _ => trn_row) k2
  cases e
  have hs := all2_wt hS
  have hw2 : wt (.sl Trn.T) x2 = 1 + (x2.map fun x => wt Trn.T x).sum := rfl
  have htp := tP_sum l
  have hnn : l.length ≤ tP l l.length := by
    have : ∀ m, m ≤ tP l m := fun m => by
      induction m with
      | zero => exact Nat.zero_le _
      | succ m ih => show m + 1 ≤ tP l m + 1 + _ + _; omega
    exact this _
  exact plays_law hc (hw1 (by omega)) (fun p hp => tab_imp htab fun e cs h => h p hp) rfl (by omega) (by omega)
end Go.Proofs.Ytbgmbnikpjjmcaa.AM.D07
