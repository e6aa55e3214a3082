/- What the functions of chapter 7 come to: what others send makes no difference. -/
import Derived.Test.YtbgmbnikpjjmcaaD07s
set_option linter.unusedVariables false
set_option linter.unusedSimpArgs false
set_option linter.unusedSectionVars false
namespace Go.Proofs.Ytbgmbnikpjjmcaa.AM.D07
open Go Go.Proofs.Ytbgmbnikpjjmcaa.AM Go.Proofs.Ytbgmbnikpjjmcaa.AM.C02 Go.Proofs.Ytbgmbnikpjjmcaa.AM.C07
set_option maxHeartbeats 2000000
set_option maxRecDepth 100000
attribute [local go_sem] tn_add1 tn_sub1 put_all' nums_len sub2 sub4
theorem gate_law {H : Heap} {c : Cfg} {h : Hd} {t : Trn} {a1 a2 a3 : Option Ad} {c1 c2 c3 : Nat} {o1 o2 o3 : Bool} {own : List Nat}
    (hc : CfgM H.length H c h) (hsn : ∀ p, H.length ≤ p → Snds H.length p H a1 t.sends) (hcp : Tab 3 CpR H.length H a2 t.copies) (h2 : ∀ b x, a2 = some (b, x) → b < H.length) (hsl : i64 t.slot) (hown : Sl H 1 a3 own.length (nats .u8 own)) (hby : ∀ x ∈ own, x < 256) (hw : wT t ≤ 1048576) (hol : own.length ≤ 1048576) :
    WC F fn_rotalaw07_BusGate [.agg (c.cells h), .agg [.int .i64 t.slot, .sl a1 t.sends.length c1 o1, .sl a2 t.copies.length c2 o2, .bool t.pass], .c (.sl a3 own.length c3 o3)] H fun v _ => v = .c (.bool true) := by
  refine WC_start e_rotalaw07_BusGate (by simp) ?_
  unfold c_rotalaw07_BusGate
  obtain ⟨n1, hn1⟩ : ∃ n1, t.sends.length = n1 := ⟨_, rfl⟩
  obtain ⟨n2, hn2⟩ : ∃ n2, t.copies.length = n2 := ⟨_, rfl⟩
  obtain ⟨n3, hn3⟩ : ∃ n3, own.length = n3 := ⟨_, rfl⟩
  obtain ⟨no, hno⟩ : ∃ no, c.owners.length = no := ⟨_, rfl⟩
  obtain ⟨slot, hslot⟩ : ∃ slot, t.slot = slot := ⟨_, rfl⟩
  obtain ⟨C, hC⟩ : ∃ C, C = c.cells h := ⟨_, rfl⟩
  have hsub : sub C 0 12 = some C := by rw [hC]; rfl
  have hfld : C[1]? = some (.sl h.a1 no h.c1 false) := by rw [hC, ← hno]; rfl
  have hnew : ∀ Hx, Xt H Hx → WC F fn_bus_New [.agg C] Hx fun v H' => Xt Hx H' ∧
    ((c.check ≠ 0 ∧ v = .tup [.c (.ptr none), .c (.int .i64 c.check)]) ∨ (c.check = 0 ∧ ∃ p e, v = .tup [.c (.ptr (some (p, 0))), .c (.int .i64 0)] ∧ Hx.length ≤ p ∧ p < H'.length ∧ Hx.length ≤ e ∧ e < H'.length ∧ BusM H' p (some (e, 0)) c.owners.length true c.owners 0 0)) := fun Hx hx => by
    rw [hC]; exact s_New (hc.keep (H' := Hx) hx.2) hx.1
  have hg : ∀ Hx b, Xt H Hx → Hx[b]? = some (.cells [.int .i64 slot, .sl a1 n1 c1 o1, .sl a2 n2 c2 o2, .bool t.pass] false none) → WC F fn_rotalaw07_great [.c (.sl (some (b, 0)) 1 1 false)] Hx fun v H' => v = .c (.bool (decide (5000 < wT t))) ∧ H' = Hx := fun Hx b hx hb => by
    have e : tP [t] 1 = wT t := (tP_sum [t]).trans (Nat.add_zero _)
    rw [← e]
    refine s_great (N := Hx.length) (p := Hx.length) (l := [t]) (fun i e he => ?_) rfl (by omega)
    match i, he with
    | 0, he =>
      cases he
      refine ⟨(b, 0), _, rfl, lt_of_get hb, by rw [hb]; rfl, a1, c1, o1, a2, c2, o2, by rw [hn1, hn2, hslot]; rfl, ?_, ?_, fun b x e => ?_, hsl⟩
      · exact ((hsn _ hx.1).keep (H' := Hx) fun b hb _ => hx.2 b hb).mono hx.1
      · exact tab_mono (tabC_keep hcp fun b x _ hb => hx.2 b hb) hx.1
      · have := h2 b x e; have := hx.1; omega
  have hown0 := fun b x e => hown.lt (b := b) (x := x) e
  have hco := hc.owners
  have hcoN := hc.ownersN
  have hchk : c.check = 0 → 4 ≤ no ∧ no ≤ 16 ∧ ∀ x ∈ c.owners, 0 ≤ x := fun h0 => by
    obtain ⟨q1, q2, q3, q4⟩ := (Cfg.check_ok.1 h0).nodes
    exact ⟨by omega, by omega, fun x hx => (owners_in (Cfg.check_ok.1 h0).nodes x hx).1⟩
  have hsP : sP t.sends n1 + 1 + n2 ≤ 1048576 := by rw [← hn1, sP_sum, ← hn2]; unfold wT at hw; omega
  have hln := len_sP t.sends n1
  have fin0 : Hid _ := fun (A : Prop) (h : _ → _ → _ → _ → _ → _ → _ → _ → A) => h hnew hg hsn hcp h2 hown hby hown0
  have fin00 : Hid _ := fun (A : Prop) (h : _ → _ → _ → _ → _ → _ → _ → _ → _ → A) => h hco hcoN hchk hsP hn1 hn2 hn3 hno hslot
  have hio := hc.i_owners
  have fio : Hid _ := fun (A : Prop) (h : _ → A) => h hio
  rw [hn1, hn2, hn3, hslot, ← hC]
  have hlen : n1 + n2 ≤ 1048576 := by omega
  have hol : n3 ≤ 1048576 := by omega
  have hsl : -9223372036854775808 ≤ slot ∧ slot < 9223372036854775808 := by rw [← hslot]; exact hsl
  obtain ⟨sl1, sl2⟩ := hsl
  clear hio hnew hg hsn hcp h2 hown hby hown0 hco hcoN hchk hsP hln hn1 hn2 hn3 hno hslot hC hc hw
  repeat (with_reducible first|(first|refine pI1 ?_|refine pS1 ?_);intros|refine pA1 ?_|refine pX1 ?_|refine pB1 ?_|exact True.intro)
  rename_i b1 H1 p1 g1 x1 b2 H2 p2 g2 x2
  have xt2 : Xt H H2 := ⟨by omega, fun b hb => by rw [x2 b (by omega), x1 b (by omega)]⟩
  have g1' := (x2 b1 (by omega)).trans g1
  have fx2 : Hid _ := fun (A : Prop) (h : _ → A) => h xt2
  clear x1 x2 g1 xt2
  refine outM_call s_alive ?_
  rintro _ H3 ⟨rfl, l3, x3⟩
  have xt3 : Xt H H3 := fx2 _ fun xt2 => ⟨by omega, fun b hb => by rw [x3 b (by omega)]; exact xt2.2 b hb⟩
  have q1 := (x3 b1 (by omega)).trans g1'
  have q2 := (x3 b2 (by omega)).trans g2
  have hnew3 := fin0 _ fun hnew _ _ _ _ _ _ _ => hnew H3 xt3
  have fx3 : Hid _ := fun (A : Prop) (h : _ → A) => h xt3
  clear x3 g1' g2 fx2 xt3
  repeat (with_reducible first|(first|refine pI1 ?_|refine pS1 ?_);intros|refine pA1 ?_|refine pX1 ?_|refine pB1 ?_|exact True.intro)
  refine outM_call hnew3 ?_
  rintro v H4 ⟨⟨l4, x4⟩, hv⟩
  have xt4 : Xt H H4 := fx3 _ fun xt3 => ⟨by omega, fun b hb => by rw [x4 b (by omega)]; exact xt3.2 b hb⟩
  have r1 := (x4 b1 (by omega)).trans q1
  have r2 := (x4 b2 (by omega)).trans q2
  clear q1 q2 x4 hnew3 fx3
  obtain ⟨k, p, hv, hkp⟩ : ∃ k p, v = .tup [.c (.ptr p), .c (.int .i64 k)] ∧ (k = 0 → c.check = 0 ∧ ∃ p' e, p = some (p', 0) ∧ H3.length ≤ p' ∧ p' < H4.length ∧ H3.length ≤ e ∧ e < H4.length ∧ BusM H4 p' (some (e, 0)) c.owners.length true c.owners 0 0) := by
    rcases hv with ⟨h1, h2⟩ | ⟨h1, p', e, h2, h3⟩
    · exact ⟨_, _, h2, fun h => absurd h h1⟩
    · exact ⟨_, _, h2, fun _ => ⟨h1, p', e, rfl, h3⟩⟩
  subst hv
  have fx4 : Hid _ := fun (A : Prop) (h : _ → _ → A) => h xt4 hkp
  clear xt4 hkp hv
  repeat (with_reducible first|(first|refine pI1 ?_|refine pS1 ?_);intros|refine pA1 ?_|refine pX1 ?_|refine pB1 ?_|exact True.intro)
  rename_i b5 H5 p5 g5 x5
  have r1' := (x5 b1 (by omega)).trans r1
  have r2' := (x5 b2 (by omega)).trans r2
  have xt5 : Xt H H5 := fx4 _ fun xt4 _ => ⟨by omega, fun b hb => by rw [x5 b (by omega)]; exact xt4.2 b hb⟩
  have hg5 := fin0 _ fun _ hg _ _ _ _ _ _ => hg H5 b5 xt5 (by rw [g5])
  have fx5 : Hid _ := fun (A : Prop) (h : _ → _ → A) => h xt5 x5
  clear r1 r2 xt5 x5 g5
  refine outM_call hg5 ?_
  rintro _ H5 ⟨rfl, rfl⟩
  clear hg5
  by_cases k1 : 5000 < wT t
  · rw [decide_eq_true k1]
    repeat (with_reducible first|(first|refine pI1 ?_|refine pS1 ?_);intros|refine pA1 ?_|refine pX1 ?_|refine pB1 ?_|exact True.intro)
    exact rfl
  rw [decide_eq_false k1]
  by_cases k2 : 5000 < n3
  · repeat (with_reducible first|(first|refine pI1 ?_|refine pS1 ?_);intros|refine pA1 ?_|refine pX1 ?_|refine pB1 ?_|exact True.intro)
    exact rfl
  by_cases k3 : k = 0
  case neg =>
    repeat (with_reducible first|(first|refine pI1 ?_|refine pS1 ?_);intros|refine pA1 ?_|refine pX1 ?_|refine pB1 ?_|exact True.intro)
    exact rfl
  by_cases k4 : slot < 0
  · repeat (with_reducible first|(first|refine pI1 ?_|refine pS1 ?_);intros|refine pA1 ?_|refine pX1 ?_|refine pB1 ?_|exact True.intro)
    exact rfl
  subst k3
  obtain ⟨hchk, p', e', rfl, w1, w2, w3, w4, hbus⟩ := fx4 _ fun _ h => h rfl
  have hno4 := fin00 _ fun _ _ h _ _ _ _ _ _ => h hchk
  have hpos : ∀ x ∈ c.owners, 0 ≤ x := hno4.2.2
  obtain ⟨no1, no2, -⟩ := hno4
  obtain ⟨s, rfl⟩ : ∃ s : Nat, slot = s := ⟨slot.toNat, by omega⟩
  obtain ⟨q, hq⟩ : ∃ q, q = s % no := ⟨_, rfl⟩
  have hqn : q < no := by rw [hq]; exact Nat.mod_lt _ (by omega)
  have hr : (s : Int) % (no : Int) = (q : Nat) := by rw [hq]; rfl
  obtain ⟨⟨oa, oy⟩, ea⟩ := fin00 _ fun hco _ _ _ _ _ _ hno _ => hco.is_some (by omega)
  have hgn : ldB H5[oa]? (oy + q) = some (.int .i64 (gn c.owners q)) := by
    have hco : Sl H 1 (some (oa, oy)) no (nums c.owners) := fin00 _ fun hco _ _ _ _ _ _ hno _ => by rw [← hno, ← ea]; exact hco
    have hN : oa < H.length := hco.lt rfl
    have := hco.gn (fin00 _ fun _ _ _ _ _ _ _ hno _ => hno) hqn
    rw [show H5[oa]? = H[oa]? from fx5 _ fun h _ => h.2 oa hN]
    exact this
  have how0 : 0 ≤ gn c.owners q := hpos _ (gn_mem (by rw [fin00 _ fun _ _ _ _ _ _ _ hno _ => hno]; exact hqn))
  have how : ownF c.owners s = gn c.owners q := by unfold ownF; rw [fin00 _ fun _ _ _ _ _ _ _ hno _ => hno, if_neg (by omega), hq, Int.toNat_natCast]
  have hi64 : i64 (gn c.owners q) := fio _ fun hio => hio _ (gn_mem (by rw [fin00 _ fun _ _ _ _ _ _ _ hno _ => hno]; exact hqn))
  have hx5 : ∀ b, b < H.length → H5[b]? = H[b]? := fx5 _ fun h _ => h.2
  obtain ⟨ow, how1⟩ : ∃ ow, gn c.owners q = ow := ⟨_, rfl⟩
  rw [how1] at hgn how0 how hi64
  rw [ea] at hfld
  have hbus5 := hbus.keep (H' := H5) fun b hb => fx5 _ fun _ h => h b (by rcases hb with rfl | ⟨x, e⟩; omega; cases e; omega)
  have fow : Hid _ := fun (A : Prop) (h : _ → _ → _ → _ → A) => h how how0 hbus5 hpos
  have fi : Hid _ := fun (A : Prop) (h : _ → _ → A) => h hi64 hx5
  clear hi64 hx5 how how0 hq how1 hpos hbus hbus5 hchk hsub ea
  repeat (with_reducible first|(first|refine pI1 ?_|refine pS1 ?_);intros|refine pA1 ?_|refine pX1 ?_|refine pB1 ?_|exact True.intro)
  rename_i b6 H6 p6 g6 x6 H7 s7 g7 x7
  have y7 : ∀ b, b < H5.length → H7[b]? = H5[b]? := fun b hb => by rw [x7 b (by omega), x6 b (by omega)]
  have r2 := (y7 b2 (lt_of_get r2')).trans r2'
  have lb2 := lt_of_get r2
  have lb6 := lt_of_get g7
  have hle5 : H5.length ≤ H7.length := by omega
  have hle0 : H.length ≤ H5.length := by omega
  have hp7 : p' < H7.length := by omega
  have hpH : H.length ≤ p' := by omega
  have fy : Hid _ := fun (A : Prop) (h : _ → A) => h y7
  clear r2' x6 x7 g6 y7 hfld hgn fx4 fx5
  obtain ⟨mine, hmine⟩ : ∃ mine, mine = Snd.mk ow own := ⟨_, rfl⟩
  have hmR : ∀ Hx, (∀ b, b < H.length → Hx[b]? = H[b]?) → SnR H.length p' Hx mine [.int .i64 ow, .sl a3 n3 c3 o3] := fun Hx hx => by
    rw [hmine]
    refine fin0 _ fun _ _ _ _ _ hown hby hown0 => fin00 _ fun _ _ _ _ _ _ hn3 _ _ => ⟨a3, c3, o3, by rw [← hn3], hown.keep fun b x e => hx b (hown0 b x e), fun b x e => ?_, ?_, hby⟩
    · have := hown0 b x e; exact ⟨this, by omega⟩
    · exact fi _ fun h _ => h
  have hmn : mine.node = ow := by rw [hmine]
  have fm : Hid _ := fun (A : Prop) (h : _ → _ → _ → A) => h hmine hmR hmn
  clear hmine hmR hmn
  have hm5 : mine.bytes.length ≤ 5000 := fm _ fun hmine _ _ => by rw [hmine]; exact fin00 _ fun _ _ _ _ _ _ hn3 _ _ => by show own.length ≤ _; omega
  have hwt : 1 + n2 + sP t.sends n1 = wT t := fin00 _ fun _ _ _ _ hn1 hn2 _ _ _ => by rw [← hn1, sP_sum, ← hn2]; rfl
  have h5s : ∀ i, i < n1 → (gs t.sends i).bytes.length ≤ 5000 := fun i hi => by have := sP_at (l := t.sends) hi; omega
  have hn5 : n1 ≤ 5000 := by have := len_sP t.sends n1; omega
  have hn25 : n2 ≤ 5000 := by omega
  clear hwt
  refine W_loop (fun m st => ∃ ρ, ∃ i na : Nat, ∃ oo Hk aa al, st = ⟨L 175 ρ, [], Hk⟩ ∧ m = n1 - i ∧ i ≤ n1 ∧ ρ 4 = .c (.ptr (some (b2, 0))) ∧ ρ 7 = .c (.bool true) ∧ ρ 8 = .c (.ptr (some (p', 0))) ∧ ρ 10 = .c (.int .i64 ow) ∧ ρ 11 = .c (.ptr (some (b6, 0))) ∧ ρ 12 = .c (.sl aa na na oo) ∧ ρ 13 = .c (.int .i64 (i : Nat)) ∧
    H7.length ≤ Hk.length ∧ na ≤ 2 * i ∧ Hid ((∀ b, b < H7.length → Hk[b]? = H7[b]?) ∧ GrS H7.length H.length p' Hk aa na oo al ∧ (0 < i → mine ∈ al) ∧ OnlyM ow mine al ∧ ∀ s ∈ al, s.bytes.length ≤ 5000)) n1 ⟨_, 0, 0, false, _, none, [], rfl, rfl, by omega, zf, zf, zf, zf, zf, zf, zf, Nat.le_refl _, by omega, fun _ _ => rfl, GrS.nil _ _ _ _, fun h => absurd h (by omega), OnlyM.nil _ _, fun s hs => by cases hs⟩ ?_
  rintro m st ⟨ρ, i, na, oo, Hk, aa, al, rfl, rfl, hi, e4, e7, e8, e10, e11, e12, e13, hlk, hna, hall⟩
  unfold b_rotalaw07_BusGate_15
  have kb2 := (hall.1 b2 lb2).trans r2
  have kb6 := (hall.1 b6 lb6).trans g7
  by_cases hin : i < n1
  · obtain ⟨sb, sy, sa, sc, so, ea, sb1, -, hld, hsl2, hsa, hsi, hsby⟩ := fin0 _ fun _ _ hsn _ _ _ _ _ => fin00 _ fun _ _ _ _ hn1 _ _ _ _ => send_at (hsn p' hpH) (i := i) (by omega)
    have hxk : ∀ b, b < H.length → Hk[b]? = H[b]? := fun b hb => by rw [hall.1 b (by omega), fy _ fun y7 => y7 b (by omega)]; exact fi _ fun _ h => h b hb
    rw [← hxk sb sb1] at hld
    obtain ⟨hd1, hd2⟩ := ldB_two hld
    have h5a : (gs t.sends i).bytes.length ≤ 5000 := h5s i hin
    generalize gs t.sends i = sn at *
    obtain ⟨nd, hnd⟩ : ∃ nd, sn.node = nd := ⟨_, rfl⟩
    obtain ⟨nb, hnb⟩ : ∃ nb, sn.bytes.length = nb := ⟨_, rfl⟩
    have hsR : SnR H.length p' Hk sn [.int .i64 nd, .sl sa nb sc so] := ⟨sa, sc, so, by rw [hnd, hnb], hsl2.keep fun b x e => hxk b (hsa b x e).1, hsa, hsi, hsby⟩
    rw [hnd, hnb] at hld
    rw [hnb] at h5a
    rw [hnd] at hd1
    rw [hnb] at hd2
    have kb2' := kb2
    rw [ea] at kb2
    have hs5 : sn.bytes.length ≤ 5000 := by rw [hnb]; exact h5a
    have f1 : Hid _ := fun (A : Prop) (h : _ → _ → _ → _ → _ → _ → _ → A) => h hall hsR hxk ea kb2' hnd hs5
    clear hs5 h5a hall hsR hxk hsl2 hsa hsi hsby ea hd2 kb2' hnd hnb r2 g7
    by_cases c1 : nd = ow
    · have fc : Hid _ := fun (A : Prop) (h : _ → A) => h c1
      subst c1
      by_cases c2 : i = 0
      · subst c2
        rw [Nat.zero_mul, Nat.add_zero] at hd1 hld
        repeat (with_reducible first|(first|refine pI1 ?_|refine pS1 ?_);intros|refine pA1 ?_|refine pX1 ?_|refine pB1 ?_|exact True.intro)
        rename_i b9 H9 p9 g9 x9
        have hgr := f1 _ fun hall _ _ _ _ _ _ => hall.2.1.keep (H' := H9) (by omega) (fun b hb => x9 b (by omega))
        have hmR9 := fm _ fun _ hmR _ => f1 _ fun _ _ hxk _ _ _ _ => hmR H9 fun b hb => by rw [x9 b (by omega)]; exact hxk b hb
        refine outM_pushS hgr (by omega) (by omega) g9 hmR9 (by omega) ?_
        clear hgr hmR9
        intro a' Hn hgn ln xn
        have fn : Hid _ := fun (A : Prop) (h : _ → _ → _ → A) => h hgn xn x9
        clear hgn xn x9 g9
        repeat (with_reducible first|(first|refine pI1 ?_|refine pS1 ?_);intros|refine pA1 ?_|refine pX1 ?_|refine pB1 ?_|exact True.intro)
        refine loopQ_n (n1 - (0 + 1)) (by omega) ⟨_, 1, na + 1, true, Hn, a', al ++ [mine], rfl, rfl, by omega, zf, zf, zf, zf, zf, zf, zf, by omega, by omega, ?_⟩
        exact fn _ fun hgn xn x9 => f1 _ fun hall _ _ _ _ _ _ => ⟨fun b hb => by rw [xn b hb, x9 b (by omega)]; exact hall.1 b hb, hgn, fun _ => by simp, hall.2.2.2.1.own, fun s hs => by rcases List.mem_append.1 hs with hs | hs; exact hall.2.2.2.2 s hs; rw [List.mem_singleton.1 hs]; exact hm5⟩
      · have c2' : ¬ (i : Int) = 0 := by omega
        repeat (with_reducible first|(first|refine pI1 ?_|refine pS1 ?_);intros|refine pA1 ?_|refine pX1 ?_|refine pB1 ?_|exact True.intro)
        refine loopQ_n (n1 - (i + 1)) (by omega) ⟨_, i + 1, na, oo, Hk, aa, al, rfl, rfl, by omega, zf, zf, zf, zf, zf, zf, zf, by omega, by omega, ?_⟩
        exact f1 _ fun hall _ _ _ _ _ _ => ⟨hall.1, hall.2.1, fun _ => hall.2.2.1 (by omega), hall.2.2.2⟩
    · have hno : sn.node ≠ ow := f1 _ fun _ _ _ _ _ h _ => by rw [h]; exact c1
      have fc : Hid _ := fun (A : Prop) (h : _ → A) => h hno
      clear hno
      by_cases c2 : i = 0
      · subst c2
        rw [Nat.zero_mul, Nat.add_zero] at hd1 hld
        repeat (with_reducible first|(first|refine pI1 ?_|refine pS1 ?_);intros|refine pA1 ?_|refine pX1 ?_|refine pB1 ?_|exact True.intro)
        rename_i b8 H8 p8 g8 x8
        have hgr := f1 _ fun hall _ _ _ _ _ _ => hall.2.1.keep (H' := H8) (by omega) (fun b hb => x8 b (by omega))
        have hsR8 := f1 _ fun _ hsR _ _ _ _ _ => hsR.keep (H' := H8) fun b hb => x8 b (by omega)
        refine outM_pushS hgr (by omega) (by omega) g8 hsR8 (by omega) ?_
        clear hgr hsR8
        intro a' Hn hgn ln xn
        have kb6' : Hn[b6]? = _ := ((xn b6 (by omega)).trans (x8 b6 (by omega))).trans kb6
        have fn : Hid _ := fun (A : Prop) (h : _ → _ → _ → A) => h hgn xn x8
        clear hgn xn x8 g8 hd1 hld kb2 kb6
        repeat (with_reducible first|(first|refine pI1 ?_|refine pS1 ?_);intros|refine pA1 ?_|refine pX1 ?_|refine pB1 ?_|exact True.intro)
        rename_i b9 H9 p9 g9 x9
        have hgr := fn _ fun hgn _ _ => hgn.keep (H' := H9) (by omega) (fun b hb => x9 b (by omega))
        have hmR9 := fm _ fun _ hmR _ => f1 _ fun _ _ hxk _ _ _ _ => fn _ fun _ xn x8 => hmR H9 fun b hb => by rw [x9 b (by omega), xn b (by omega), x8 b (by omega)]; exact hxk b hb
        refine outM_pushS hgr (by omega) (by omega) g9 hmR9 (by omega) ?_
        clear hgr hmR9
        intro a2' Hn2 hgn2 ln2 xn2
        have fn2 : Hid _ := fun (A : Prop) (h : _ → _ → _ → A) => h hgn2 xn2 x9
        clear hgn2 xn2 x9 g9
        repeat (with_reducible first|(first|refine pI1 ?_|refine pS1 ?_);intros|refine pA1 ?_|refine pX1 ?_|refine pB1 ?_|exact True.intro)
        refine loopQ_n (n1 - (0 + 1)) (by omega) ⟨_, 1, na + 1 + 1, true, Hn2, a2', al ++ [sn] ++ [mine], rfl, rfl, by omega, zf, zf, zf, zf, zf, zf, zf, by omega, by omega, ?_⟩
        exact fn _ fun hgn xn x8 => fn2 _ fun hgn2 xn2 x9 => f1 _ fun hall _ _ _ _ _ _ => ⟨fun b hb => by rw [xn2 b hb, x9 b (by omega), xn b hb, x8 b (by omega)]; exact hall.1 b hb, hgn2, fun _ => by simp, (hall.2.2.2.1.add (fc _ fun h => h)).own, fun s hs => by rcases List.mem_append.1 hs with hs | hs; (rcases List.mem_append.1 hs with hs | hs; exact hall.2.2.2.2 s hs; rw [List.mem_singleton.1 hs]; exact f1 _ fun _ _ _ _ _ _ h5 => h5); rw [List.mem_singleton.1 hs]; exact hm5⟩
      · have c2' : ¬ (i : Int) = 0 := by omega
        repeat (with_reducible first|(first|refine pI1 ?_|refine pS1 ?_);intros|refine pA1 ?_|refine pX1 ?_|refine pB1 ?_|exact True.intro)
        rename_i b8 H8 p8 g8 x8
        have hgr := f1 _ fun hall _ _ _ _ _ _ => hall.2.1.keep (H' := H8) (by omega) (fun b hb => x8 b (by omega))
        have hsR8 := f1 _ fun _ hsR _ _ _ _ _ => hsR.keep (H' := H8) fun b hb => x8 b (by omega)
        refine outM_pushS hgr (by omega) (by omega) g8 hsR8 (by omega) ?_
        clear hgr hsR8
        intro a' Hn hgn ln xn
        have fn : Hid _ := fun (A : Prop) (h : _ → _ → _ → A) => h hgn xn x8
        clear hgn xn x8 g8 hd1 hld kb2 kb6
        repeat (with_reducible first|(first|refine pI1 ?_|refine pS1 ?_);intros|refine pA1 ?_|refine pX1 ?_|refine pB1 ?_|exact True.intro)
        refine loopQ_n (n1 - (i + 1)) (by omega) ⟨_, i + 1, na + 1, true, Hn, a', al ++ [sn], rfl, rfl, by omega, zf, zf, zf, zf, zf, zf, zf, by omega, by omega, ?_⟩
        exact fn _ fun hgn xn x8 => f1 _ fun hall _ _ _ _ _ _ => ⟨fun b hb => by rw [xn b hb, x8 b (by omega)]; exact hall.1 b hb, hgn, fun _ => by simp [hall.2.2.1 (by omega)], hall.2.2.2.1.add (fc _ fun h => h), fun s hs => by rcases List.mem_append.1 hs with hs | hs; exact hall.2.2.2.2 s hs; rw [List.mem_singleton.1 hs]; exact f1 _ fun _ _ _ _ _ _ h5 => h5⟩
  · obtain rfl : i = n1 := by omega
    have hxk : ∀ b, b < H.length → Hk[b]? = H[b]? := fun b hb => by rw [hall.1 b (by omega), fy _ fun y7 => y7 b (by omega)]; exact fi _ fun _ h => h b hb
    have htl : ∀ (Hx : Heap) (ρx : Env) (nx : Nat) (ox : Bool) (ax : Option Ad) (lx : List Snd), ρx 4 = .c (.ptr (some (b2, 0))) → ρx 7 = .c (.bool true) → ρx 8 = .c (.ptr (some (p', 0))) → ρx 11 = .c (.ptr (some (b6, 0))) → ρx 12 = .c (.sl ax nx nx ox) → H7.length ≤ Hx.length → nx ≤ 2 * i + 1 →
        (∀ b, b < H7.length → Hx[b]? = Hk[b]?) → GrS H7.length H.length p' Hx ax nx ox lx → mine ∈ lx → OnlyM ow mine lx → (∀ s ∈ lx, s.bytes.length ≤ 5000) →
        WO F o_rotalaw07_BusGate_18 (L 175 ρx) Hx fun t H' => W F none ((IC.ops o_rotalaw07_BusGate_19).seq (((IC.ops o_rotalaw07_BusGate_20).seq (IC.cond (X.t 130) ((IC.ops o_rotalaw07_BusGate_21).seq IC.ret) IC.skip)).seq (((IC.ops o_rotalaw07_BusGate_22).seq (IC.block 2 b_rotalaw07_BusGate_27.loop)).seq ((IC.ops o_rotalaw07_BusGate_28).seq IC.ret)))) ⟨t, [], H'⟩ (callQ [(6, none)] fun v _ => v = .c (.bool true)) := by
      intro Hx ρx nx ox ax lx f4 f7 f8 f11 f12 hlx hnx hx hgr hmx hox hbx
      have hxx : ∀ b, b < H.length → Hx[b]? = H[b]? := fun b hb => by rw [hx b (by omega)]; exact hxk b hb
      refine fin0 _ fun _ _ _ hcp h2 hown hby hown0 => fin00 _ fun _ _ _ _ _ hn2 hn3 hno _ => fow _ fun how how0 hbus5 _ => fm _ fun hmine hmR _ => ?_
      refine gate_tail (p' := p') (e' := e') (s := s) (m := c.owners.length) (cps := t.copies) (own := own) (ws := c.owners) f4 f7 f8 f11 f12 ((hx b2 lb2).trans kb2) ((hx b6 lb6).trans kb6) (by omega) (by omega)
        (hbus5.keep fun b hb => ?_) rfl (by omega) (hgr.snds hp7 (by omega)) hgr.1 (by omega) hbx (tab_mono (tabC_keep hcp fun b x _ hb => hxx b hb) (by omega)) (fun b x e => by have := h2 b x e; omega) hn2 (by omega) hox hmx hmine how how0 ?_ ⟨sl1, sl2⟩ (by omega)
      · have hb5 : b < H5.length := by
          rcases hb with rfl | ⟨x, e⟩
          · omega
          · cases e; omega
        rw [hx b (by omega), hall.1 b (by omega)]
        exact fy _ fun y7 => y7 b hb5
      · obtain ⟨a, c', o, q1, q2, q3, q4⟩ := hmR Hx hxx
        exact ⟨a, c', o, q1, q2, fun b x e => ⟨by have := (q3 b x e).1; omega, (q3 b x e).2⟩, q4⟩
    obtain ⟨o18, ho⟩ : ∃ o, o = o_rotalaw07_BusGate_18 := ⟨_, rfl⟩
    rw [← ho] at htl ⊢
    have fk : Hid _ := fun (A : Prop) (h : _ → _ → _ → _ → A) => h hall hxk ho htl
    clear hall hxk ho htl r2 g7
    by_cases c0 : i = 0
    · subst c0
      repeat (with_reducible first|(first|refine pI1 ?_|refine pS1 ?_);intros|refine pA1 ?_|refine pX1 ?_|refine pB1 ?_|exact True.intro)
      rename_i b9 H9 p9 g9 x9
      have hgr := fk _ fun hall _ _ _ => hall.2.1.keep (H' := H9) (by omega) (fun b hb => x9 b (by omega))
      have hmR9 := fm _ fun _ hmR _ => fk _ fun _ hxk _ _ => hmR H9 fun b hb => by rw [x9 b (by omega)]; exact hxk b hb
      refine outM_pushS hgr (by omega) (by omega) g9 hmR9 (by omega) ?_
      clear hgr hmR9
      intro a' Hn hgn ln xn
      have fn : Hid _ := fun (A : Prop) (h : _ → _ → _ → A) => h hgn xn x9
      clear hgn xn x9 g9
      repeat (with_reducible first|(first|refine pI1 ?_|refine pS1 ?_);intros|refine pA1 ?_|refine pX1 ?_|refine pB1 ?_|exact True.intro)
      refine fk _ fun hall _ _ htl => fn _ fun hgn xn x9 => htl Hn _ (na + 1) true a' (al ++ [mine]) zf zf zf zf zf (by omega) (by omega) (fun b hb => by rw [xn b hb, x9 b (by omega)]) hgn (by simp) hall.2.2.2.1.own (fun s hs => ?_)
      rcases List.mem_append.1 hs with hs | hs
      · exact hall.2.2.2.2 s hs
      · rw [List.mem_singleton.1 hs]; exact hm5
    · have c0' : ¬ (i : Int) = 0 := by omega
      repeat (with_reducible first|(first|refine pI1 ?_|refine pS1 ?_);intros|refine pA1 ?_|refine pX1 ?_|refine pB1 ?_|exact True.intro)
      exact fk _ fun hall _ _ htl => htl Hk _ na oo aa al zf zf zf zf zf (by omega) (by omega) (fun b hb => rfl) hall.2.1 (hall.2.2.1 (by omega)) hall.2.2.2.1 hall.2.2.2.2
end Go.Proofs.Ytbgmbnikpjjmcaa.AM.D07
