/- What the functions of chapter 7 come to: a bus that carries twice. -/
import Derived.Test.YtbgmbnikpjjmcaaD07r
set_option linter.unusedVariables false
set_option linter.unusedSimpArgs false
set_option linter.unusedSectionVars false
namespace Go.Proofs.Ytbgmbnikpjjmcaa.AM.D07
open Go Go.Proofs.Ytbgmbnikpjjmcaa.AM Go.Proofs.Ytbgmbnikpjjmcaa.AM.C02 Go.Proofs.Ytbgmbnikpjjmcaa.AM.C07
set_option maxHeartbeats 2000000
set_option maxRecDepth 100000
theorem sub4 (a b c d : Cell) : sub [a, b, c, d] 0 4 = some [a, b, c, d] := rfl
attribute [local go_sem] tn_add1 tn_sub1 put_all' nums_len sub2 sub4
theorem becomes_len {c : Cpy} {l r : List Nat} (h : becomes c l = some r) : r.length = l.length := by
  unfold becomes at h
  split at h
  · cases h
  · split at h
    · cases h; exact P3.corr_len _ _ _
    · cases h; rfl
theorem gate_tail {Hk : Heap} {ρ : Env} {b2 p' b6 na n2 n3 e' s m : Nat} {oo o1 o2 o3 tp : Bool} {aa a1 a2 a3 : Option Ad} {n1 c1 c2 c3 : Nat} {ow : Int} {al : List Snd} {cps : List Cpy} {own : List Nat} {ws : List Int} {mine : Snd}
    (e4 : ρ 4 = .c (.ptr (some (b2, 0)))) (e7 : ρ 7 = .c (.bool true)) (e8 : ρ 8 = .c (.ptr (some (p', 0)))) (e11 : ρ 11 = .c (.ptr (some (b6, 0)))) (e12 : ρ 12 = .c (.sl aa na na oo))
    (r2 : Hk[b2]? = some (.cells [.int .i64 (s : Nat), .sl a1 n1 c1 o1, .sl a2 n2 c2 o2, .bool tp] false none)) (r6 : Hk[b6]? = some (.cells [.int .i64 ow, .sl a3 n3 c3 o3] false none)) (hb2 : b2 ≠ p') (hb6 : b6 ≠ p')
    (hbus : BusM Hk p' (some (e', 0)) m true ws 0 0) (hm : ws.length = m) (hm16 : m ≤ 16) (hsn : Snds Hk.length p' Hk aa al) (hal : al.length = na) (hna : na ≤ 100000) (hby : ∀ s ∈ al, s.bytes.length ≤ 5000) (hcp : Tab 3 CpR Hk.length Hk a2 cps) (h2 : ∀ b x, a2 = some (b, x) → b ≠ p') (hn2 : cps.length = n2) (hn2b : n2 ≤ 100000)
    (hon : OnlyM ow mine al) (hmi : mine ∈ al) (hmine : mine = ⟨ow, own⟩) (how : ownF ws s = ow) (how0 : 0 ≤ ow) (hmR : SnR Hk.length p' Hk mine [.int .i64 ow, .sl a3 n3 c3 o3]) (hs : i64 s) (hol : own.length ≤ 5000) :
    WO F o_rotalaw07_BusGate_18 (L 175 ρ) Hk fun t H' => W F none ((IC.ops o_rotalaw07_BusGate_19).seq (((IC.ops o_rotalaw07_BusGate_20).seq (IC.cond (X.t 130) ((IC.ops o_rotalaw07_BusGate_21).seq IC.ret) IC.skip)).seq (((IC.ops o_rotalaw07_BusGate_22).seq (IC.block 2 b_rotalaw07_BusGate_27.loop)).seq ((IC.ops o_rotalaw07_BusGate_28).seq IC.ret)))) ⟨t, [], H'⟩ (callQ [(6, none)] fun v _ => v = .c (.bool true)) := by
  have hpl : p' < Hk.length := lt_of_get hbus.1
  have hel : e' < Hk.length := hbus.2.1.lt rfl
  have hep : e' ≠ p' := hbus.2.2 _ _ rfl
  have lb2 := lt_of_get r2
  have lb6 := lt_of_get r6
  have hgs : ∀ i, i < na → (gs al i).bytes.length ≤ 100000 := fun i hi => by have := hby _ (gs_mem (l := al) (i := i) (by omega)); omega
  have hmb : mine.bytes = own := by rw [hmine]
  have hmn : mine.node = ow := by rw [hmine]
  subst hm
  have hca := s_Carry (c2 := na) (o2 := oo) (c3 := c2) (o3 := o2) (slot := (s : Nat)) hbus (by omega) hs (by omega) hsn hal hna hgs hcp h2 hn2 hn2b (Nat.le_refl _)
  unfold CarQ at hca
  have fin0 : Hid _ := fun (A : Prop) (h : _ → _ → _ → _ → _ → _ → _ → _ → _ → _ → _ → _ → _ → A) => h hbus hsn hal hcp h2 hn2 hon hmi hmine how hmR hmb hmn
  generalize hm : ws.length = m at *
  have fm : Hid _ := fun (A : Prop) (h : _ → _ → A) => h hm hby
  clear hbus hsn hal hcp h2 hn2 hon hmi hmine how hmR hmb hmn hby hgs hm
  repeat (with_reducible first|(first|refine pI1 ?_|refine pS1 ?_);intros|refine pA1 ?_|refine pX1 ?_|refine pB1 ?_|exact True.intro)
  refine outM_call hca ?_
  rintro v H2 ⟨⟨bo, f, rfl, w1, w2, hout, hor⟩, l2, x2⟩
  clear hca
  have hor2 : (∀ j, j < m → f j = becomes (cpF ow cps j) own) ∧ BusM H2 p' (some (e', 0)) m true ws (na - 1) 1 := fin0 _ fun hbus hsn hal hcp h2 hn2 hon hmi hmine how hmR hmb hmn => by
    rw [how] at hor
    rcases hor with ⟨hno, -, -⟩ | ⟨i, hf, hfb, hb⟩
    · exact absurd hno (has_mine hmi how0 hmn)
    · rw [only_mine hon hf, hmb] at hfb
      refine ⟨hfb, ?_⟩
      rw [hal] at hb
      have q1 : (0 + (na - 1)) % 18446744073709551616 = na - 1 := by omega
      have q2 : (0 + 1) % 18446744073709551616 = 1 := rfl
      rw [q1, q2] at hb
      exact hb
  obtain ⟨hfb, hbus2⟩ := hor2
  have k2 := (x2 b2 lb2 hb2).trans r2
  have k6 := (x2 b6 lb6 hb6).trans r6
  have f2 : Hid _ := fun (A : Prop) (h : _ → _ → _ → _ → A) => h x2 hout hfb hbus2
  clear hor hfb hbus2 x2 hout r2 r6
  repeat (with_reducible first|(first|refine pI1 ?_|refine pS1 ?_);intros|refine pA1 ?_|refine pX1 ?_|refine pB1 ?_|exact True.intro)
  rename_i b7 H3 p3 g3 x3
  have k2' := (x3 b2 (by omega)).trans k2
  have k6' := (x3 b6 (by omega)).trans k6
  have y3 : ∀ b, b < Hk.length → b ≠ p' → H3[b]? = Hk[b]? := f2 _ fun x2 _ _ _ b hb hp => by rw [x3 b (by omega)]; exact x2 b hb hp
  have hmR3 : SnR H3.length p' H3 mine [.int .i64 ow, .sl a3 n3 c3 o3] := fin0 _ fun _ _ _ _ _ _ _ _ _ _ hmR _ _ => by
    obtain ⟨a, c, o, h1, h2, h3, h4⟩ := hmR
    exact ⟨a, c, o, h1, h2.keep fun b x e => y3 b (h3 b x e).1 (h3 b x e).2, fun b x e => ⟨by have := (h3 b x e).1; omega, (h3 b x e).2⟩, h4⟩
  have hsn3 : Snds H3.length p' H3 (some (b7, 0)) [mine] := ⟨fun i e he => by
    match i, he with
    | 0, he => cases he; exact ⟨(b7, 0), _, rfl, lt_of_get g3, by rw [g3]; rfl, hmR3⟩, fun b x e => by cases e; omega⟩
  have hbus3 : BusM H3 p' (some (e', 0)) m true ws (na - 1) 1 := f2 _ fun _ _ _ hb => hb.keep fun b hb => x3 b (by rcases hb with rfl | ⟨x, e⟩; omega; cases e; omega)
  have hca := fin0 _ fun hbus hsn hal hcp h2 hn2 hon hmi hmine how hmR hmb hmn => s_Carry (N := H3.length) (c2 := 1) (o2 := false) (c3 := c2) (o3 := o2) (slot := (s : Nat)) (l := [mine]) hbus3 (by rw [fm _ fun h _ => h]; omega) hs (by omega) hsn3 (n := 1) rfl (by omega) (fun i hi => by
      obtain rfl : i = 0 := by omega
      show mine.bytes.length ≤ _
      rw [hmb]; omega) (tab_mono (tabC_keep (H' := H3) hcp fun b x e hb => y3 b hb (h2 b x e)) (by omega)) h2 hn2 hn2b (Nat.le_refl _)
  unfold CarQ at hca
  rw [fm _ fun h _ => h] at hca
  have f3 : Hid _ := fun (A : Prop) (h : _ → A) => h x3
  clear y3 hmR3 hsn3 hbus3 x3 g3 k2 k6
  refine outM_call hca ?_
  rintro v H4 ⟨⟨bo2, f', rfl, z1, z2, hout2, hor⟩, l4, x4⟩
  clear hca
  have hor2 : (∀ j, j < m → f' j = becomes (cpF ow cps j) own) ∧ BusM H4 p' (some (e', 0)) m true ws (na - 1) 2 := fin0 _ fun hbus hsn hal hcp h2 hn2 hon hmi hmine how hmR hmb hmn => by
    rw [how] at hor
    rcases hor with ⟨hno, -, -⟩ | ⟨i, hf, hfb, hb⟩
    · exact absurd hno (has_mine (List.mem_singleton.2 rfl) how0 hmn)
    · rw [only_mine (mine := mine) (fun t ht _ => List.mem_singleton.1 ht) hf, hmb] at hfb
      refine ⟨hfb, ?_⟩
      have q1 : (na - 1 + ([mine].length - 1)) % 18446744073709551616 = na - 1 := by show (na - 1 + 0) % _ = _; omega
      have q2 : (1 + 1) % 18446744073709551616 = 2 := rfl
      rw [q1, q2] at hb
      exact hb
  obtain ⟨hfb', hbus4⟩ := hor2
  have ho1 : Outs H4 Hk.length bo m fun j => becomes (cpF ow cps j) own := f2 _ fun _ hout hfb _ => f3 _ fun x3 => (hout.same hfb).keep w1 fun b hb hb' => by rw [x4 b (by omega) (by omega), x3 b (by omega)]
  have ho2 : Outs H4 H3.length bo2 m fun j => becomes (cpF ow cps j) own := hout2.same hfb'
  have hc1 := s_Passed hbus4
  have hc2 := s_Blocked hbus4
  obtain ⟨B, ho1, ho2, hlen⟩ : ∃ B, Outs H4 Hk.length bo m B ∧ Outs H4 H3.length bo2 m B ∧ ∀ j l, B j = some l → l.length ≤ 5000 := ⟨_, ho1, ho2, fun j l h => by rw [becomes_len h]; exact hol⟩
  obtain ⟨cs1, g1, -, s1⟩ := ho1
  obtain ⟨cs2, g2, -, s2⟩ := ho2
  have hna1 : 1 ≤ na := fin0 _ fun _ _ hal _ _ _ _ hmi _ _ _ _ _ => by rw [← hal]; exact List.length_pos_of_mem hmi
  have hwr : ((na : Int) - 1) = ((na - 1 : Nat) : Int) := by omega
  have f5 : Hid _ := fun (A : Prop) (h : _ → _ → _ → A) => h s1 s2 hlen
  clear hfb' hor hout2 hbus4 x4 k2' k6' fin0 f2 f3 s1 s2 hlen
  repeat (with_reducible first|(first|refine pI1 ?_|refine pS1 ?_);intros|refine pA1 ?_|refine pX1 ?_|refine pB1 ?_|exact True.intro)
  refine W_loop (fun mm st => ∃ ρ', ∃ i : Nat, st = ⟨L 175 ρ', [], H4⟩ ∧ mm = m - i ∧ i ≤ m ∧ ρ' 7 = .c (.bool true) ∧ ρ' 8 = .c (.ptr (some (p', 0))) ∧ ρ' 12 = .c (.sl aa na na oo) ∧ ρ' 14 = .c (.sl (some (bo, 0)) m m false) ∧ ρ' 16 = .c (.sl (some (bo2, 0)) m m false) ∧ ρ' 18 = .c (.int .i64 (i : Nat))) m ⟨_, 0, rfl, rfl, by omega, zf, zf, zf, zf, zf, zf⟩ ?_
  clear e4 e7 e8 e11 e12
  rintro mm st ⟨ρ', i, rfl, rfl, hi, e7, e8, e12, e14, e16, e18⟩
  unfold b_rotalaw07_BusGate_27
  by_cases hin : i < m
  · have hs1 := f5 _ fun s1 _ _ => s1 i hin
    have hs2 := f5 _ fun _ s2 _ => s2 i hin
    cases hB : B i with
    | none =>
      rw [hB] at hs1 hs2
      have hs1 : cs1[i]? = some (.sl none 0 0 false) := hs1
      have hs2 : cs2[i]? = some (.sl none 0 0 false) := hs2
      have hcb := s_Bytes (c := 0) (c2 := 0) (o := false) (o2 := false) (l := []) (l2 := []) (Sl.none H4 1) (Sl.none H4 1) (by omega) (by omega)
      have fb : Hid _ := fun (A : Prop) (h : _ → _ → A) => h hc1 hc2
      clear hc1 hc2
      repeat (with_reducible first|(first|refine pI1 ?_|refine pS1 ?_);intros|refine pA1 ?_|refine pX1 ?_|refine pB1 ?_|exact True.intro)
      refine outM_call hcb ?_
      rintro _ H5 ⟨rfl, rfl⟩
      repeat (with_reducible first|(first|refine pI1 ?_|refine pS1 ?_);intros|refine pA1 ?_|refine pX1 ?_|refine pB1 ?_|exact True.intro)
      exact loopQ_n (m - (i + 1)) (by omega) ⟨_, i + 1, rfl, rfl, by omega, zf, zf, zf, zf, zf, zf⟩
    | some l =>
      rw [hB] at hs1 hs2
      obtain ⟨d1, dc1, do1, dg1, hs1, -, -, hd1, -⟩ := hs1
      obtain ⟨d2, dc2, do2, dg2, hs2, -, -, hd2, -⟩ := hs2
      have hll := f5 _ fun _ _ h => h i l hB
      have hcb := s_Bytes (c := dc1) (c2 := dc2) (o := do1) (o2 := do2) (l := l) (l2 := l) (Sl.blk hd1 (by rw [nats_len])) (Sl.blk hd2 (by rw [nats_len])) (by omega) (by omega)
      rw [decide_eq_true rfl] at hcb
      generalize l.length = nl at *
      clear hd1 hd2 hc1 hc2
      repeat (with_reducible first|(first|refine pI1 ?_|refine pS1 ?_);intros|refine pA1 ?_|refine pX1 ?_|refine pB1 ?_|exact True.intro)
      refine outM_call hcb ?_
      rintro _ H5 ⟨rfl, rfl⟩
      repeat (with_reducible first|(first|refine pI1 ?_|refine pS1 ?_);intros|refine pA1 ?_|refine pX1 ?_|refine pB1 ?_|exact True.intro)
      exact loopQ_n (m - (i + 1)) (by omega) ⟨_, i + 1, rfl, rfl, by omega, zf, zf, zf, zf, zf, zf⟩
  · obtain rfl : i = m := by omega
    repeat (with_reducible first|(first|refine pI1 ?_|refine pS1 ?_);intros|refine pA1 ?_|refine pX1 ?_|refine pB1 ?_|exact True.intro)
    refine outM_call hc1 ?_
    rintro _ H5 ⟨rfl, rfl⟩
    repeat (with_reducible first|(first|refine pI1 ?_|refine pS1 ?_);intros|refine pA1 ?_|refine pX1 ?_|refine pB1 ?_|exact True.intro)
    refine outM_call hc2 ?_
    rintro _ H5 ⟨rfl, rfl⟩
    repeat (with_reducible first|(first|refine pI1 ?_|refine pS1 ?_);intros|refine pA1 ?_|refine pX1 ?_|refine pB1 ?_|exact True.intro)
    exact rfl
end Go.Proofs.Ytbgmbnikpjjmcaa.AM.D07
