/- What the document's functions of chapter 7 come to: whose a slot is, what passes. -/
import Derived.Test.YtbgmbnikpjjmcaaD07v
import Derived.Test.YtbgmbnikpjjmcaaD07C02s
set_option linter.unusedVariables false
set_option linter.unusedSimpArgs false
set_option linter.unusedSectionVars false
namespace Go.Proofs.Ytbgmbnikpjjmcaa.AM.D07
open Go Go.Proofs.Ytbgmbnikpjjmcaa.AM Go.Proofs.Ytbgmbnikpjjmcaa.AM.C02 Go.Proofs.Ytbgmbnikpjjmcaa.AM.C07
set_option maxHeartbeats 2000000
set_option maxRecDepth 100000
attribute [local go_sem] tn_add1 tn_sub1 put_all' nums_len sub12 sub3
theorem s_rNew {N : Nat} {H : Heap} {c : Cfg} {h : Hd} (hc : CfgM N H c h) (hN : N ≤ H.length) (hf : Few c) : WC F fn_rotaref07_New [.agg (c.cells h)] H fun v H' => Xt H H' ∧
    ((c.check ≠ 0 ∧ v = .tup [.agg [.sl none 0 0 false, .int .u64 0, .int .u64 0], .c (.int .i64 c.check)]) ∨ (c.check = 0 ∧ v = .tup [.agg [.sl h.a1 c.owners.length h.c1 false, .int .u64 0, .int .u64 0], .c (.int .i64 0)])) := by
  refine WC_start e_rotaref07_New (by simp) ?_
  unfold c_rotaref07_New
  have hck := fun (Hx : Heap) (hx : Xt H Hx) => s_rCheck (H := Hx) (hc.keep fun b hb => hx.2 b (by omega)) (by have := hx.1; omega) hf
  obtain ⟨C, hC⟩ : ∃ C, C = c.cells h := ⟨_, rfl⟩
  have hsub : sub C 0 12 = some C := by rw [hC]; rfl
  have hfld : C[1]? = some (.sl h.a1 c.owners.length h.c1 false) := by rw [hC]; rfl
  rw [← hC] at hck ⊢
  obtain ⟨k, hk⟩ : ∃ k, k = c.check := ⟨_, rfl⟩
  rw [← hk] at hck ⊢
  have fin0 : Hid _ := fun (A : Prop) (h : _ → A) => h hck
  clear hck hC hc hf hk
  repeat (with_reducible first|(first|refine pI1 ?_|refine pS1 ?_);intros|refine pA1 ?_|refine pX1 ?_|refine pB1 ?_|exact True.intro)
  rename_i b1 H1 p1 g1 x1 b2 H2 p2 g2 x2
  have t2 : Xt H H2 := ⟨by omega, fun b hb => by rw [x2 b (by omega), x1 b (by omega)]⟩
  have g12 := (x2 b1 (by omega)).trans g1
  have f2 : Hid _ := fun (A : Prop) (h : _ → A) => h t2
  clear x1 x2 g1 t2
  refine outM_call (fin0 _ fun h => f2 _ fun t => h H2 t) ?_
  rintro _ H3 ⟨rfl, l3, x3⟩
  have g13 := (x3 b1 (by omega)).trans g12
  have g23 := (x3 b2 (by omega)).trans g2
  have t3 : Xt H H3 := f2 _ fun t => ⟨by omega, fun b hb => by rw [x3 b (by omega)]; exact t.2 b hb⟩
  have f3 : Hid _ := fun (A : Prop) (h : _ → A) => h t3
  clear x3 t3 g12 g2
  by_cases h0 : k = 0
  case neg =>
    repeat (with_reducible first|(first|refine pI1 ?_|refine pS1 ?_);intros|refine pA1 ?_|refine pX1 ?_|refine pB1 ?_|exact True.intro)
    rename_i H4 l4 g4 x4
    repeat (with_reducible first|(first|refine pI1 ?_|refine pS1 ?_);intros|refine pA1 ?_|refine pX1 ?_|refine pB1 ?_|exact True.intro)
    exact ⟨⟨by omega, fun b hb => by rw [x4 b (by omega)]; exact f3 _ fun t => t.2 b hb⟩, .inl ⟨h0, rfl⟩⟩
  subst h0
  repeat (with_reducible first|(first|refine pI1 ?_|refine pS1 ?_);intros|refine pA1 ?_|refine pX1 ?_|refine pB1 ?_|exact True.intro)
  rename_i H4 l4 g4 x4
  repeat (with_reducible first|(first|refine pI1 ?_|refine pS1 ?_);intros|refine pA1 ?_|refine pX1 ?_|refine pB1 ?_|exact True.intro)
  exact ⟨⟨by omega, fun b hb => by rw [x4 b (by omega)]; exact f3 _ fun t => t.2 b hb⟩, .inr ⟨rfl, rfl⟩⟩
theorem s_rowner {H : Heap} {p : Nat} {a : Option Ad} {c : Nat} {o : Bool} {ws : List Int} {bl pa : Nat} {slot : Int} (hb : BusM H p a c o ws bl pa) (hw : ws.length ≤ 100000) (hw0 : 0 < ws.length) (hs : i64 slot) :
    WC F fn_rotaref07_Bus_owner [.c (.ptr (some (p, 0))), .c (.int .i64 slot)] H fun v H' => v = .c (.int .i64 (ownF ws slot)) ∧ H' = H := by
  refine WC_start e_rotaref07_Bus_owner (by simp) ?_
  unfold c_rotaref07_Bus_owner
  obtain ⟨h1, h2, -⟩ := hb
  obtain ⟨s1, s2⟩ := hs
  obtain ⟨n, hn⟩ : ∃ n, ws.length = n := ⟨_, rfl⟩
  rw [hn] at h1 h2 hw hw0
  by_cases c1 : slot < 0
  · have e : ownF ws slot = -1 := by unfold ownF; rw [if_pos (.inl c1)]
    rw [e]
    clear h2 hn
    repeat (with_reducible first|(first|refine pI1 ?_|refine pS1 ?_);intros|refine pA1 ?_|refine pX1 ?_|refine pB1 ?_|exact True.intro)
    exact ⟨rfl, rfl⟩
  obtain ⟨s, rfl⟩ : ∃ s : Nat, slot = s := ⟨slot.toNat, by omega⟩
  obtain ⟨q, hq⟩ : ∃ q, q = s % n := ⟨_, rfl⟩
  have hlt : q < n := by rw [hq]; exact Nat.mod_lt _ (by omega)
  have e : ownF ws s = gn ws q := by unfold ownF; rw [if_neg (by omega), hq, hn, Int.toNat_natCast]
  rw [e]
  obtain ⟨⟨lb, y⟩, rfl⟩ := h2.is_some (by omega)
  have hg := h2.gn hn hlt
  dsimp only at hg
  have hr : (s : Int) % (n : Int) = (q : Nat) := by rw [hq]; rfl
  clear h2 hn e hq
  generalize gn ws q = w at *
  repeat (with_reducible first|(first|refine pI1 ?_|refine pS1 ?_);intros|refine pA1 ?_|refine pX1 ?_|refine pB1 ?_|exact True.intro)
  exact ⟨rfl, rfl⟩
theorem s_rPass {N p : Nat} {H : Heap} {a a2 : Option Ad} {c c2 : Nat} {o o2 : Bool} {ws : List Int} {bl pa : Nat} {slot : Int} {l : List Snd} {n : Nat} (hb : BusM H p a c o ws bl pa) (hw : ws.length ≤ 100000) (hw0 : 0 < ws.length) (hs : i64 slot) (ht : Snds N p H a2 l) (hn : l.length = n) (hn2 : n ≤ 100000) (hN : N ≤ H.length) :
    WC F fn_rotaref07_Bus_Pass [.c (.ptr (some (p, 0))), .c (.int .i64 slot), .c (.sl a2 n c2 o2)] H fun v H' => PassQ N p a c o ws bl pa slot l v H' ∧ But p H H' := by
  refine WC_start e_rotaref07_Bus_Pass (by simp) ?_
  unfold c_rotaref07_Bus_Pass
  have how := s_rowner hb hw hw0 hs
  have hpl : p < H.length := lt_of_get hb.1
  have hal : ∀ b x, a = some (b, x) → b < H.length := fun b x e => hb.2.1.lt e
  have hb1 := hb.1
  have fin0 : Hid _ := fun (A : Prop) (h : _ → _ → _ → A) => h hb ht hal
  obtain ⟨ow, how2⟩ : ∃ ow, ow = ownF ws slot := ⟨_, rfl⟩
  rw [← how2] at how
  unfold PassQ
  rw [← how2, hn]
  have fn : Hid _ := fun (A : Prop) (h : _ → A) => h hn
  clear hb hw hw0 hs ht hal how2 hn
  repeat (with_reducible first|(first|refine pI1 ?_|refine pS1 ?_);intros|refine pA1 ?_|refine pX1 ?_|refine pB1 ?_|exact True.intro)
  refine outM_call how ?_
  rintro _ H1 ⟨rfl, rfl⟩
  clear how
  repeat (with_reducible first|(first|refine pI1 ?_|refine pS1 ?_);intros|refine pA1 ?_|refine pX1 ?_|refine pB1 ?_|exact True.intro)
  refine W_loop (fun m st => ∃ ρ, ∃ i : Nat, st = ⟨L 65 ρ, [], H1⟩ ∧ m = n - i ∧ i ≤ n ∧ ρ 0 = .c (.ptr (some (p, 0))) ∧ ρ 2 = .c (.sl a2 n c2 o2) ∧ ρ 8 = .c (.int .i64 ow) ∧ ρ 9 = .c (.int .i64 (i : Nat)) ∧ ∀ j, j < i → 0 ≤ ow → (gs l j).node ≠ ow) n ⟨_, 0, rfl, rfl, by omega, zf, zf, zf, zf, fun j hj => by omega⟩ ?_
  rintro m st ⟨ρ, i, rfl, rfl, hi, e0, e2, e8, e9, hall⟩
  unfold b_rotaref07_Bus_Pass_9
  have fa : Hid _ := fun (A : Prop) (h : _ → A) => h hall
  clear hall
  by_cases hin : i < n
  · have hxt : (i : Int) < (n : Int) := by omega
    obtain ⟨lb, y, a', c', o', ea, hlb, hlp, hld, hsl, hab, hsi, hby⟩ := fin0 _ fun _ ht _ => fn _ fun hn => send_at ht (i := i) (by omega)
    obtain ⟨hd0, hd1⟩ := ldB_two hld
    subst ea
    have hfst : 0 ≤ ow → (gs l i).node = ow → fstP ow l i := fun h0 h1 => ⟨fn _ fun hn => by omega, h0, h1, fun j hj => fa _ fun hall => hall j hj h0⟩
    have hnext : ¬ (0 ≤ ow ∧ (gs l i).node = ow) → ∀ j, j < i + 1 → 0 ≤ ow → (gs l j).node ≠ ow := fun h j hj h0 => by
      by_cases e : j = i
      · subst e; exact fun h1 => h ⟨h0, h1⟩
      · exact fa _ fun hall => hall j (by omega) h0
    obtain ⟨nd, hnd⟩ : ∃ nd, (gs l i).node = nd := ⟨_, rfl⟩
    obtain ⟨nb, hnb⟩ : ∃ nb, (gs l i).bytes.length = nb := ⟨_, rfl⟩
    rw [hnd] at hd0 hfst hnext
    rw [hnb] at hd1
    have f1 : Hid _ := fun (A : Prop) (h : _ → _ → _ → _ → _ → _ → A) => h hsl hab hby hfst hnext hnb
    clear hsl hab hby hfst hnext hnb hld hnd hsi
    by_cases h0 : 0 ≤ ow
    · by_cases h1 : nd = ow
      · have ff := f1 _ fun _ _ _ hfst _ _ => hfst h0 h1
        have fff : Hid _ := fun (A : Prop) (h : _ → A) => h ff
        clear ff
        subst h1
        obtain ⟨k, rfl⟩ : ∃ k, n = k + 1 := ⟨n - 1, by omega⟩
        have hk1 : ((k + 1 : Nat) : Int) - 1 = (k : Nat) := by omega
        repeat (with_reducible first|(first|refine pI1 ?_|refine pS1 ?_);intros|refine pA1 ?_|refine pX1 ?_|refine pB1 ?_|exact True.intro)
        rename_i H3 l3 g3 x3 H4 l4 g4 x4
        have hx : ∀ b, b ≠ p → H4[b]? = H1[b]? := fun b hp => by rw [x4 b hp, x3 b hp]
        have g4' : H4[p]? = some (.cells [.sl a ws.length c o, .int .u64 ((bl + k) % 18446744073709551616 : Nat), .int .u64 ((pa + 1) % 18446744073709551616 : Nat)] false none) := g4
        have fx : Hid _ := fun (A : Prop) (h : _ → _ → A) => h hx g4'
        have hd1' : ldB H4[lb]? (y + i * 2 + 1) = some (.sl a' nb c' o') := by rw [hx lb hlp]; exact hd1
        clear hx g4' g4 x4 x3 g3 hd1 hd0 hb1
        repeat (with_reducible first|(first|refine pI1 ?_|refine pS1 ?_);intros|refine pA1 ?_|refine pX1 ?_|refine pB1 ?_|exact True.intro)
        refine ⟨.inr ⟨i, a', c', o', fff _ fun h => h, by rw [f1 _ fun _ _ _ _ _ h => h], f1 _ fun hsl hab _ _ _ _ => hsl.keep fun b x e => fx _ fun hx _ => hx b (hab b x e).2, f1 _ fun _ hab _ _ _ _ => hab, f1 _ fun _ _ hby _ _ _ => hby, ?_⟩, by omega, fx _ fun hx _ b _ hb => hx b hb⟩
        exact ⟨fx _ fun _ g => g, fin0 _ fun hb _ hal => hb.2.1.keep fun b x e => fx _ fun hx _ => hx b (hb.2.2 _ _ e), fin0 _ fun hb _ _ => hb.2.2⟩
      · have hn := f1 _ fun _ _ _ _ hnext _ => hnext fun h => h1 h.2
        have fhn : Hid _ := fun (A : Prop) (h : _ → A) => h hn
        clear hn hb1
        repeat (with_reducible first|(first|refine pI1 ?_|refine pS1 ?_);intros|refine pA1 ?_|refine pX1 ?_|refine pB1 ?_|exact True.intro)
        exact loopQ_n (n - (i + 1)) (by omega) ⟨_, i + 1, rfl, rfl, by omega, zf, zf, zf, zf, fhn _ fun h => h⟩
    · have hn := f1 _ fun _ _ _ _ hnext _ => hnext fun h => h0 h.1
      have fhn : Hid _ := fun (A : Prop) (h : _ → A) => h hn
      clear hn hb1
      repeat (with_reducible first|(first|refine pI1 ?_|refine pS1 ?_);intros|refine pA1 ?_|refine pX1 ?_|refine pB1 ?_|exact True.intro)
      exact loopQ_n (n - (i + 1)) (by omega) ⟨_, i + 1, rfl, rfl, by omega, zf, zf, zf, zf, fhn _ fun h => h⟩
  · obtain rfl : i = n := by omega
    have hxt : ¬ (i : Int) < (i : Int) := by omega
    repeat (with_reducible first|(first|refine pI1 ?_|refine pS1 ?_);intros|refine pA1 ?_|refine pX1 ?_|refine pB1 ?_|exact True.intro)
    rename_i H3 l3 g3 x3
    have g3' : H3[p]? = some (.cells [.sl a ws.length c o, .int .u64 ((bl + i) % 18446744073709551616 : Nat), .int .u64 (pa : Nat)] false none) := g3
    have fx : Hid _ := fun (A : Prop) (h : _ → _ → A) => h x3 g3'
    clear x3 g3 g3'
    repeat (with_reducible first|(first|refine pI1 ?_|refine pS1 ?_);intros|refine pA1 ?_|refine pX1 ?_|refine pB1 ?_|exact True.intro)
    refine ⟨.inl ⟨fun j hj => fa _ fun hall => hall j (by have := fn _ fun hn => hn; omega), rfl, ?_⟩, by omega, fx _ fun hx _ b _ hb => hx b hb⟩
    exact ⟨fx _ fun _ g => g, fin0 _ fun hb _ hal => hb.2.1.keep fun b x e => fx _ fun hx _ => hx b (hb.2.2 _ _ e), fin0 _ fun hb _ _ => hb.2.2⟩
end Go.Proofs.Ytbgmbnikpjjmcaa.AM.D07
