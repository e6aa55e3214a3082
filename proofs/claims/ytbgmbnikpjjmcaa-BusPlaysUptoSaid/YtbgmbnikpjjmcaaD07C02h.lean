/- What the functions of chapter 2 come to: all links; the check. -/
import Derived.Test.YtbgmbnikpjjmcaaD07C02g
set_option linter.unusedVariables false
set_option linter.unusedSimpArgs false
set_option linter.unusedSectionVars false
namespace Go.Proofs.Ytbgmbnikpjjmcaa.AM.D07
open Go Go.Proofs.Ytbgmbnikpjjmcaa.AM Go.Proofs.Ytbgmbnikpjjmcaa.AM.C02
set_option maxHeartbeats 2000000
set_option maxRecDepth 100000
attribute [local go_sem] tn_add1 tn_sub1 put_all' nums_len aop_mn aop_mx mnO_int mxO_int sub12 sub3 sub6 rep6
set_option maxHeartbeats 20000000
theorem W_dest {N : Nat} {H H0 : Heap} {c : Cfg} {h : Hd} {C : List Cell} {ρ : Env} {b1 b2 b3 b5 b6 i m n nd : Nat} {ad : Option Ad} {cd : Nat} {s : Pt} {Q : Ex → St → Prop} {C5 : List Cell}
    (hc : CfgM N H0 c h) (hN : N ≤ H.length) (hC : C = c.cells h) (hH : ∀ b, b < N → H[b]? = H0[b]?) (hm : c.ports.length = m) (hm64 : m ≤ 64) (hi : i < c.links.length) (hnd : (c.link i).dests.length = nd) (hnd0 : 0 < nd) (hndb : nd ≤ maxLen) (hs : s = c.port (c.link i).src)
    (hC5 : C5 = [.int .i64 (c.link i).src, .sl ad nd cd false, .int .i64 (c.link i).off]) (had : Sl H 1 ad nd (nums (c.link i).dests)) (hadN : ∀ b x, ad = some (b, x) → b < N)
    (g1 : H[b1]? = some (.cells C false none)) (g2 : H[b2]? = some (.cells [.bool false] false none)) (g3 : H[b3]? = some (.cells (nums (tkn m (Cfg.used (c.links.take i) ++ [(c.link i).src]))) false none)) (g5 : H[b5]? = some (.cells C5 false none)) (g6 : H[b6]? = some (.cells s.cells false none))
    (hb : N ≤ b1 ∧ b1 < b2 ∧ b2 < b3 ∧ b3 < b5 ∧ b5 < b6) (hds : DsOk c i 0)
    (e1 : ρ 1 = .c (.ptr (some (b1, 0)))) (e2 : ρ 2 = .c (.ptr (some (b2, 0)))) (e3 : ρ 3 = .c (.sl (some (b3, 0)) m m false)) (e5 : ρ 5 = .c (.ptr (some (b5, 0)))) (e6 : ρ 6 = .c (.ptr (some (b6, 0)))) (e78 : ρ 78 = .c (.sl ad nd cd false)) (e79 : ρ 79 = .c (.int .i64 (nd : Nat))) (e80 : ρ 80 = .c (.int .i64 0))
    (hok : ∀ ρ' H', ρ' 1 = ρ 1 → ρ' 2 = ρ 2 → ρ' 3 = ρ 3 → ρ' 27 = ρ 27 → ρ' 28 = ρ 28 → ρ' 29 = ρ 29 → DsOk c i nd → H.length ≤ H'.length → (∀ b, b < H.length → b ≠ b3 → H'[b]? = H[b]?) → H'[b3]? = some (.cells (nums (tkn m (Cfg.used (c.links.take (i + 1))))) false none) → Q (.exit 1) ⟨L 195 ρ', [], H'⟩)
    (hno : ∀ ρ' H', ρ' 2 = ρ 2 → ¬ c.okLinks → H.length ≤ H'.length → (∀ b, b < H.length → b ≠ b2 → b ≠ b3 → H'[b]? = H[b]?) → H'[b2]? = some (.cells [.bool false] false none) → Q .ret ⟨L 195 ρ', [], H'⟩) :
    W F none (.loop b_config_links_20) ⟨L 195 ρ, [], H⟩ Q := by
  have hmx : maxLen = 2 ^ 32 ∨ True := .inr trivial
  refine W_loop (fun q st => ∃ ρ' k Hk, st = ⟨L 195 ρ', [], Hk⟩ ∧ q = nd - k ∧ k < nd ∧ ρ' 1 = ρ 1 ∧ ρ' 2 = ρ 2 ∧ ρ' 3 = ρ 3 ∧ ρ' 5 = ρ 5 ∧ ρ' 6 = ρ 6 ∧ ρ' 27 = ρ 27 ∧ ρ' 28 = ρ 28 ∧ ρ' 29 = ρ 29 ∧ ρ' 78 = .c (.sl ad nd cd false) ∧ ρ' 79 = .c (.int .i64 (nd : Nat)) ∧ ρ' 80 = .c (.int .i64 (k : Nat)) ∧ DsOk c i k ∧ H.length ≤ Hk.length ∧ (∀ b, b < H.length → b ≠ b3 → Hk[b]? = H[b]?) ∧ Hk[b3]? = some (.cells (nums (tkn m (Cfg.used (c.links.take i) ++ ((c.link i).src :: (c.link i).dests.take k)))) false none)) nd ⟨_, 0, H, rfl, rfl, hnd0, rfl, rfl, rfl, rfl, rfl, rfl, rfl, rfl, e78, e79, e80, hds, Nat.le_refl _, fun _ _ _ => rfl, g3⟩ ?_
  clear e78 e79 e80 g3 hds
  rintro q st ⟨ρ', k, Hk, rfl, rfl, hk, z1, z2, z3, z5, z6, z27, z28, z29, z78, z79, z80, hds, lk, xk, k3⟩
  unfold b_config_links_20
  have hmx : maxLen = 9223372036854775807 := rfl
  obtain ⟨hb1, hb2, hb3, hb5, hb6⟩ := hb
  have lb6 := lt_of_get g6
  subst hC
  unfold Cfg.cells at g1
  have yk : ∀ b, b < N → Hk[b]? = H0[b]? := fun b hb => (xk b (by omega) (by omega)).trans (hH b hb)
  have hcp : ∀ Hx : Heap, (∀ b, b < N → Hx[b]? = Hk[b]?) → N ≤ Hx.length → ∀ v, _ := fun Hx hx hl v => s_port (n := v) (hc.keep (H' := Hx) fun b hb => (hx b hb).trans (yk b hb)) hl (by rw [hm]; exact hm64)
  rw [hm] at hcp
  have k1 : Hk[b1]? = _ := (xk b1 (by omega) (by omega)).trans g1
  have k2 : Hk[b2]? = _ := (xk b2 (by omega) (by omega)).trans g2
  have k5 : Hk[b5]? = _ := (xk b5 (by omega) (by omega)).trans g5
  have k6 : Hk[b6]? = _ := (xk b6 (by omega) (by omega)).trans g6
  have hadk : Sl Hk 1 ad nd (nums (c.link i).dests) := had.keep fun b x e => xk b (by have := hadN b x e; omega) (by have := hadN b x e; omega)
  obtain ⟨⟨la, y⟩, rfl⟩ := hadk.is_some (by omega)
  have hld := Sl.gn hadk hnd hk
  dsimp only at hld
  subst hC5
  have hla : la < N := hadN la y rfl
  have hno' : ∀ v, v = gn (c.link i).dests k → (¬ c.okDest (c.link i).src v ∨ 0 < cn v (Cfg.used (c.links.take i) ++ ((c.link i).src :: (c.link i).dests.take k))) → ¬ c.okLinks := fun v e h' => by subst e; exact no_dest hi (by omega) h'
  have hstep : ∀ v, v = gn (c.link i).dests k → c.okDest (c.link i).src v → cn v (Cfg.used (c.links.take i) ++ ((c.link i).src :: (c.link i).dests.take k)) = 0 → DsOk c i (k + 1) := fun v e h1 h2 => by subst e; exact hds.next (by omega) h1 h2
  have htk : ∀ v, v = gn (c.link i).dests k → Cfg.used (c.links.take i) ++ ((c.link i).src :: (c.link i).dests.take k) ++ [v] = Cfg.used (c.links.take i) ++ ((c.link i).src :: (c.link i).dests.take (k + 1)) := fun v e => by
    subst e
    rw [List.take_succ_eq_append_getElem (show k < (c.link i).dests.length by omega), List.append_assoc, List.cons_append]
    simp [gn, show k < (c.link i).dests.length by omega]
  have hend : k + 1 = nd → Cfg.used (c.links.take i) ++ ((c.link i).src :: (c.link i).dests.take (k + 1)) = Cfg.used (c.links.take (i + 1)) := fun e => by
    rw [e, ← hnd, List.take_length, used_take hi]
  obtain ⟨v, hv⟩ : ∃ v, v = gn (c.link i).dests k := ⟨_, rfl⟩
  rw [← hv] at hld
  have hno' := hno' v hv
  have hstep := hstep v hv
  have htk := htk v hv
  have hdest : c.okDest (c.link i).src v ↔ ((0 ≤ v ∧ v < (m : Int)) ∧ (c.port v).dir = 2 ∧ (c.port v).kind = s.kind ∧ (c.port v).size = s.size) := by unfold Cfg.okDest Cfg.isP; rw [hm, hs]
  have hisP : c.isP v ↔ (0 ≤ v ∧ v < (m : Int)) := by unfold Cfg.isP; rw [hm]
  obtain ⟨U, hU⟩ : ∃ U, U = Cfg.used (c.links.take i) ++ ((c.link i).src :: (c.link i).dests.take k) := ⟨_, rfl⟩
  rw [← hU] at hno' hstep htk k3
  generalize c.okDest (c.link i).src v = P at *
  have hget : 0 ≤ v → v < (m : Int) → (nums (tkn m U))[v.toNat]? = some (.int .i64 ((cn v U : Nat) : Int)) := fun h1 h2 => by
    rw [nums_get (by rw [tkn_len]; omega), tkn_gn (by omega), show ((v.toNat : Nat) : Int) = v by omega]
  have hset : 0 ≤ v → v < (m : Int) → (nums (tkn m U)).set v.toNat (.int .i64 (((cn v U : Nat) : Int) + 1)) = nums (tkn m (U ++ [v])) := fun h1 h2 => by
    have := tkn_set (m := m) (U := U) (k := v.toNat) (by omega)
    rwa [show ((v.toNat : Nat) : Int) = v by omega] at this
  have hcl : (nums (tkn m U)).length = m := by rw [nums_len, tkn_len]
  have hcnb : cn v U ≤ U.length := List.countP_le_length
  obtain ⟨s1, s2, s3, s4, s5, s6⟩ := s
  dsimp only [Pt.cells] at k6 hdest
  have fin0 : Hid _ := fun (A : Prop) (h : _ → _ → _ → _ → _ → _ → A) => h hno' hstep htk hdest hisP hend
  have fin1 : Hid _ := fun (A : Prop) (h : _ → _ → _ → _ → _ → _ → _ → A) => h hcp xk lk hno hok hget hset
  have fin2 : Hid _ := fun (A : Prop) (h : _ → _ → _ → A) => h hds hU hm
  clear hno' hstep htk hdest hisP hend hcp xk lk hno hok hget hset hds hU had hadk hH yk hc hs hv g1 g2 g5 g6 hm
  have hmk : k < 9223372036854775807 := by omega
  repeat (with_reducible first|(first|refine pI1 ?_|refine pS1 ?_);intros|refine pA1 ?_|refine pX1 ?_|refine pB1 ?_|exact True.intro)
  have hcp := fin1 _ fun hcp _ _ _ _ _ _ => hcp
  refine outM_call (hcp Hk (fun _ _ => rfl) (by have := lt_of_get k6; omega) v) ?_
  clear hcp
  rintro _ H4 ⟨⟨p, rfl, hp⟩, l4, x4⟩
  have m1 : H4[b1]? = _ := (x4 b1 (lt_of_get k1)).trans k1
  have m2 : H4[b2]? = _ := (x4 b2 (lt_of_get k2)).trans k2
  have m3 : H4[b3]? = _ := (x4 b3 (lt_of_get k3)).trans k3
  have m5 : H4[b5]? = _ := (x4 b5 (lt_of_get k5)).trans k5
  have m6 : H4[b6]? = _ := (x4 b6 (lt_of_get k6)).trans k6
  have lb6' := lt_of_get k6
  obtain ⟨p1, p2, p3, p4, p5, p6⟩ := p
  dsimp only [Pt.cells]
  have fin3 : Hid _ := fun (A : Prop) (h : _ → _ → A) => h hp x4
  clear hp x4 k1 k2 k3 k5 k6 hld
  have key : ∀ Hx, Xt H4 Hx → ∀ b, b < H.length → b ≠ b3 → Hx[b]? = H[b]? := fun Hx hx b hb hne => by
    rw [hx.2 b (fin1 _ fun _ _ lk _ _ _ _ => by omega), fin3 _ fun _ x4 => x4 b (fin1 _ fun _ _ lk _ _ _ _ => by omega)]
    exact fin1 _ fun _ xk _ _ _ _ _ => xk b hb hne
  have hlen4 : H.length ≤ H4.length := fin1 _ fun _ _ lk _ _ _ _ => by omega
  have fin4 : Hid _ := fun (A : Prop) (h : _ → A) => h key
  clear key
  by_cases hv1 : 0 ≤ v ∧ v ≤ (m : Int) - 1
  case neg =>
    have hP : ¬ P := fun h => hv1 (by have := ((fin0 _ fun _ _ _ hd _ _ => hd).1 h).1; omega)
    rw [decide_eq_false hv1]
    repeat (with_reducible first|(first|refine pI1 ?_|refine pS1 ?_);intros|refine pA1 ?_|refine pX1 ?_|refine pB1 ?_|exact True.intro)
    rename_i b8 H8 q8 g8 x8 H9 l9 g9 x9 H10 l10 g10 x10
    have z : Xt H4 H9 := ⟨by omega, fun b hb => by rw [x9 b (by omega), x8 b (by omega)]⟩
    refine fin1 _ fun _ _ _ hno _ _ _ => ?_
    exact hno _ _ zf (fin0 _ fun hn _ _ _ _ _ => hn (.inl hP)) (by omega) (fun b hb hn2 hn3 => by rw [x10 b hn2]; exact fin4 _ fun key => key _ z b hb hn3) g10
  rw [decide_eq_true hv1]
  obtain ⟨v1, v2⟩ := hv1
  have hpe := fin3 _ fun hp _ => hp ((fin0 _ fun _ _ _ _ h _ => h).2 ⟨v1, by omega⟩)
  have hdp : P ↔ (p3 = 2 ∧ p2 = s2 ∧ p4 = s4) := by
    have hd := fin0 _ fun _ _ _ hd _ _ => hd
    rw [← hpe] at hd
    dsimp only at hd
    rw [hd]
    constructor
    · rintro ⟨_, h1, h2, h3⟩; exact ⟨h1, h2, h3⟩
    · rintro ⟨h1, h2, h3⟩; exact ⟨⟨v1, by omega⟩, h1, h2, h3⟩
  have fin5 : Hid _ := fun (A : Prop) (h : _ → A) => h hdp
  have hgt := fin1 _ fun _ _ _ _ _ hg _ => hg v1 (by omega)
  have hvm : v.toNat < m := by omega
  have hv64 : v < 9223372036854775807 := by omega
  clear hpe hdp
  by_cases hd : p3 = 2 ∧ p2 = s2 ∧ p4 = s4
  case neg =>
    have hP : ¬ P := fun h => hd (fin5 _ fun hi => hi.1 h)
    by_cases h3 : p3 = 2
    · by_cases h2 : p2 = s2
      · have h4 : ¬ p4 = s4 := fun h => hd ⟨h3, h2, h⟩
        repeat (with_reducible first|(first|refine pI1 ?_|refine pS1 ?_);intros|refine pA1 ?_|refine pX1 ?_|refine pB1 ?_|exact True.intro)
        rename_i b8 H8 q8 g8 x8 H9 l9 g9 x9 H10 l10 g10 x10
        have z : Xt H4 H9 := ⟨by omega, fun b hb => by rw [x9 b (by omega), x8 b (by omega)]⟩
        refine fin1 _ fun _ _ _ hno _ _ _ => ?_
        exact hno _ _ zf (fin0 _ fun hn _ _ _ _ _ => hn (.inl hP)) (by omega) (fun b hb hn2 hn3 => by rw [x10 b hn2]; exact fin4 _ fun key => key _ z b hb hn3) g10
      · repeat (with_reducible first|(first|refine pI1 ?_|refine pS1 ?_);intros|refine pA1 ?_|refine pX1 ?_|refine pB1 ?_|exact True.intro)
        rename_i b8 H8 q8 g8 x8 H9 l9 g9 x9 H10 l10 g10 x10
        have z : Xt H4 H9 := ⟨by omega, fun b hb => by rw [x9 b (by omega), x8 b (by omega)]⟩
        refine fin1 _ fun _ _ _ hno _ _ _ => ?_
        exact hno _ _ zf (fin0 _ fun hn _ _ _ _ _ => hn (.inl hP)) (by omega) (fun b hb hn2 hn3 => by rw [x10 b hn2]; exact fin4 _ fun key => key _ z b hb hn3) g10
    · repeat (with_reducible first|(first|refine pI1 ?_|refine pS1 ?_);intros|refine pA1 ?_|refine pX1 ?_|refine pB1 ?_|exact True.intro)
      rename_i b8 H8 q8 g8 x8 H9 l9 g9 x9 H10 l10 g10 x10
      have z : Xt H4 H9 := ⟨by omega, fun b hb => by rw [x9 b (by omega), x8 b (by omega)]⟩
      refine fin1 _ fun _ _ _ hno _ _ _ => ?_
      exact hno _ _ zf (fin0 _ fun hn _ _ _ _ _ => hn (.inl hP)) (by omega) (fun b hb hn2 hn3 => by rw [x10 b hn2]; exact fin4 _ fun key => key _ z b hb hn3) g10
  have hP : P := fin5 _ fun hi => hi.2 hd
  obtain ⟨rfl, rfl, rfl⟩ := hd
  by_cases hcn : (0 : Int) < ((cn v U : Nat) : Int)
  · repeat (with_reducible first|(first|refine pI1 ?_|refine pS1 ?_);intros|refine pA1 ?_|refine pX1 ?_|refine pB1 ?_|exact True.intro)
    rename_i b8 H8 q8 g8 x8 H9 l9 g9 x9 H10 l10 g10 x10
    have z : Xt H4 H9 := ⟨by omega, fun b hb => by rw [x9 b (by omega), x8 b (by omega)]⟩
    refine fin1 _ fun _ _ _ hno _ _ _ => ?_
    exact hno _ _ zf (fin0 _ fun hn _ _ _ _ _ => hn (.inr (by omega))) (by omega) (fun b hb hn2 hn3 => by rw [x10 b hn2]; exact fin4 _ fun key => key _ z b hb hn3) g10
  have hcz : cn v U = 0 := by omega
  have hds' := fin2 _ fun hds hU hm => (fin0 _ fun _ hstep _ _ _ _ => hstep hP hcz)
  have hst := fin1 _ fun _ _ _ _ _ _ hs => hs v1 (by omega)
  rw [hcz] at hgt hst
  have hgt : (nums (tkn m U))[v.toNat]? = some (.int .i64 0) := hgt
  have hst : (nums (tkn m U)).set v.toNat (.int .i64 1) = nums (tkn m (U ++ [v])) := hst
  rw [fin0 _ fun _ _ h _ _ _ => h] at hst
  have fin6 : Hid _ := fun (A : Prop) (h : _ → _ → A) => h hds' hst
  clear hcn hcz hds' hst hcnb fin5
  by_cases hlast : k + 1 = nd
  · have hl1 : (k : Int) = (nd : Int) - 1 := by omega
    repeat (with_reducible first|(first|refine pI1 ?_|refine pS1 ?_);intros|refine pA1 ?_|refine pX1 ?_|refine pB1 ?_|exact True.intro)
    rename_i b8 H8 q8 g8 x8 H9 l9 g9 x9 H10 l10 g10 x10
    have z : Xt H4 H9 := ⟨by omega, fun b hb => by rw [x9 b (by omega), x8 b (by omega)]⟩
    have g10' : H10[b3]? = some (.cells (nums (tkn m (Cfg.used (c.links.take (i + 1))))) false none) := by
      rw [← fin0 _ fun _ _ _ _ _ h => h hlast, ← fin6 _ fun _ h => h]; exact g10
    refine fin1 _ fun _ _ _ _ hok _ _ => ?_
    exact hok _ _ zf zf zf zf zf zf (fin6 _ fun h _ => by rw [← hlast]; exact h) (by omega) (fun b hb hn => by rw [x10 b hn]; exact fin4 _ fun key => key _ z b hb hn) g10'
  · have hl1 : ¬ (k : Int) = (nd : Int) - 1 := by omega
    repeat (with_reducible first|(first|refine pI1 ?_|refine pS1 ?_);intros|refine pA1 ?_|refine pX1 ?_|refine pB1 ?_|exact True.intro)
    rename_i b8 H8 q8 g8 x8 H9 l9 g9 x9 H10 l10 g10 x10
    have z : Xt H4 H9 := ⟨by omega, fun b hb => by rw [x9 b (by omega), x8 b (by omega)]⟩
    have g10' : H10[b3]? = some (.cells (nums (tkn m (Cfg.used (c.links.take i) ++ ((c.link i).src :: (c.link i).dests.take (k + 1))))) false none) := by
      rw [← fin6 _ fun _ h => h]; exact g10
    exact loopQ_n (nd - (k + 1)) (by omega) ⟨_, k + 1, H10, rfl, rfl, by omega, zf, zf, zf, zf, zf, zf, zf, zf, zf, zf, zf, fin6 _ fun h _ => h, by omega, fun b hb hn => by rw [x10 b hn]; exact fin4 _ fun key => key _ z b hb hn, g10'⟩
end Go.Proofs.Ytbgmbnikpjjmcaa.AM.D07
