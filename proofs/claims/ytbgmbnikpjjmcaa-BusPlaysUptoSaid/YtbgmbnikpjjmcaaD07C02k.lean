/- What the document's functions of chapter 2 come to: counts, nodes, clocks. -/
import Derived.Test.YtbgmbnikpjjmcaaD07C02e
set_option linter.unusedVariables false
set_option linter.unusedSimpArgs false
set_option linter.unusedSectionVars false
namespace Go.Proofs.Ytbgmbnikpjjmcaa.AM.D07
open Go Go.Proofs.Ytbgmbnikpjjmcaa.AM Go.Proofs.Ytbgmbnikpjjmcaa.AM.C02
set_option maxHeartbeats 2000000
set_option maxRecDepth 100000
attribute [local go_sem] tn_add1 tn_sub1 put_all' nums_len sub12 sub3 sub6
theorem cn_take {ws : List Int} {x : Int} {i : Nat} (h : i < ws.length) : cn x (ws.take (i + 1)) = cn x (ws.take i) + if gn ws i = x then 1 else 0 := by
  have e : gn ws i = ws[i] := by simp [gn, h]
  rw [List.take_succ_eq_append_getElem h, cn_app, cn_one, e]
theorem s_rcount {H : Heap} {n c : Nat} {a : Option Ad} {o : Bool} {ws : List Int} {x : Int} (hn : n ≤ 10000000) (hl : ws.length = n) (hs : Sl H 1 a n (nums ws)) :
    WC F fn_rotaref02_count [.c (.sl a n c o), .c (.int .i64 x)] H fun v H' => v = .c (.int .i64 (cn x ws : Nat)) ∧ H' = H := by
  refine WC_start e_rotaref02_count (by simp) ?_
  unfold c_rotaref02_count
  have fin0 : Hid _ := fun (A : Prop) (h : _ → _ → A) => h hs hl
  have hcl : ∀ i, cn x (ws.take i) ≤ n := fun i => by
    have h1 : cn x (ws.take i) ≤ (ws.take i).length := List.countP_le_length
    rw [List.length_take] at h1; omega
  have fcl : Hid _ := fun (A : Prop) (h : _ → A) => h hcl
  clear hs hl hcl
  repeat (with_reducible first|(first|refine pI1 ?_|refine pS1 ?_);intros|refine pA1 ?_|refine pX1 ?_|refine pB1 ?_|exact True.intro)
  refine W_loop (fun m st => ∃ ρ, ∃ i : Nat, st = ⟨L 22 ρ, [], H⟩ ∧ m = n - i ∧ i ≤ n ∧ ρ 0 = .c (.sl a n c o) ∧ ρ 1 = .c (.int .i64 x) ∧ ρ 5 = .c (.int .i64 (cn x (ws.take i) : Nat)) ∧ ρ 6 = .c (.int .i64 (i : Nat))) n ⟨_, 0, rfl, by omega, by omega, zf, zf, zf, zf⟩ ?_
  rintro m st ⟨ρ, i, rfl, rfl, hi, e0, e1, e5, e6⟩
  unfold b_rotaref02_count_7
  by_cases hin : i < n
  · obtain ⟨⟨lb, y⟩, ea⟩ := fin0 _ fun hs _ => hs.is_some (by omega)
    have hld := fin0 _ fun hs hl => Sl.gn (by rw [ea] at hs; exact hs) hl hin
    dsimp only at hld
    have hct := fin0 _ fun _ hl => cn_take (x := x) (by rw [hl]; exact hin)
    have hc1 := fcl _ fun h => h i
    rw [ea] at e0
    have hxt : (i : Int) < (n : Int) := by omega
    generalize cn x (ws.take i) = k at *
    generalize gn ws i = u at *
    have f1 : Hid _ := fun (A : Prop) (h : _ → _ → A) => h hct ea
    clear hct ea
    by_cases h1 : u = x
    · have hk : cn x (ws.take (i + 1)) = k + 1 := f1 _ fun h _ => by rw [h, if_pos h1]
      have fk : Hid _ := fun (A : Prop) (h : _ → A) => h hk
      clear hk
      subst h1
      repeat (with_reducible first|(first|refine pI1 ?_|refine pS1 ?_);intros|refine pA1 ?_|refine pX1 ?_|refine pB1 ?_|exact True.intro)
      exact loopQ_n (n - (i + 1)) (by omega) ⟨_, i + 1, rfl, by omega, by omega, by rw [f1 _ fun _ h => h]; exact zf, zf, by rw [fk _ fun h => h]; exact zf, zf⟩
    · have hk : cn x (ws.take (i + 1)) = k := f1 _ fun h _ => by rw [h, if_neg h1]; rfl
      have fk : Hid _ := fun (A : Prop) (h : _ → A) => h hk
      clear hk
      repeat (with_reducible first|(first|refine pI1 ?_|refine pS1 ?_);intros|refine pA1 ?_|refine pX1 ?_|refine pB1 ?_|exact True.intro)
      exact loopQ_n (n - (i + 1)) (by omega) ⟨_, i + 1, rfl, by omega, by omega, by rw [f1 _ fun _ h => h]; exact zf, zf, by rw [fk _ fun h => h]; exact zf, zf⟩
  · obtain rfl : i = n := by omega
    have e : ws.take i = ws := fin0 _ fun _ hl => by rw [← hl]; exact List.take_length
    rw [e] at e5
    have hxt : ¬ (i : Int) < (i : Int) := by omega
    clear fcl fin0 e
    repeat (with_reducible first|(first|refine pI1 ?_|refine pS1 ?_);intros|refine pA1 ?_|refine pX1 ?_|refine pB1 ?_|exact True.intro)
    exact ⟨rfl, rfl⟩
theorem s_rmeet {H : Heap} {a b c d : Nat} (hb : b ≤ 1000000) : WC F fn_rotaref02_meet [.c (.int .i64 (a : Nat)), .c (.int .i64 (b : Nat)), .c (.int .i64 (c : Nat)), .c (.int .i64 (d : Nat))] H fun v H' => v = .c (.bool (dB (Cfg.meets a b c d))) ∧ H' = H := by
  refine WC_start e_rotaref02_meet (by simp) ?_
  unfold c_rotaref02_meet
  have hmt : Cfg.meets a b c d ↔ max (a : Int) c < min (b : Int) d := Iff.rfl
  have fm : Hid _ := fun (A : Prop) (h : _ → A) => h hmt
  clear hmt
  repeat (with_reducible first|(first|refine pI1 ?_|refine pS1 ?_);intros|refine pA1 ?_|refine pX1 ?_|refine pB1 ?_|exact True.intro)
  refine W_loop (fun m st => ∃ ρ, ∃ i : Nat, st = ⟨L 24 ρ, [], H⟩ ∧ m = b - i ∧ a ≤ i ∧ ρ 0 = .c (.int .i64 (a : Nat)) ∧ ρ 1 = .c (.int .i64 (b : Nat)) ∧ ρ 2 = .c (.int .i64 (c : Nat)) ∧ ρ 3 = .c (.int .i64 (d : Nat)) ∧ ρ 9 = .c (.int .i64 (i : Nat)) ∧ ∀ j, a ≤ j → j < i → j < b → ¬ (c ≤ j ∧ j < d)) (b - a) ⟨_, a, rfl, by omega, by omega, zf, zf, zf, zf, zf, fun j h1 h2 => by omega⟩ ?_
  rintro m st ⟨ρ, i, rfl, rfl, hi, e0, e1, e2, e3, e9, hall⟩
  unfold b_rotaref02_meet_6
  have fa : Hid _ := fun (A : Prop) (h : _ → A) => h hall
  clear hall
  by_cases hin : i < b
  · have hxt : (i : Int) < (b : Int) := by omega
    by_cases h1 : c ≤ i
    · by_cases h2 : i < d
      · have e : dB (Cfg.meets a b c d) = true := dB_t (fm _ fun h => h.2 (by omega))
        rw [e]
        repeat (with_reducible first|(first|refine pI1 ?_|refine pS1 ?_);intros|refine pA1 ?_|refine pX1 ?_|refine pB1 ?_|exact True.intro)
        exact ⟨rfl, rfl⟩
      · repeat (with_reducible first|(first|refine pI1 ?_|refine pS1 ?_);intros|refine pA1 ?_|refine pX1 ?_|refine pB1 ?_|exact True.intro)
        exact loopQ_n (b - (i + 1)) (by omega) ⟨_, i + 1, rfl, by omega, by omega, zf, zf, zf, zf, zf, fun j q1 q2 q3 => by
          by_cases e : j = i
          · subst e; omega
          · exact fa _ fun h => h j q1 (by omega) q3⟩
    · repeat (with_reducible first|(first|refine pI1 ?_|refine pS1 ?_);intros|refine pA1 ?_|refine pX1 ?_|refine pB1 ?_|exact True.intro)
      exact loopQ_n (b - (i + 1)) (by omega) ⟨_, i + 1, rfl, by omega, by omega, zf, zf, zf, zf, zf, fun j q1 q2 q3 => by
        by_cases e : j = i
        · subst e; omega
        · exact fa _ fun h => h j q1 (by omega) q3⟩
  · have hxt : ¬ (i : Int) < (b : Int) := by omega
    have e : dB (Cfg.meets a b c d) = false := dB_f (fm _ fun hm h => by
      have h := hm.1 h
      exact fa _ fun hall => hall (max a c) (by omega) (by omega) (by omega) ⟨by omega, by omega⟩)
    rw [e]
    repeat (with_reducible first|(first|refine pI1 ?_|refine pS1 ?_);intros|refine pA1 ?_|refine pX1 ?_|refine pB1 ?_|exact True.intro)
    exact ⟨rfl, rfl⟩
section
variable {N : Nat} {H : Heap} {c : Cfg} {h : Hd}
theorem s_rPrec (hd : 0 ≤ c.drift ∧ c.drift ≤ 1048576 ∧ 0 ≤ c.reading ∧ c.reading ≤ 1048576) : WC F fn_rotaref02_Precision [.agg (c.cells h)] H fun v H' => v = .c (.int .i64 c.prec) ∧ Xt H H' := by
  refine WC_start e_rotaref02_Precision (by simp) ?_
  unfold c_rotaref02_Precision Cfg.prec Cfg.cells
  obtain ⟨d1, d2, d3, d4⟩ := hd
  repeat (with_reducible first|(first|refine pI1 ?_|refine pS1 ?_);intros|refine pA1 ?_|refine pX1 ?_|refine pB1 ?_|exact True.intro)
  rename_i b1 H1 p1 g1 x1
  repeat (with_reducible first|(first|refine pI1 ?_|refine pS1 ?_);intros|refine pA1 ?_|refine pX1 ?_|refine pB1 ?_|exact True.intro)
  exact ⟨rfl, by omega, fun b hb => x1 b (by omega)⟩
theorem s_ris {n : Int} : WC F fn_rotaref02_is [.agg (c.cells h), .c (.int .i64 n)] H fun v H' => v = .c (.bool (decide (0 ≤ n ∧ n < (c.ports.length : Int)))) ∧ Xt H H' := by
  refine WC_start e_rotaref02_is (by simp) ?_
  unfold c_rotaref02_is Cfg.cells
  obtain ⟨k, hk⟩ : ∃ k, c.ports.length = k := ⟨_, rfl⟩
  rw [hk]
  clear hk
  by_cases h1 : 0 ≤ n
  · by_cases h2 : n < k
    · repeat (with_reducible first|(first|refine pI1 ?_|refine pS1 ?_);intros|refine pA1 ?_|refine pX1 ?_|refine pB1 ?_|exact True.intro)
      rename_i b1 H1 p1 g1 x1
      repeat (with_reducible first|(first|refine pI1 ?_|refine pS1 ?_);intros|refine pA1 ?_|refine pX1 ?_|refine pB1 ?_|exact True.intro)
      exact ⟨by simp [h1, h2], by omega, fun b hb => x1 b (by omega)⟩
    · repeat (with_reducible first|(first|refine pI1 ?_|refine pS1 ?_);intros|refine pA1 ?_|refine pX1 ?_|refine pB1 ?_|exact True.intro)
      rename_i b1 H1 p1 g1 x1
      repeat (with_reducible first|(first|refine pI1 ?_|refine pS1 ?_);intros|refine pA1 ?_|refine pX1 ?_|refine pB1 ?_|exact True.intro)
      exact ⟨by simp [h2], by omega, fun b hb => x1 b (by omega)⟩
  · repeat (with_reducible first|(first|refine pI1 ?_|refine pS1 ?_);intros|refine pA1 ?_|refine pX1 ?_|refine pB1 ?_|exact True.intro)
    rename_i b1 H1 p1 g1 x1
    repeat (with_reducible first|(first|refine pI1 ?_|refine pS1 ?_);intros|refine pA1 ?_|refine pX1 ?_|refine pB1 ?_|exact True.intro)
    exact ⟨by simp [h1], by omega, fun b hb => x1 b (by omega)⟩
theorem s_rnodes (hc : CfgM N H c h) (hN : N ≤ H.length) (hw : c.owners.length ≤ 10000000) : WC F fn_rotaref02_nodes [.agg (c.cells h)] H fun v H' => v = .c (.bool (dB c.okNodes)) ∧ Xt H H' := by
  refine WC_start e_rotaref02_nodes (by simp) ?_
  unfold c_rotaref02_nodes Cfg.cells
  obtain ⟨n, hn⟩ : ∃ n, c.owners.length = n := ⟨_, rfl⟩
  rw [hn] at hw ⊢
  obtain ⟨nd, hnd⟩ : ∃ nd, c.nodes = nd := ⟨_, rfl⟩
  rw [hnd]
  have ho := hc.owners
  rw [hn] at ho
  have hlt : ∀ b x, h.a1 = some (b, x) → b < H.length := fun b x e => by have := hc.ownersN b x e; omega
  have hok : c.okNodes ↔ (4 ≤ nd ∧ nd ≤ 16 ∧ (n : Int) = nd ∧ ∀ k : Nat, (k : Int) < nd → (k : Int) ∈ c.owners) := by unfold Cfg.okNodes; rw [hnd, hn]
  have fin0 : Hid _ := fun (A : Prop) (h : _ → _ → _ → _ → A) => h ho hn hlt hok
  clear hnd hc hok ho hn hlt
  by_cases h1 : nd < 4
  · have e : dB c.okNodes = false := dB_f fun h => fin0 _ fun _ _ _ hok => by have := (hok.1 h).1; omega
    rw [e]
    repeat (with_reducible first|(first|refine pI1 ?_|refine pS1 ?_);intros|refine pA1 ?_|refine pX1 ?_|refine pB1 ?_|exact True.intro)
    rename_i b1 H1 p1 g1 x1
    repeat (with_reducible first|(first|refine pI1 ?_|refine pS1 ?_);intros|refine pA1 ?_|refine pX1 ?_|refine pB1 ?_|exact True.intro)
    exact ⟨rfl, by omega, fun b hb => x1 b (by omega)⟩
  by_cases h2 : 16 < nd
  · have e : dB c.okNodes = false := dB_f fun h => fin0 _ fun _ _ _ hok => by have := (hok.1 h).2.1; omega
    rw [e]
    repeat (with_reducible first|(first|refine pI1 ?_|refine pS1 ?_);intros|refine pA1 ?_|refine pX1 ?_|refine pB1 ?_|exact True.intro)
    rename_i b1 H1 p1 g1 x1
    repeat (with_reducible first|(first|refine pI1 ?_|refine pS1 ?_);intros|refine pA1 ?_|refine pX1 ?_|refine pB1 ?_|exact True.intro)
    exact ⟨rfl, by omega, fun b hb => x1 b (by omega)⟩
  by_cases h3 : (n : Int) = nd
  case neg =>
    have e : dB c.okNodes = false := dB_f fun h => fin0 _ fun _ _ _ hok => h3 (hok.1 h).2.2.1
    rw [e]
    repeat (with_reducible first|(first|refine pI1 ?_|refine pS1 ?_);intros|refine pA1 ?_|refine pX1 ?_|refine pB1 ?_|exact True.intro)
    rename_i b1 H1 p1 g1 x1
    repeat (with_reducible first|(first|refine pI1 ?_|refine pS1 ?_);intros|refine pA1 ?_|refine pX1 ?_|refine pB1 ?_|exact True.intro)
    exact ⟨rfl, by omega, fun b hb => x1 b (by omega)⟩
  subst h3
  repeat (with_reducible first|(first|refine pI1 ?_|refine pS1 ?_);intros|refine pA1 ?_|refine pX1 ?_|refine pB1 ?_|exact True.intro)
  rename_i b1 H1 p1 g1 x1
  have ho1 : Sl H1 1 h.a1 n (nums c.owners) := fin0 _ fun ho _ hlt _ => ho.keep fun b x e => x1 b (by have := hlt b x e; omega)
  have fx : Hid _ := fun (A : Prop) (h : _ → _ → A) => h x1 ho1
  clear x1 ho1
  repeat (with_reducible first|(first|refine pI1 ?_|refine pS1 ?_);intros|refine pA1 ?_|refine pX1 ?_|refine pB1 ?_|exact True.intro)
  refine W_loop (fun m st => ∃ ρ, ∃ i : Nat, st = ⟨L 31 ρ, [], H1⟩ ∧ m = n - i ∧ i ≤ n ∧ ρ 1 = .c (.ptr (some (b1, 0))) ∧ ρ 3 = .c (.int .i64 (i : Nat)) ∧ ∀ j : Nat, j < i → cn (j : Int) c.owners = 1) n ⟨_, 0, rfl, by omega, by omega, zf, zf, fun j hj => by omega⟩ ?_
  rintro m st ⟨ρ, i, rfl, rfl, hi, e1, e3, hall⟩
  unfold b_rotaref02_nodes_8
  have fa : Hid _ := fun (A : Prop) (h : _ → A) => h hall
  clear hall
  by_cases hin : i < n
  · have hxt : (i : Int) < (n : Int) := by omega
    have hcnt := fx _ fun _ ho1 => fin0 _ fun _ hn _ _ => s_rcount (c := h.c1) (o := false) (x := (i : Nat)) hw hn ho1
    have hyes : cn (i : Int) c.owners = 1 → ∀ j : Nat, j < i + 1 → cn (j : Int) c.owners = 1 := fun h1 j hj => by
      by_cases e : j = i
      · subst e; exact h1
      · exact fa _ fun hall => hall j (by omega)
    have hno : cn (i : Int) c.owners ≠ 1 → dB c.okNodes = false := fun hne => dB_f fun h => fin0 _ fun _ hn _ hok => by
      obtain ⟨q1, q2, q3, q4⟩ := hok.1 h
      exact hne (once hn (fun k hk => q4 k (by omega)) i hin)
    have hkb : cn (i : Int) c.owners ≤ n := fin0 _ fun _ hn _ _ => by rw [← hn]; exact List.countP_le_length
    generalize cn (i : Int) c.owners = k at *
    have fy : Hid _ := fun (A : Prop) (h : _ → _ → A) => h hyes hno
    clear hyes hno
    repeat (with_reducible first|(first|refine pI1 ?_|refine pS1 ?_);intros|refine pA1 ?_|refine pX1 ?_|refine pB1 ?_|exact True.intro)
    refine outM_call hcnt ?_
    rintro _ H1 ⟨rfl, rfl⟩
    clear hcnt
    by_cases hk : k = 1
    · have hk' := fy _ fun hy _ => hy hk
      have fk : Hid _ := fun (A : Prop) (h : _ → A) => h hk'
      clear hk'
      subst hk
      repeat (with_reducible first|(first|refine pI1 ?_|refine pS1 ?_);intros|refine pA1 ?_|refine pX1 ?_|refine pB1 ?_|exact True.intro)
      exact loopQ_n (n - (i + 1)) (by omega) ⟨_, i + 1, rfl, by omega, by omega, zf, zf, fk _ fun h => h⟩
    · have hk' : ¬ (k : Int) = 1 := by omega
      have e := fy _ fun _ hno => hno hk
      rw [e]
      repeat (with_reducible first|(first|refine pI1 ?_|refine pS1 ?_);intros|refine pA1 ?_|refine pX1 ?_|refine pB1 ?_|exact True.intro)
      exact ⟨rfl, by omega, fx _ fun x1 _ b hb => x1 b (by omega)⟩
  · obtain rfl : i = n := by omega
    have hxt : ¬ (i : Int) < (i : Int) := by omega
    have e : dB c.okNodes = true := dB_t (fin0 _ fun _ hn _ hok => hok.2 ⟨by omega, by omega, rfl, fun k hk => cn_pos.1 (by have := fa _ fun hall => hall k (by omega); omega)⟩)
    rw [e]
    repeat (with_reducible first|(first|refine pI1 ?_|refine pS1 ?_);intros|refine pA1 ?_|refine pX1 ?_|refine pB1 ?_|exact True.intro)
    exact ⟨rfl, by omega, fx _ fun x1 _ b hb => x1 b (by omega)⟩
end
end Go.Proofs.Ytbgmbnikpjjmcaa.AM.D07
