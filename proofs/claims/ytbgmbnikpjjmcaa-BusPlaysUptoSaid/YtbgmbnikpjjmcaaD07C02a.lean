/- What the functions of chapter 2 come to: nodes, clocks, partitions. -/
import Derived.Test.YtbgmbnikpjjmcaaP02
import Derived.Test.YtbgmbnikpjjmcaaIRD07
import Derived.KernelRfl
set_option linter.unusedVariables false
set_option linter.unusedSimpArgs false
set_option linter.unusedSectionVars false
namespace Go.Proofs.Ytbgmbnikpjjmcaa.AM.D07
open Go Go.Proofs.Ytbgmbnikpjjmcaa.AM Go.Proofs.Ytbgmbnikpjjmcaa.AM.C02
set_option maxHeartbeats 2000000
set_option maxRecDepth 100000
attribute [local go_sem] tn_add1 tn_sub1 put_all' nums_len aop_mn aop_mx mnO_int mxO_int
theorem kF : ExtKeep F := ExtKeep.funsX fun f g h => by
  unfold X at h
  split at h
  · cases h; exact fun args H v H' e => loadX_keep e
  split at h
  · cases h; exact fun args H v H' e => addX_keep e
  cases h
theorem s_within {H : Heap} {n lo hi : Int} : WC F fn_config_within [.c (.int .i64 n), .c (.int .i64 lo), .c (.int .i64 hi)] H fun v H' => v = .c (.bool (decide (lo ≤ n ∧ n ≤ hi))) ∧ H' = H := by
  refine WC_start e_config_within (by simp) ?_
  unfold c_config_within
  by_cases h1 : lo ≤ n
  · by_cases h2 : n ≤ hi
    · repeat (with_reducible first|(first|refine pI1 ?_|refine pS1 ?_);intros|refine pA1 ?_|refine pX1 ?_|refine pB1 ?_|exact True.intro)
      exact ⟨by rw [decide_eq_true (by omega)], rfl⟩
    · repeat (with_reducible first|(first|refine pI1 ?_|refine pS1 ?_);intros|refine pA1 ?_|refine pX1 ?_|refine pB1 ?_|exact True.intro)
      exact ⟨by rw [decide_eq_false (by omega)], rfl⟩
  · repeat (with_reducible first|(first|refine pI1 ?_|refine pS1 ?_);intros|refine pA1 ?_|refine pX1 ?_|refine pB1 ?_|exact True.intro)
    exact ⟨by rw [decide_eq_false (by omega)], rfl⟩
theorem s_meet {H : Heap} {a b c d : Int} : WC F fn_config_meet [.c (.int .i64 a), .c (.int .i64 b), .c (.int .i64 c), .c (.int .i64 d)] H fun v H' => v = .c (.bool (dB (Cfg.meets a b c d))) ∧ H' = H := by
  refine WC_start e_config_meet (by simp) ?_
  unfold c_config_meet
  have e1 : (if c > a then c else a) = max a c := by split <;> omega
  have e2 : (if d < b then d else b) = min b d := by split <;> omega
  by_cases h : max a c < min b d
  · have h' : dB (Cfg.meets a b c d) = true := dB_t h
    repeat (with_reducible first|(first|refine pI1 ?_|refine pS1 ?_);intros|refine pA1 ?_|refine pX1 ?_|refine pB1 ?_|exact True.intro)
    exact ⟨by rw [h'], rfl⟩
  · have h' : dB (Cfg.meets a b c d) = false := dB_f h
    repeat (with_reducible first|(first|refine pI1 ?_|refine pS1 ?_);intros|refine pA1 ?_|refine pX1 ?_|refine pB1 ?_|exact True.intro)
    exact ⟨by rw [h'], rfl⟩
theorem s_Index {H : Heap} {n c : Nat} {a : Option Ad} {o : Bool} {ws : List Int} {x : Int} (hn : n ≤ 1000000) (hl : ws.length = n) (hs : Sl H 1 a n (nums ws)) :
    WC F fn_slices_Index_int_int [.c (.sl a n c o), .c (.int .i64 x)] H fun v H' => ((∃ i : Nat, v = .c (.int .i64 (i : Nat)) ∧ i < n ∧ gn ws i = x ∧ ∀ j, j < i → gn ws j ≠ x) ∨ (v = .c (.int .i64 (-1)) ∧ x ∉ ws)) ∧ H' = H := by
  refine WC_start e_slices_Index_int_int (by simp) ?_
  unfold c_slices_Index_int_int
  have fin0 : Hid _ := fun (A : Prop) (h : _ → A) => h hs
  clear hs
  repeat (with_reducible first|(first|refine pI1 ?_|refine pS1 ?_);intros|refine pA1 ?_|refine pX1 ?_|refine pB1 ?_|exact True.intro)
  refine W_loop (fun m st => ∃ ρ i, st = ⟨L 19 ρ, [], H⟩ ∧ m = n - i ∧ i ≤ n ∧ ρ 0 = .c (.sl a n c o) ∧ ρ 1 = .c (.int .i64 x) ∧ ρ 7 = .c (.int .i64 (n : Nat)) ∧ ρ 8 = .c (.int .i64 (i : Nat)) ∧ ∀ j, j < i → gn ws j ≠ x) n ⟨_, 0, rfl, by omega, by omega, zf, zf, zf, zf, fun j hj => by omega⟩ ?_
  rintro m st ⟨ρ, i, rfl, rfl, hi, e0, e1, e7, e8, hno⟩
  unfold b_slices_Index_int_int_7
  have fin1 : Hid _ := fun (A : Prop) (h : _ → A) => h hno
  clear hno
  by_cases hin : i < n
  · refine fin0 _ fun hs => ?_
    obtain ⟨⟨lb, y⟩, rfl⟩ := hs.is_some (by omega)
    have hld := Sl.gn hs hl hin
    dsimp only at hld
    have hxt : (i : Int) < (n : Int) := by omega
    clear hs
    generalize hgv : gn ws i = u at *
    by_cases h1 : x = u
    · have fin2 : Hid _ := fun (A : Prop) (h : _ → A) => h hgv
      clear hgv
      subst h1
      repeat (with_reducible first|(first|refine pI1 ?_|refine pS1 ?_);intros|refine pA1 ?_|refine pX1 ?_|refine pB1 ?_|exact True.intro)
      exact ⟨.inl ⟨i, rfl, hin, fin2 _ fun h => h, fin1 _ fun h => h⟩, rfl⟩
    · have fin2 : Hid _ := fun (A : Prop) (h : _ → A) => h hgv
      clear hgv
      repeat (with_reducible first|(first|refine pI1 ?_|refine pS1 ?_);intros|refine pA1 ?_|refine pX1 ?_|refine pB1 ?_|exact True.intro)
      exact loopQ_n (n - (i + 1)) (by omega) ⟨_, i + 1, rfl, rfl, by omega, zf, zf, zf, zf, fun j hj => by
        by_cases e : j = i
        · subst e; exact fin2 _ fun h => by rw [h]; exact fun e => h1 e.symm
        · exact fin1 _ fun h => h j (by omega)⟩
  · obtain rfl : i = n := by omega
    have hxt : ¬ (i : Int) < (i : Int) := by omega
    clear fin0
    repeat (with_reducible first|(first|refine pI1 ?_|refine pS1 ?_);intros|refine pA1 ?_|refine pX1 ?_|refine pB1 ?_|exact True.intro)
    exact ⟨.inr ⟨rfl, fun hx => by
      obtain ⟨j, hj, e⟩ := gn_of hx
      exact fin1 _ fun h => h j (by omega) e⟩, rfl⟩
theorem s_Contains {H : Heap} {n c : Nat} {a : Option Ad} {o : Bool} {ws : List Int} {x : Int} (hn : n ≤ 1000000) (hl : ws.length = n) (hs : Sl H 1 a n (nums ws)) :
    WC F fn_slices_Contains_int_int [.c (.sl a n c o), .c (.int .i64 x)] H fun v H' => v = .c (.bool (decide (x ∈ ws))) ∧ H' = H := by
  refine WC_start e_slices_Contains_int_int (by simp) ?_
  unfold c_slices_Contains_int_int
  have hI := s_Index (c := c) (o := o) (x := x) hn hl hs
  clear hs
  repeat (with_reducible first|(first|refine pI1 ?_|refine pS1 ?_);intros|refine pA1 ?_|refine pX1 ?_|refine pB1 ?_|exact True.intro)
  refine outM_call hI ?_
  clear hI
  rintro v _ ⟨⟨i, rfl, h1, h2, -⟩ | ⟨rfl, h1⟩, rfl⟩
  · have hm : x ∈ ws := by rw [← h2]; exact gn_mem (by omega)
    clear h2
    repeat (with_reducible first|(first|refine pI1 ?_|refine pS1 ?_);intros|refine pA1 ?_|refine pX1 ?_|refine pB1 ?_|exact True.intro)
    exact ⟨by rw [decide_eq_true hm], rfl⟩
  · repeat (with_reducible first|(first|refine pI1 ?_|refine pS1 ?_);intros|refine pA1 ?_|refine pX1 ?_|refine pB1 ?_|exact True.intro)
    exact ⟨by rw [decide_eq_false h1], rfl⟩
theorem s_cnodes {N : Nat} {H : Heap} {c : Cfg} {h : Hd} (hc : CfgM N H c h) (hN : N ≤ H.length) : WC F fn_config_nodes [.agg (c.cells h)] H fun v H' => v = .c (.bool (dB c.okNodes)) ∧ Xt H H' := by
  unfold Cfg.cells
  refine WC_start e_config_nodes (by simp) ?_
  unfold c_config_nodes
  have ho := hc.owners
  obtain ⟨n, hn⟩ : ∃ n, n = c.owners.length := ⟨_, rfl⟩
  rw [← hn] at ho ⊢
  have hlt : ∀ b x, h.a1 = some (b, x) → b < H.length := fun b x e => by have := hc.ownersN b x e; omega
  have hnodes : c.nodes = c.nodes := rfl
  generalize hnd : c.nodes = nd at *
  have hok : c.okNodes ↔ (4 ≤ nd ∧ nd ≤ 16 ∧ (n : Int) = nd ∧ ∀ k : Nat, (k : Int) < nd → (k : Int) ∈ c.owners) := by unfold Cfg.okNodes; rw [hnd, hn]
  rw [dB_iff hok]
  clear hok hnodes hnd hc
  generalize c.owners = ws at *
  have fin0 : Hid _ := fun (A : Prop) (h : _ → _ → A) => h ho hn
  clear ho hn
  repeat (with_reducible first|(first|refine pI1 ?_|refine pS1 ?_);intros|refine pA1 ?_|refine pX1 ?_|refine pB1 ?_|exact True.intro)
  rename_i b1 H1 p1 g1 x1
  refine outM_call s_within ?_
  rintro _ H1 ⟨rfl, rfl⟩
  by_cases h1 : 4 ≤ nd ∧ nd ≤ 16
  · by_cases h2 : (n : Int) = nd
    · obtain ⟨h3, h4⟩ := h1
      repeat (with_reducible first|(first|refine pI1 ?_|refine pS1 ?_);intros|refine pA1 ?_|refine pX1 ?_|refine pB1 ?_|exact True.intro)
      refine W_loop (fun m st => ∃ ρ i, st = ⟨L 27 ρ, [], H1⟩ ∧ m = n - i ∧ i ≤ n ∧ ρ 1 = .c (.ptr (some (b1, 0))) ∧ ρ 17 = .c (.int .i64 nd) ∧ ρ 18 = .c (.int .i64 (i : Nat)) ∧ ∀ k : Nat, k < i → (k : Int) ∈ ws) n ⟨_, 0, rfl, by omega, by omega, zf, zf, zf, fun j hj => by omega⟩ ?_
      rintro m st ⟨ρ, i, rfl, rfl, hi, e1, e17, e18, hall⟩
      unfold b_config_nodes_9
      have fin1 : Hid _ := fun (A : Prop) (h : _ → A) => h hall
      clear hall
      by_cases hin : i < n
      · have hxt : (i : Int) < nd := by omega
        have hC := fin0 _ fun ho hn => s_Contains (H := H1) (c := h.c1) (o := false) (x := (i : Nat)) (by omega) hn.symm (ho.keep fun b x e => x1 b (by have := hlt b x e; omega))
        clear hlt
        repeat (with_reducible first|(first|refine pI1 ?_|refine pS1 ?_);intros|refine pA1 ?_|refine pX1 ?_|refine pB1 ?_|exact True.intro)
        refine outM_call hC ?_
        clear hC
        rintro _ H1 ⟨rfl, rfl⟩
        by_cases hm : (i : Int) ∈ ws
        · repeat (with_reducible first|(first|refine pI1 ?_|refine pS1 ?_);intros|refine pA1 ?_|refine pX1 ?_|refine pB1 ?_|exact True.intro)
          exact loopQ_n (n - (i + 1)) (by omega) ⟨_, i + 1, rfl, rfl, by omega, zf, zf, zf, fun j hj => by
            by_cases e : j = i
            · subst e; exact hm
            · exact fin1 _ fun h => h j (by omega)⟩
        · repeat (with_reducible first|(first|refine pI1 ?_|refine pS1 ?_);intros|refine pA1 ?_|refine pX1 ?_|refine pB1 ?_|exact True.intro)
          exact ⟨by rw [dB_f (fun h => hm (h.2.2.2 i hxt))], by omega, fun b hb => x1 b (by omega)⟩
      · have hxt : ¬ (i : Int) < nd := by omega
        clear hlt
        repeat (with_reducible first|(first|refine pI1 ?_|refine pS1 ?_);intros|refine pA1 ?_|refine pX1 ?_|refine pB1 ?_|exact True.intro)
        exact ⟨by rw [dB_t ⟨h3, h4, h2, fun k hk => fin1 _ fun h => h k (by omega)⟩], by omega, fun b hb => x1 b (by omega)⟩
    · obtain ⟨h3, h4⟩ := h1
      clear hlt
      repeat (with_reducible first|(first|refine pI1 ?_|refine pS1 ?_);intros|refine pA1 ?_|refine pX1 ?_|refine pB1 ?_|exact True.intro)
      exact ⟨by rw [dB_f (fun h => h2 h.2.2.1)], by omega, fun b hb => x1 b (by omega)⟩
  · clear hlt
    repeat (with_reducible first|(first|refine pI1 ?_|refine pS1 ?_);intros|refine pA1 ?_|refine pX1 ?_|refine pB1 ?_|exact True.intro)
    exact ⟨by rw [dB_f (fun h => h1 ⟨h.1, h.2.1⟩)], by omega, fun b hb => x1 b (by omega)⟩
end Go.Proofs.Ytbgmbnikpjjmcaa.AM.D07
