/- What the functions of chapter 7 come to: a bus, what may pass. -/
import Derived.Test.YtbgmbnikpjjmcaaD07f
set_option linter.unusedVariables false
set_option linter.unusedSimpArgs false
set_option linter.unusedSectionVars false
namespace Go.Proofs.Ytbgmbnikpjjmcaa.AM.D07
open Go Go.Proofs.Ytbgmbnikpjjmcaa.AM Go.Proofs.Ytbgmbnikpjjmcaa.AM.C02 Go.Proofs.Ytbgmbnikpjjmcaa.AM.C07
set_option maxHeartbeats 2000000
set_option maxRecDepth 100000
attribute [local go_sem] tn_add1 tn_sub1 put_all' nums_len sub12
theorem s_New {N : Nat} {H : Heap} {c : Cfg} {h : Hd} (hc : CfgM N H c h) (hN : N ≤ H.length) : WC F fn_bus_New [.agg (c.cells h)] H fun v H' => Xt H H' ∧
    ((c.check ≠ 0 ∧ v = .tup [.c (.ptr none), .c (.int .i64 c.check)]) ∨ (c.check = 0 ∧ ∃ p e, v = .tup [.c (.ptr (some (p, 0))), .c (.int .i64 0)] ∧ H.length ≤ p ∧ p < H'.length ∧ H.length ≤ e ∧ e < H'.length ∧ BusM H' p (some (e, 0)) c.owners.length true c.owners 0 0)) := by
  refine WC_start e_bus_New (by simp) ?_
  unfold c_bus_New
  have hck := fun (Hx : Heap) (hx : ∀ b, b < N → Hx[b]? = H[b]?) (hl : N ≤ Hx.length) => s_Check (hc.keep (H' := Hx) hx) hl
  have hown := hc.owners
  have hownN := hc.ownersN
  obtain ⟨C, hC⟩ : ∃ C, C = c.cells h := ⟨_, rfl⟩
  have hsub : sub C 0 12 = some C := by rw [hC]; rfl
  have hfld : C[1]? = some (.sl h.a1 c.owners.length h.c1 false) := by rw [hC]; rfl
  rw [← hC] at hck ⊢
  have hok : c.check = 0 → 4 ≤ c.owners.length ∧ c.owners.length ≤ 16 := fun h0 => by
    obtain ⟨q1, q2, q3, _⟩ := (Cfg.check_ok.1 h0).nodes
    omega
  obtain ⟨k, hk⟩ : ∃ k, k = c.check := ⟨_, rfl⟩
  rw [← hk] at hck hok ⊢
  obtain ⟨n, hn⟩ : ∃ n, n = c.owners.length := ⟨_, rfl⟩
  rw [← hn] at hown hfld hok ⊢
  have fin0 : Hid _ := fun (A : Prop) (h : _ → _ → _ → _ → _ → A) => h hck hown hownN hok hn
  clear hck hown hownN hok hn hk hC hc
  repeat (with_reducible first|(first|refine pI1 ?_|refine pS1 ?_);intros|refine pA1 ?_|refine pX1 ?_|refine pB1 ?_|exact True.intro)
  rename_i b1 H1 p1 g1 x1
  have fx : Hid _ := fun (A : Prop) (h : _ → A) => h x1
  clear x1
  repeat (with_reducible first|(first|refine pI1 ?_|refine pS1 ?_);intros|refine pA1 ?_|refine pX1 ?_|refine pB1 ?_|exact True.intro)
  refine outM_call (fin0 _ fun hck _ _ _ _ => hck H1 (fun b hb => fx _ fun x1 => x1 b (by omega)) (by omega)) ?_
  rintro _ H2 ⟨rfl, l2, x2⟩
  have g2 : H2[b1]? = _ := (x2 b1 (by omega)).trans g1
  have fx2 : Hid _ := fun (A : Prop) (h : _ → A) => h x2
  clear x2 g1
  by_cases h0 : k = 0
  case neg =>
    repeat (with_reducible first|(first|refine pI1 ?_|refine pS1 ?_);intros|refine pA1 ?_|refine pX1 ?_|refine pB1 ?_|exact True.intro)
    exact ⟨⟨by omega, fun b hb => by rw [fx2 _ fun x2 => x2 b (by omega)]; exact fx _ fun x1 => x1 b (by omega)⟩, .inl ⟨h0, rfl⟩⟩
  subst h0
  have hs2 : Sl H2 1 h.a1 n (nums c.owners) := fin0 _ fun _ hown hN' _ _ => hown.keep fun b x e => by
    have := hN' b x e
    rw [fx2 _ fun x2 => x2 b (by omega)]; exact fx _ fun x1 => x1 b (by omega)
  have hn4 := fin0 _ fun _ _ _ hok _ => hok rfl
  have hcl := s_CloneI (c := h.c1) (o := false) hs2 (by omega) (by omega)
  clear hs2
  repeat (with_reducible first|(first|refine pI1 ?_|refine pS1 ?_);intros|refine pA1 ?_|refine pX1 ?_|refine pB1 ?_|exact True.intro)
  refine outM_call hcl ?_
  rintro _ H3 ⟨e, rfl, g3, p3, q3, l3, x3⟩
  clear hcl
  have fx3 : Hid _ := fun (A : Prop) (h : _ → _ → A) => h x3 g3
  clear x3 g3
  repeat (with_reducible first|(first|refine pI1 ?_|refine pS1 ?_);intros|refine pA1 ?_|refine pX1 ?_|refine pB1 ?_|exact True.intro)
  rename_i b4 H4 p4 g4 x4
  have fx4 : Hid _ := fun (A : Prop) (h : _ → A) => h x4
  clear x4
  repeat (with_reducible first|(first|refine pI1 ?_|refine pS1 ?_);intros|refine pA1 ?_|refine pX1 ?_|refine pB1 ?_|exact True.intro)
  have hall : ∀ b, b < H.length → H4[b]? = H[b]? := fun b hb => by
    rw [fx4 _ fun x4 => x4 b (by omega), fx3 _ fun x3 _ => x3 b (by omega), fx2 _ fun x2 => x2 b (by omega)]; exact fx _ fun x1 => x1 b (by omega)
  refine ⟨⟨by omega, hall⟩, .inr ⟨rfl, b4, e, rfl, by omega, by omega, by omega, by omega, ?_⟩⟩
  have hn := fin0 _ fun _ _ _ _ hn => hn
  refine ⟨by rw [← hn]; exact g4, ?_, fun b x e' => by cases e'; omega⟩
  refine Sl.blk ((fx4 _ fun x4 => x4 e (by omega)).trans (fx3 _ fun _ g3 => g3)) (by rw [nums_len])
theorem s_pass1 {H : Heap} {b : Nat} {ow nd : Int} {x : Cell} (hb : H[b]? = some (.cells [.int .i64 ow] false none)) :
    WC F fn_bus_Bus_pass_1 [.agg [.int .i64 nd, x], .c (.ptr (some (b, 0)))] H fun v H' => v = .c (.bool (decide (0 ≤ ow ∧ nd = ow))) ∧ Xt H H' := by
  refine WC_start e_bus_Bus_pass_1 (by simp) ?_
  unfold c_bus_Bus_pass_1
  have hlt := lt_of_get hb
  repeat (with_reducible first|(first|refine pI1 ?_|refine pS1 ?_);intros|refine pA1 ?_|refine pX1 ?_|refine pB1 ?_|exact True.intro)
  rename_i b1 H1 p1 g1 x1
  have k1 : H1[b]? = _ := (x1 b (by omega)).trans hb
  have fx : Hid _ := fun (A : Prop) (h : _ → A) => h x1
  clear x1 hb
  by_cases c1 : 0 ≤ ow
  · by_cases c2 : nd = ow
    · subst c2
      repeat (with_reducible first|(first|refine pI1 ?_|refine pS1 ?_);intros|refine pA1 ?_|refine pX1 ?_|refine pB1 ?_|exact True.intro)
      exact ⟨by simp [c1], by omega, fun b hb => fx _ fun x1 => x1 b (by omega)⟩
    · repeat (with_reducible first|(first|refine pI1 ?_|refine pS1 ?_);intros|refine pA1 ?_|refine pX1 ?_|refine pB1 ?_|exact True.intro)
      exact ⟨by simp [c1, c2], by omega, fun b hb => fx _ fun x1 => x1 b (by omega)⟩
  · repeat (with_reducible first|(first|refine pI1 ?_|refine pS1 ?_);intros|refine pA1 ?_|refine pX1 ?_|refine pB1 ?_|exact True.intro)
    exact ⟨by simp [c1], by omega, fun b hb => fx _ fun x1 => x1 b (by omega)⟩
end Go.Proofs.Ytbgmbnikpjjmcaa.AM.D07
