/- What the functions of chapter 7 come to: what passes, copied. -/
import Derived.Test.YtbgmbnikpjjmcaaD07i
set_option linter.unusedVariables false
set_option linter.unusedSimpArgs false
set_option linter.unusedSectionVars false
namespace Go.Proofs.Ytbgmbnikpjjmcaa.AM.D07
open Go Go.Proofs.Ytbgmbnikpjjmcaa.AM Go.Proofs.Ytbgmbnikpjjmcaa.AM.C02 Go.Proofs.Ytbgmbnikpjjmcaa.AM.C07
set_option maxHeartbeats 2000000
set_option maxRecDepth 100000
attribute [local go_sem] tn_add1 tn_sub1 put_all' nums_len
theorem outM_appN {H : Heap} {k : V → Heap → Prop} {b1 : Nat} {b : Option Ad} {j c₂ : Nat} {o₂ : Bool} {ys : List Cell} (ha : H[b1]? = some (.cells [] false none)) (h2 : Sl H 1 b j ys) (hm : j ≤ 100000000)
    (hq : ∀ e c o g H', b1 ≤ e → e < H'.length → H'[e]? = some (.cells ys false g) → H.length ≤ H'.length → (∀ c, c < H.length → H'[c]? = H[c]?) → k (.c (.sl (some (e, 0)) j c o)) H') :
    outM F (appO 1 1 (.c (.sl (some (b1, 0)) 0 0 false)) (.c (.sl b j c₂ o₂)) H) k ⟨⟩ := by
  have hl := h2.len
  rw [Nat.mul_one] at hl
  by_cases h0 : j = 0
  · subst h0
    obtain rfl : ys = [] := List.length_eq_zero_iff.1 hl
    have e : appO 1 1 (.c (.sl (some (b1, 0)) 0 0 false)) (.c (.sl b 0 c₂ o₂)) H = some (.v (.c (.sl (some (b1, 0)) 0 0 false)), H) := by
      simp only [appO, aop]
      cases b with
      | none => simp [appH]
      | some b =>
        have := h2.rd b rfl
        simp only [this, Option.bind_some]
        simp [appH]
    rw [e]
    exact hq b1 0 false none H (Nat.le_refl _) (lt_of_get ha) ha (Nat.le_refl _) fun _ _ => rfl
  · refine outM_appC (Sl.blk ha rfl) h2 (by omega) (by unfold most; omega) ?_
    intro e H' p1 p2 p3
    rw [Nat.zero_add]
    rw [List.nil_append] at p2
    exact hq e _ _ _ H' (by have := lt_of_get ha; omega) (by omega) p2 (by omega) fun c hc => p3 c (by omega)
theorem s_Carry1 {H : Heap} {b n c : Nat} {a : Option Ad} {o : Bool} {xs : List Cell} (hb : H[b]? = some (.cells [.sl a n c o] false none)) (hs : Sl H 1 a n xs) (hn : n ≤ 100000) :
    WC F fn_bus_Bus_Carry_1 [.c (.ptr (some (b, 0)))] H fun v H' => (∃ e c' o' g, v = .c (.sl (some (e, 0)) n c' o') ∧ H.length ≤ e ∧ e < H'.length ∧ H'[e]? = some (.cells xs false g)) ∧ Xt H H' := by
  refine WC_start e_bus_Bus_Carry_1 (by simp) ?_
  unfold c_bus_Bus_Carry_1
  have hlt := lt_of_get hb
  repeat (with_reducible first|(first|refine pI1 ?_|refine pS1 ?_);intros|refine pA1 ?_|refine pX1 ?_|refine pB1 ?_|exact True.intro)
  rename_i b1 H1 p1 g1 x1
  have hb1 : H1[b]? = _ := (x1 b (by omega)).trans hb
  have hs1 : Sl H1 1 a n xs := hs.to fun c hc => x1 c (by omega)
  have hx1 : ∀ b, b < H.length → H1[b]? = H[b]? := fun b hb => x1 b (by omega)
  have fx : Hid _ := fun (A : Prop) (h : _ → _ → A) => h hs1 hx1
  clear hb hs hs1 x1 hx1
  repeat (with_reducible first|(first|refine pI1 ?_|refine pS1 ?_);intros|refine pA1 ?_|refine pX1 ?_|refine pB1 ?_|exact True.intro)
  refine outM_appN g1 (fx _ fun h _ => h) (by omega) ?_
  intro e c' o' g H2 p2 q2 g2 l2 x2
  have fx2 : Hid _ := fun (A : Prop) (h : _ → A) => h x2
  clear x2
  repeat (with_reducible first|(first|refine pI1 ?_|refine pS1 ?_);intros|refine pA1 ?_|refine pX1 ?_|refine pB1 ?_|exact True.intro)
  exact ⟨⟨e, c', o', g, rfl, by omega, by omega, g2⟩, by omega, fun b hb => by rw [fx2 _ fun x2 => x2 b (by omega)]; exact fx _ fun _ x => x b hb⟩
end Go.Proofs.Ytbgmbnikpjjmcaa.AM.D07
