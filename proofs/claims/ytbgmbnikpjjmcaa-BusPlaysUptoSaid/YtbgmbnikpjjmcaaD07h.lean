/- What the functions of chapter 7 come to: what may pass. -/
import Derived.Test.YtbgmbnikpjjmcaaD07g
set_option linter.unusedVariables false
set_option linter.unusedSimpArgs false
set_option linter.unusedSectionVars false
namespace Go.Proofs.Ytbgmbnikpjjmcaa.AM.D07
open Go Go.Proofs.Ytbgmbnikpjjmcaa.AM Go.Proofs.Ytbgmbnikpjjmcaa.AM.C02 Go.Proofs.Ytbgmbnikpjjmcaa.AM.C07
set_option maxHeartbeats 2000000
set_option maxRecDepth 100000
attribute [local go_sem] tn_add1 tn_sub1 put_all' nums_len
theorem sub2 (a b : Cell) : sub [a, b] 0 2 = some [a, b] := rfl
attribute [local go_sem] sub2
theorem s_IndexFunc {N p : Nat} {H : Heap} {b8 n c : Nat} {o : Bool} {ow : Int} {a : Option Ad} {l : List Snd} (hb : H[b8]? = some (.cells [.int .i64 ow] false none)) (hn : l.length = n) (hn2 : n ≤ 100000) (ht : Snds N p H a l) (hN : N ≤ H.length) :
    WC F fn_slices_IndexFunc_api_Send_api_Send [.c (.sl a n c o), .c (.fn fn_bus_Bus_pass_1 [] [(b8, 0)])] H fun v H' => ((v = .c (.int .i64 (-1)) ∧ noneP ow l) ∨ ∃ i : Nat, v = .c (.int .i64 (i : Nat)) ∧ fstP ow l i) ∧ Xt H H' := by
  refine WC_start e_slices_IndexFunc_api_Send_api_Send (by simp) ?_
  unfold c_slices_IndexFunc_api_Send_api_Send
  have hlt := lt_of_get hb
  have fin0 : Hid _ := fun (A : Prop) (h : _ → _ → _ → A) => h hn ht hb
  clear hn ht hb
  repeat (with_reducible first|(first|refine pI1 ?_|refine pS1 ?_);intros|refine pA1 ?_|refine pX1 ?_|refine pB1 ?_|exact True.intro)
  refine W_loop (fun m st => ∃ ρ, ∃ i : Nat, ∃ Hk, st = ⟨L 19 ρ, [], Hk⟩ ∧ m = n - i ∧ i ≤ n ∧ ρ 0 = .c (.sl a n c o) ∧ ρ 1 = .c (.fn fn_bus_Bus_pass_1 [] [(b8, 0)]) ∧ ρ 7 = .c (.int .i64 (n : Nat)) ∧ ρ 8 = .c (.int .i64 (i : Nat)) ∧ Xt H Hk ∧ ∀ j, j < i → 0 ≤ ow → (gs l j).node ≠ ow) n ⟨_, 0, H, rfl, rfl, by omega, zf, zf, zf, zf, ⟨Nat.le_refl _, fun _ _ => rfl⟩, fun j hj => by omega⟩ ?_
  rintro m st ⟨ρ, i, Hk, rfl, rfl, hi, e0, e1, e7, e8, ⟨lk, xk⟩, hall⟩
  unfold b_slices_IndexFunc_api_Send_api_Send_7
  have fin1 : Hid _ := fun (A : Prop) (h : _ → _ → A) => h hall xk
  have k8 : Hk[b8]? = _ := (xk b8 (by omega)).trans (fin0 _ fun _ _ hb => hb)
  clear hall xk
  by_cases hin : i < n
  · obtain ⟨lb, y, a', c', o', ea, hlb, -, hld, -⟩ := fin0 _ fun hn ht _ => send_at ht (i := i) (by omega)
    rw [← fin1 _ fun _ xk => xk lb (by omega)] at hld
    rw [ea] at e0
    have fea : Hid _ := fun (A : Prop) (h : _ → A) => h ea
    clear ea
    have hyes : 0 ≤ ow → (gs l i).node = ow → fstP ow l i := fun h1 h2 => ⟨by have := fin0 _ fun hn _ _ => hn; omega, h1, h2, fun j hj => fin1 _ fun hall _ => hall j hj h1⟩
    have hno : ¬ (0 ≤ ow ∧ (gs l i).node = ow) → ∀ j, j < i + 1 → 0 ≤ ow → (gs l j).node ≠ ow := fun h j hj h1 h2 => by
      by_cases e : j = i
      · subst e; exact h ⟨h1, h2⟩
      · exact fin1 _ fun hall _ => hall j (by omega) h1 h2
    generalize (gs l i).node = nd at *
    generalize (gs l i).bytes.length = bn at *
    have fin2 : Hid _ := fun (A : Prop) (h : _ → _ → A) => h hyes hno
    clear hyes hno
    have hp1 := s_pass1 (nd := nd) (x := .sl a' bn c' o') k8
    clear k8
    by_cases hq : 0 ≤ ow ∧ nd = ow
    · rw [decide_eq_true hq] at hp1
      have fq : Hid _ := fun (A : Prop) (h : _ → A) => h hq
      clear hq
      repeat (with_reducible first|(first|refine pI1 ?_|refine pS1 ?_);intros|refine pA1 ?_|refine pX1 ?_|refine pB1 ?_|exact True.intro)
      refine outM_call hp1 ?_
      rintro _ H2 ⟨rfl, l2, x2⟩
      have fx : Hid _ := fun (A : Prop) (h : _ → A) => h x2
      clear x2 hp1
      repeat (with_reducible first|(first|refine pI1 ?_|refine pS1 ?_);intros|refine pA1 ?_|refine pX1 ?_|refine pB1 ?_|exact True.intro)
      exact ⟨.inr ⟨i, rfl, fin2 _ fun hy _ => fq _ fun hq => hy hq.1 hq.2⟩, by omega, fun b hb => by rw [fx _ fun x2 => x2 b (by omega)]; exact fin1 _ fun _ xk => xk b hb⟩
    · rw [decide_eq_false hq] at hp1
      have fq : Hid _ := fun (A : Prop) (h : _ → A) => h hq
      clear hq
      repeat (with_reducible first|(first|refine pI1 ?_|refine pS1 ?_);intros|refine pA1 ?_|refine pX1 ?_|refine pB1 ?_|exact True.intro)
      refine outM_call hp1 ?_
      rintro _ H2 ⟨rfl, l2, x2⟩
      have fx : Hid _ := fun (A : Prop) (h : _ → A) => h x2
      clear x2 hp1
      repeat (with_reducible first|(first|refine pI1 ?_|refine pS1 ?_);intros|refine pA1 ?_|refine pX1 ?_|refine pB1 ?_|exact True.intro)
      refine loopQ_n (n - (i + 1)) (by omega) ⟨_, i + 1, H2, rfl, rfl, by omega, ?_, zf, zf, zf, ⟨by omega, fun b hb => by rw [fx _ fun x2 => x2 b (by omega)]; exact fin1 _ fun _ xk => xk b hb⟩, fin2 _ fun _ hn => fq _ fun hq => hn hq⟩
      rw [fea _ fun h => h]
      exact zf
  · obtain rfl : i = n := by omega
    repeat (with_reducible first|(first|refine pI1 ?_|refine pS1 ?_);intros|refine pA1 ?_|refine pX1 ?_|refine pB1 ?_|exact True.intro)
    exact ⟨.inl ⟨rfl, fun j hj => fin1 _ fun hall _ => hall j (by have := fin0 _ fun hn _ _ => hn; omega)⟩, by omega, fin1 _ fun _ xk => xk⟩
end Go.Proofs.Ytbgmbnikpjjmcaa.AM.D07
