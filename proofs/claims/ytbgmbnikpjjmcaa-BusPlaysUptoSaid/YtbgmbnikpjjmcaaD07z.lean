/- What the functions of chapter 7 come to: what was received is written over. -/
import Derived.Test.YtbgmbnikpjjmcaaD07y
import Derived.Test.YtbgmbnikpjjmcaaD07s
set_option linter.unusedVariables false
set_option linter.unusedSimpArgs false
set_option linter.unusedSectionVars false
namespace Go.Proofs.Ytbgmbnikpjjmcaa.AM.D07
open Go Go.Proofs.Ytbgmbnikpjjmcaa.AM Go.Proofs.Ytbgmbnikpjjmcaa.AM.C02 Go.Proofs.Ytbgmbnikpjjmcaa.AM.C07
set_option maxHeartbeats 2000000
set_option maxRecDepth 100000
attribute [local go_sem] tn_add1 tn_sub1 put_all' nums_len sub12 sub3 sub4
def SlotW (H : Heap) (lo bo : Nat) (x : Option Cell) : Prop :=
  x = some nilC ∨ ∃ e n c o g l, x = some (.sl (some (e, 0)) n c o) ∧ lo ≤ e ∧ e ≠ bo ∧ H[e]? = some (.cells (nats .u8 l) false g) ∧ l.length = n ∧ (∀ y ∈ l, y < 256) ∧ n ≤ 100000
theorem Outs.w {H : Heap} {lo bo m : Nat} {f : Nat → Option (List Nat)} (h : Outs H lo bo m f) (hl : ∀ j l, j < m → f j = some l → l.length ≤ 100000) : ∃ cells, H[bo]? = some (.cells cells false none) ∧ cells.length = m ∧ ∀ j, j < m → SlotW H lo bo cells[j]? := by
  obtain ⟨cells, h1, h2, h3⟩ := h
  refine ⟨cells, h1, h2, fun j hj => ?_⟩
  have := h3 j hj
  cases hf : f j with
  | none => rw [hf] at this; exact .inl this
  | some l =>
    rw [hf] at this
    obtain ⟨e, c, o, g, q1, q2, q3, q4, q5⟩ := this
    exact .inr ⟨e, _, c, o, g, l, q1, q2, q3, q4, rfl, q5, hl j l hj hf⟩
theorem SlotW.put {H H' : Heap} {lo bo e : Nat} {x : Option Cell} {g : Option Nat} {l l' : List Nat} (h : SlotW H lo bo x) (he : H[e]? = some (.cells (nats .u8 l) false g)) (hl : l'.length = l.length) (hby : ∀ y ∈ l', y < 256) (he' : H'[e]? = some (.cells (nats .u8 l') false g)) (hx : ∀ b, b ≠ e → H'[b]? = H[b]?) : SlotW H' lo bo x := by
  rcases h with h | ⟨e2, n, c, o, g2, l2, q1, q2, q3, q4, q5, q6, q7⟩
  · exact .inl h
  · by_cases hee : e2 = e
    · subst hee
      rw [he] at q4
      have q4 := Option.some.inj q4
      injection q4 with q4 _ q4'
      have hn : l.length = l2.length := by have := congrArg List.length q4; rwa [nats_len, nats_len] at this
      exact .inr ⟨e2, n, c, o, g, l', q1, q2, q3, he', by omega, hby, q7⟩
    · exact .inr ⟨e2, n, c, o, g2, l2, q1, q2, q3, by rw [hx e2 hee]; exact q4, q5, q6, q7⟩
def KpM (ρ ρ' : Nat → V) : Prop := ρ' 1 = ρ 1 ∧ ρ' 5 = ρ 5 ∧ ρ' 7 = ρ 7 ∧ ρ' 9 = ρ 9
theorem plays_mut {ρ : Nat → V} {H : Heap} {lo bo m c : Nat} {o : Bool} {cells : List Cell} (e15 : ρ 15 = .c (.sl (some (bo, 0)) m c o)) (hm : m ≤ 100000) (g : H[bo]? = some (.cells cells false none)) (hs : ∀ j, j < m → SlotW H lo bo cells[j]?) :
    W F none (.seq (.ops o_rotalaw07_BusPlays_19) (.block 2 (.loop b_rotalaw07_BusPlays_27))) ⟨L 163 ρ, [], H⟩ fun e s => e = .normal ∧ ∃ ρ' H', s = ⟨L 163 ρ', [], H'⟩ ∧ KpM ρ ρ' ∧ H'.length = H.length ∧ ∀ b, b < lo → H'[b]? = H[b]? := by
  obtain ⟨v1, hv1⟩ : ∃ v, ρ 1 = v := ⟨_, rfl⟩
  obtain ⟨v5, hv5⟩ : ∃ v, ρ 5 = v := ⟨_, rfl⟩
  obtain ⟨v7, hv7⟩ : ∃ v, ρ 7 = v := ⟨_, rfl⟩
  obtain ⟨v9, hv9⟩ : ∃ v, ρ 9 = v := ⟨_, rfl⟩
  have hK : ∀ ρ' : Nat → V, ρ' 1 = v1 → ρ' 5 = v5 → ρ' 7 = v7 → ρ' 9 = v9 → KpM ρ ρ' := fun ρ' h1 h5 h7 h9 => ⟨by rw [h1, hv1], by rw [h5, hv5], by rw [h7, hv7], by rw [h9, hv9]⟩
  have fK : Hid _ := fun (A : Prop) (h : _ → _ → A) => h hK hs
  clear hK hs
  repeat (with_reducible first|(first|refine pI1 ?_|refine pS1 ?_);intros|refine pA1 ?_|refine pX1 ?_|refine pB1 ?_|exact True.intro)
  refine W_loop (fun mm st => ∃ ρ, ∃ k : Nat, ∃ Hk, st = ⟨L 163 ρ, [], Hk⟩ ∧ mm = m - k ∧ k ≤ m ∧ ρ 1 = v1 ∧ ρ 5 = v5 ∧ ρ 7 = v7 ∧ ρ 9 = v9 ∧ ρ 15 = .c (.sl (some (bo, 0)) m c o) ∧ ρ 20 = .c (.int .i64 (k : Nat)) ∧ Hk.length = H.length ∧ Hk[bo]? = some (.cells cells false none) ∧ Hid ((∀ b, b < lo → Hk[b]? = H[b]?) ∧ ∀ j, j < m → SlotW Hk lo bo cells[j]?)) m ⟨_, 0, H, rfl, rfl, by omega, zf, zf, zf, zf, zf, zf, rfl, g, fun _ _ => rfl, fK _ fun _ h => h⟩ ?_
  rintro mm st ⟨ρ1, k, Hk, rfl, rfl, hk, e1, e5, e7, e9, e15', e20, lk, gk, hall⟩
  clear hv1 hv5 hv7 hv9 e15 g
  unfold b_rotalaw07_BusPlays_27
  by_cases hkm : k < m
  · have hxt : (k : Int) < (m : Int) := by omega
    have hsl := hall.2 k hkm
    have fh : Hid _ := fun (A : Prop) (h : _ → A) => h hall
    clear hall
    have hexit : ∀ (x : Option Ad) (n c' : Nat) (o' : Bool), cells[k]? = some (.sl x n c' o') → n ≤ 100000 → (0 < n → ∃ e g l, x = some (e, 0) ∧ lo ≤ e ∧ e ≠ bo ∧ Hk[e]? = some (.cells (nats .u8 l) false g) ∧ l.length = n ∧ ∀ y ∈ l, y < 256) → SlotW Hk lo bo cells[k]? := fun _ _ _ _ _ _ _ => hsl
    obtain ⟨x, n, c', o', hck, hn, hx⟩ : ∃ x n c' o', cells[k]? = some (.sl x n c' o') ∧ n ≤ 100000 ∧ (0 < n → ∃ e g l, x = some (e, 0) ∧ lo ≤ e ∧ e ≠ bo ∧ Hk[e]? = some (.cells (nats .u8 l) false g) ∧ l.length = n ∧ ∀ y ∈ l, y < 256) := by
      rcases hsl with h | ⟨e, n, c', o', g, l, q1, q2, q3, q4, q5, q6, q7⟩
      · exact ⟨_, _, _, _, h, by omega, fun h => absurd h (by omega)⟩
      · exact ⟨_, _, _, _, q1, q7, fun _ => ⟨e, g, l, rfl, q2, q3, q4, q5, q6⟩⟩
    have fx : Hid _ := fun (A : Prop) (h : _ → A) => h hx
    clear hx hsl hexit
    repeat (with_reducible first|(first|refine pI1 ?_|refine pS1 ?_);intros|refine pA1 ?_|refine pX1 ?_|refine pB1 ?_|exact True.intro)
    refine W_loop (fun mm st => ∃ ρ, ∃ j : Nat, ∃ Hm, st = ⟨L 163 ρ, [], Hm⟩ ∧ mm = n - j ∧ j ≤ n ∧ ρ 1 = v1 ∧ ρ 5 = v5 ∧ ρ 7 = v7 ∧ ρ 9 = v9 ∧ ρ 15 = .c (.sl (some (bo, 0)) m c o) ∧ ρ 20 = .c (.int .i64 (k : Nat)) ∧ ρ 21 = .c (.int .i64 (j : Nat)) ∧ Hm.length = H.length ∧ Hm[bo]? = some (.cells cells false none) ∧
      Hid ((∀ b, b < lo → Hm[b]? = H[b]?) ∧ (∀ j, j < m → SlotW Hm lo bo cells[j]?) ∧ (0 < n → ∃ e g l, x = some (e, 0) ∧ lo ≤ e ∧ e ≠ bo ∧ Hm[e]? = some (.cells (nats .u8 l) false g) ∧ l.length = n ∧ ∀ y ∈ l, y < 256))) n ⟨_, 0, Hk, rfl, rfl, by omega, zf, zf, zf, zf, zf, zf, zf, lk, gk, fh _ fun h => h.1, fh _ fun h => h.2, fx _ fun h => h⟩ ?_
    clear e1 e5 e7 e9 e15' e20 gk
    rintro mm st ⟨ρ2, j, Hm, rfl, rfl, hj, e1, e5, e7, e9, e15, e20, e21, lm, gm, hall⟩
    unfold b_rotalaw07_BusPlays_25
    by_cases hjn : j < n
    · have hxj : (j : Int) < (n : Int) := by omega
      obtain ⟨e, g, l, ex, hle, heb, hge, hln, hby⟩ := hall.2.2 (by omega)
      have hgx : gx l j < 256 := by
        have : gx l j = l[j]'(by omega) := by simp [gx, show j < l.length by omega]
        rw [this]; exact hby _ (List.getElem_mem _)
      have fa : Hid _ := fun (A : Prop) (h : _ → _ → A) => h hall hby
      clear hall hby
      subst ex
      have hlj : j < l.length := by omega
      have hel := lt_of_get hge
      repeat (with_reducible first|(first|refine pI1 ?_|refine pS1 ?_);intros|refine pA1 ?_|refine pX1 ?_|refine pB1 ?_|exact True.intro)
      rename_i H8 l8 g8 x8
      rw [show (nats .u8 l).set j (.int .u8 ((gx l j + 77) % 256 : Nat)) = nats .u8 (l.set j ((gx l j + 77) % 256)) by simp [nats, List.map_set]] at g8
      have hby' : ∀ y ∈ l.set j ((gx l j + 77) % 256), y < 256 := fun y hy => by
        rcases P3.mem_set hy with rfl | hy
        · omega
        · exact fa _ fun _ h => h y hy
      have gb : H8[bo]? = some (.cells cells false none) := (x8 bo (Ne.symm heb)).trans gm
      have f8 : Hid _ := fun (A : Prop) (h : _ → _ → _ → A) => h g8 x8 hby'
      clear g8 x8 hby'
      repeat (with_reducible first|(first|refine pI1 ?_|refine pS1 ?_);intros|refine pA1 ?_|refine pX1 ?_|refine pB1 ?_|exact True.intro)
      exact loopQ_n (n - (j + 1)) (by omega) ⟨_, j + 1, H8, rfl, rfl, by omega, zf, zf, zf, zf, zf, zf, zf, by omega, gb, f8 _ fun g8 x8 hby' => fa _ fun hall _ => ⟨fun b hb => by rw [x8 b (by omega)]; exact hall.1 b hb, fun q hq => (hall.2.1 q hq).put hge (by simp) hby' g8 x8, fun _ => ⟨e, g, _, rfl, hle, heb, g8, by simp [hln], hby'⟩⟩⟩
    · obtain rfl : j = n := by omega
      have hxj : ¬ (j : Int) < (j : Int) := by omega
      have fa : Hid _ := fun (A : Prop) (h : _ → A) => h hall
      clear hall
      repeat (with_reducible first|(first|refine pI1 ?_|refine pS1 ?_);intros|refine pA1 ?_|refine pX1 ?_|refine pB1 ?_|exact True.intro)
      exact loopQ_n (m - (k + 1)) (by omega) ⟨_, k + 1, Hm, rfl, rfl, by omega, zf, zf, zf, zf, zf, zf, lm, gm, fa _ fun h => ⟨h.1, h.2.1⟩⟩
  · obtain rfl : k = m := by omega
    have hxt : ¬ (k : Int) < (k : Int) := by omega
    have fh : Hid _ := fun (A : Prop) (h : _ → A) => h hall
    clear hall
    repeat (with_reducible first|(first|refine pI1 ?_|refine pS1 ?_);intros|refine pA1 ?_|refine pX1 ?_|refine pB1 ?_|exact True.intro)
    exact ⟨rfl, _, Hk, rfl, fK _ fun hK _ => hK _ zf zf zf zf, lk, fh _ fun h => h.1⟩
end Go.Proofs.Ytbgmbnikpjjmcaa.AM.D07
