/- What the functions of chapter 7 come to: the chapter's first example. -/
import Derived.Test.YtbgmbnikpjjmcaaD07o
set_option linter.unusedVariables false
set_option linter.unusedSimpArgs false
set_option linter.unusedSectionVars false
namespace Go.Proofs.Ytbgmbnikpjjmcaa.AM.D07
open Go Go.Proofs.Ytbgmbnikpjjmcaa.AM Go.Proofs.Ytbgmbnikpjjmcaa.AM.C02 Go.Proofs.Ytbgmbnikpjjmcaa.AM.C07
set_option maxHeartbeats 2000000
set_option maxRecDepth 100000
attribute [local go_sem] tn_add1 tn_sub1 put_all' nums_len
def ex3 : List Snd := [⟨0, [1]⟩, ⟨1, [2]⟩, ⟨1, [3]⟩]
theorem ex3_fst {i : Nat} (h : fstP (ownF [0, 1, 2, 3] 5) ex3 i) : i = 1 := by
  obtain ⟨h1, -, h3, h4⟩ := h
  have h1 : i < 3 := h1
  have e : i = 0 ∨ i = 1 ∨ i = 2 := by omega
  rcases e with rfl | rfl | rfl
  · exact absurd h3 (by decide)
  · rfl
  · exact absurd (by decide : (gs ex3 1).node = ownF [0, 1, 2, 3] 5) (h4 1 (by omega))
theorem ex3_some : ¬ noneP (ownF [0, 1, 2, 3] 5) ex3 := fun h => h 1 (by decide) (by decide) (by decide)
theorem s_alive {H : Heap} : WC F fn_rotalaw07_alive [] H fun v H' => v = .c (.bool true) ∧ Xt H H' := by
  refine WC_start e_rotalaw07_alive (by simp) ?_
  unfold c_rotalaw07_alive
  repeat (with_reducible first|(first|refine pI1 ?_|refine pS1 ?_);intros|refine pA1 ?_|refine pX1 ?_|refine pB1 ?_|exact True.intro)
  refine outM_call s_Four ?_
  rintro _ H1 ⟨⟨h, rfl, hc⟩, l1, x1⟩
  have hnew := s_New hc (Nat.le_refl _)
  clear hc
  have fx1 : Hid _ := fun (A : Prop) (h : _ → A) => h x1
  clear x1
  generalize four.cells h = C at *
  repeat (with_reducible first|(first|refine pI1 ?_|refine pS1 ?_);intros|refine pA1 ?_|refine pX1 ?_|refine pB1 ?_|exact True.intro)
  refine outM_call hnew ?_
  rintro v H2 ⟨⟨l2, x2⟩, ⟨hne, rfl⟩ | ⟨-, p, e, rfl, p1, p2, p3, p4, hb⟩⟩
  · exact absurd four_check hne
  have fx2 : Hid _ := fun (A : Prop) (h : _ → _ → A) => h x2 hb
  clear hnew x2 hb
  repeat (with_reducible first|(first|refine pI1 ?_|refine pS1 ?_);intros|refine pA1 ?_|refine pX1 ?_|refine pB1 ?_|exact True.intro)
  rename_i b3 H3 p3' g3 x3 b4 H4 p4' g4 x4 b5 H5 p5 g5 x5 b6 H6 p6 g6 x6
  have z2 : ∀ b, b < H2.length → H6[b]? = H2[b]? := fun b hb => by rw [x6 b (by omega), x5 b (by omega), x4 b (by omega), x3 b (by omega)]
  have q3 : H6[b3]? = some (.cells (nats .u8 [1]) false none) := by rw [x6 b3 (by omega), x5 b3 (by omega), x4 b3 (by omega), g3]; rfl
  have q4 : H6[b4]? = some (.cells (nats .u8 [2]) false none) := by rw [x6 b4 (by omega), x5 b4 (by omega), g4]; rfl
  have q5 : H6[b5]? = some (.cells (nats .u8 [3]) false none) := by rw [x6 b5 (by omega), g5]; rfl
  have w3 := lt_of_get q3
  have w4 := lt_of_get q4
  have w5 := lt_of_get q5
  have w6 := lt_of_get g6
  have hsn : Snds H6.length p H6 (some (b6, 0)) ex3 := by
    refine ⟨fun i e h => ?_, fun b x e => by cases e; omega⟩
    have h' : [(⟨0, [1]⟩ : Snd), ⟨1, [2]⟩, ⟨1, [3]⟩][i]? = some e := h
    match i, h' with
    | 0, h' => cases h'; exact ⟨(b6, 0), _, rfl, w6, by rw [g6]; rfl, some (b3, 0), 1, false, rfl, Sl.blk q3 rfl, fun b x e => by cases e; omega, by unfold i64; simp, by simp⟩
    | 1, h' => cases h'; exact ⟨(b6, 0), _, rfl, w6, by rw [g6]; rfl, some (b4, 0), 1, false, rfl, Sl.blk q4 rfl, fun b x e => by cases e; omega, by unfold i64; simp, by simp⟩
    | 2, h' => cases h'; exact ⟨(b6, 0), _, rfl, w6, by rw [g6]; rfl, some (b5, 0), 1, false, rfl, Sl.blk q5 rfl, fun b x e => by cases e; omega, by unfold i64; simp, by simp⟩
    | k + 3, h' => simp at h'
  have hbu : BusM H6 p (some (e, 0)) 4 true [0, 1, 2, 3] 0 0 := fx2 _ fun _ hb => hb.keep fun b hb => z2 b (by
    rcases hb with rfl | ⟨x, e⟩
    · omega
    · cases e; omega)
  have hpa := s_Pass (c2 := 3) (o2 := false) (slot := 5) hbu (by decide) (by unfold i64; omega) hsn (n := 3) rfl (by omega) (fun i hi => by
    have e : i = 0 ∨ i = 1 ∨ i = 2 := by omega
    rcases e with rfl | rfl | rfl <;> decide) (Nat.le_refl _)
  have fz : Hid _ := fun (A : Prop) (h : _ → A) => h z2
  clear z2 q3 q4 q5 hsn hbu g3 x3 g4 x4 g5 x5 g6 x6 w3 w4 w5 w6
  repeat (with_reducible first|(first|refine pI1 ?_|refine pS1 ?_);intros|refine pA1 ?_|refine pX1 ?_|refine pB1 ?_|exact True.intro)
  refine outM_call hpa ?_
  rintro v H7 ⟨⟨is, bs, a', c', o', rfl, hob, ⟨-, -, hno, -⟩ | ⟨rfl, i, hf, rfl, hbm⟩⟩, l7, x7⟩
  · exact absurd hno ex3_some
  obtain rfl := ex3_fst hf
  have e7 : (gs ex3 1).bytes = [2] := rfl
  rw [e7] at hob ⊢
  have hbm : BusM H7 p (some (e, 0)) 4 true [0, 1, 2, 3] 2 1 := hbm
  have hb1 := s_Blocked hbm
  have hb2 := s_Passed hbm
  obtain ⟨b8, e8, p8, q8, g8'⟩ := hob.some (by decide)
  have e8' : Cell.sl a' [2].length c' o' = .sl (some (b8, 0)) 1 1 true := V.c.inj e8
  rw [e8']
  have fx : Hid _ := fun (A : Prop) (h : _ → A) => h x7
  have g8 : H7[b8]? = some (.cells [.int .u8 2] false (some 1)) := g8'
  clear hob hbm hf hpa x7 e8 e8' g8'
  repeat (with_reducible first|(first|refine pI1 ?_|refine pS1 ?_);intros|refine pA1 ?_|refine pX1 ?_|refine pB1 ?_|exact True.intro)
  refine outM_call hb1 ?_
  rintro _ H7 ⟨rfl, rfl⟩
  repeat (with_reducible first|(first|refine pI1 ?_|refine pS1 ?_);intros|refine pA1 ?_|refine pX1 ?_|refine pB1 ?_|exact True.intro)
  refine outM_call hb2 ?_
  rintro _ H7 ⟨rfl, rfl⟩
  repeat (with_reducible first|(first|refine pI1 ?_|refine pS1 ?_);intros|refine pA1 ?_|refine pX1 ?_|refine pB1 ?_|exact True.intro)
  exact ⟨rfl, by omega, fun b hb => by rw [fx _ fun x7 => x7 b (by omega) (by omega), fz _ fun z => z b (by omega), fx2 _ fun x2 _ => x2 b (by omega)]; exact fx1 _ fun x1 => x1 b hb⟩
end Go.Proofs.Ytbgmbnikpjjmcaa.AM.D07
