/- What the functions of chapter 7 come to: a configuration of four nodes. -/
import Derived.Test.YtbgmbnikpjjmcaaD07n
set_option linter.unusedVariables false
set_option linter.unusedSimpArgs false
set_option linter.unusedSectionVars false
namespace Go.Proofs.Ytbgmbnikpjjmcaa.AM.D07
open Go Go.Proofs.Ytbgmbnikpjjmcaa.AM Go.Proofs.Ytbgmbnikpjjmcaa.AM.C02 Go.Proofs.Ytbgmbnikpjjmcaa.AM.C07
set_option maxHeartbeats 2000000
set_option maxRecDepth 100000
attribute [local go_sem] tn_add1 tn_sub1 put_all' nums_len sub12
def w4 : List Int := [-1, -1, -1, -1]
def four : Cfg := ⟨4, [0, 1, 2, 3], 1, 1, 20, 20, 1, 4, [], [w4, w4, w4, w4], [], []⟩
theorem four_check : four.check = 0 := by
  refine Cfg.check_ok.2 ⟨⟨by decide, by decide, rfl, fun n hn => ?_⟩, by unfold Cfg.okClock Cfg.prec four; decide, ⟨by decide, fun p hp => (by cases hp), fun i k _ hk => (by cases hk)⟩, ⟨rfl, fun i row hr => ?_⟩, ⟨by decide, fun p hp => (by cases hp)⟩, ⟨by decide, fun l hl => (by cases hl), fun n => ?_, fun i k _ hk => (by cases hk)⟩⟩
  · have : (n : Int) < 4 := hn
    have h4 : n = 0 ∨ n = 1 ∨ n = 2 ∨ n = 3 := by omega
    rcases h4 with rfl | rfl | rfl | rfl <;> decide
  · have hrow : row = w4 := by
      have hm : row ∈ [w4, w4, w4, w4] := List.mem_of_getElem? hr
      simpa using hm
    subst hrow
    refine ⟨rfl, fun p hp => .inl ?_⟩
    simpa [w4] using hp
  · show cn n [] ≤ 1
    simp [cn]
theorem rep6a : List.replicate 6 (Cell.int .i64 0) = [.int .i64 0, .int .i64 0, .int .i64 0, .int .i64 0, .int .i64 0, .int .i64 0] := rfl
theorem rep4a : List.replicate 4 (Cell.int .i64 0) = [.int .i64 0, .int .i64 0, .int .i64 0, .int .i64 0] := rfl
theorem rep4b : List.replicate 4 (Cell.sl none 0 0 false) = [.sl none 0 0 false, .sl none 0 0 false, .sl none 0 0 false, .sl none 0 0 false] := rfl
attribute [local go_sem high] rep6a rep4a rep4b
theorem outM_eq {x y : Option (AN × Heap)} {k : V → Heap → Prop} (e : y = x) (h : outM F x k ⟨⟩) : outM F y k ⟨⟩ := by subst e; exact h
theorem s_Four {H : Heap} : WC F fn_rotalaw07_Four [] H fun v H' => (∃ h : Hd, v = .agg (four.cells h) ∧ CfgM H'.length H' four h) ∧ Xt H H' := by
  refine WC_start e_rotalaw07_Four (by simp) ?_
  unfold c_rotalaw07_Four
  repeat (with_reducible first|(first|refine pI1 ?_|refine pS1 ?_);intros|refine pA1 ?_|refine pX1 ?_|refine pB1 ?_|exact True.intro)
  rename_i b0 H0 p0 g0 x0 b1 H1 p1 g1 x1 b2 H2 p2 g2 x2 b3 H3 p3 g3 x3
  have fx : Hid _ := fun (A : Prop) (h : _ → _ → _ → _ → _ → _ → _ → A) => h g1 x1 g2 x2 g3 x3 x0
  have hg0 : H3[b0]? = _ := ((x3 b0 (by omega)).trans ((x2 b0 (by omega)).trans (x1 b0 (by omega)))).trans g0
  clear g1 x1 g2 x2 g3 x3 x0 g0
  refine WO_m ?_
  obtain ⟨hd, hhd⟩ : ∃ hd : Hd, hd = ⟨some (b2, 0), 4, none, 0, some (b3, 0), 4, none, 0, none, 0⟩ := ⟨_, rfl⟩
  have hv : four.cells hd = _ := rfl
  rw [hhd] at hv
  refine outM_eq (x := some (.v (.agg (four.cells ⟨some (b2, 0), 4, none, 0, some (b3, 0), 4, none, 0, none, 0⟩)), H3)) (by with_unfolding_all rfl) ?_
  rw [← hhd]
  obtain ⟨C, hC⟩ : ∃ C, C = four.cells hd := ⟨_, rfl⟩
  have hl : C.length = 12 := by rw [hC]; rfl
  have hsub : sub C 0 12 = some C := by rw [hC]; rfl
  rw [← hC]
  clear hv
  have fC : Hid _ := fun (A : Prop) (h : _ → _ → A) => h hC hhd
  clear hC hhd
  have hput : put [Cell.int IntKind.i64 0, Cell.sl none 0 0 false, Cell.int IntKind.i64 0, Cell.int IntKind.i64 0, Cell.int IntKind.i64 0, Cell.int IntKind.i64 0, Cell.int IntKind.i64 0, Cell.int IntKind.i64 0, Cell.sl none 0 0 false, Cell.sl none 0 0 false, Cell.sl none 0 0 false, Cell.sl none 0 0 false] 0 C = C := put_all' (by rw [hl]; rfl)
  repeat (with_reducible first|(first|refine pI1 ?_|refine pS1 ?_);intros|refine pA1 ?_|refine pX1 ?_|refine pB1 ?_|exact True.intro)
  rename_i H4 l4 g4 x4
  have z : ∀ b, b < H.length → H4[b]? = H[b]? := fun b hb => fx _ fun g1 x1 g2 x2 g3 x3 x0 => by
    rw [x4 b (by omega), x3 b (by omega), x2 b (by omega), x1 b (by omega), x0 b (by omega)]
  have q1 : H4[b1]? = some (.cells (nums w4) false none) := fx _ fun g1 x1 g2 x2 g3 x3 x0 => by
    rw [x4 b1 (by omega), x3 b1 (by omega), x2 b1 (by omega), g1]; rfl
  have q2 : H4[b2]? = some (.cells (nums [0, 1, 2, 3]) false none) := fx _ fun g1 x1 g2 x2 g3 x3 x0 => by
    rw [x4 b2 (by omega), x3 b2 (by omega), g2]; rfl
  have q3 : H4[b3]? = some (.cells [.sl (some (b1, 0)) 4 4 false, .sl (some (b1, 0)) 4 4 false, .sl (some (b1, 0)) 4 4 false, .sl (some (b1, 0)) 4 4 false] false none) := fx _ fun g1 x1 g2 x2 g3 x3 x0 => by
    rw [x4 b3 (by omega), g3]
  refine ⟨⟨hd, by rw [fC _ fun h _ => h], ?_⟩, by omega, z⟩
  rw [fC _ fun _ h => h]
  have l1 := lt_of_get q1
  have l2 := lt_of_get q2
  have l3 := lt_of_get q3
  have row : RowR H4.length H4 w4 [.sl (some (b1, 0)) 4 4 false] := ⟨some (b1, 0), 4, rfl, Sl.blk q1 rfl, fun b x e => by cases e; exact l1, by unfold w4 i64; simp, by decide, by decide⟩
  refine ⟨Sl.blk q2 rfl, fun b x e => by cases e; exact l2, fun i e h => by simp [four] at h, fun i e h => ?_, fun i e h => by simp [four] at h, fun i e h => by simp [four] at h, by unfold four i64; simp, by unfold four i64; simp, by unfold four i64; simp, by unfold four i64; simp, by unfold four i64; simp, by unfold four i64; simp, by unfold four i64; simp, by unfold four i64; simp⟩
  have h' : [w4, w4, w4, w4][i]? = some e := h
  match i, h' with
  | 0, h' => cases h'; exact ⟨(b3, 0), _, rfl, l3, by rw [q3]; rfl, row⟩
  | 1, h' => cases h'; exact ⟨(b3, 0), _, rfl, l3, by rw [q3]; rfl, row⟩
  | 2, h' => cases h'; exact ⟨(b3, 0), _, rfl, l3, by rw [q3]; rfl, row⟩
  | 3, h' => cases h'; exact ⟨(b3, 0), _, rfl, l3, by rw [q3]; rfl, row⟩
  | k + 4, h' => simp at h'
end Go.Proofs.Ytbgmbnikpjjmcaa.AM.D07
