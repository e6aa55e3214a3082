/- Sets of small numbers, plainly: bits in a row, runs. -/
import Derived.Test.YtnepeleepmhdaaaDoorP12c
set_option linter.unusedVariables false
set_option linter.unusedSimpArgs false
set_option linter.unusedSectionVars false

namespace Go.Proofs.YtnepeleepmhdaaaDoor.AM.P12
open Go Go.Proofs.YtnepeleepmhdaaaDoor.AM
/-- The members below a number. -/
def mk_ (x k : Nat) : List Nat := (List.range k).filter fun i => x.testBit i
theorem mk_succ (x k : Nat) : mk_ x (k + 1) = if x.testBit k then mk_ x k ++ [k] else mk_ x k := by
  unfold mk_
  rw [List.range_succ, List.filter_append]
  split <;> rename_i h
  · simp [h]
  · simp [h]
theorem ms_range : ∀ n x i, ms n x i = ((List.range n).filter fun j => x.testBit j).map (· + i)
  | 0, _, _ => rfl
  | n + 1, x, i => by
    unfold ms
    rw [List.range_succ_eq_map, List.filter_cons, List.filter_map, ms_range n]
    have e : ((fun j => x.testBit j) ∘ Nat.succ) = fun j => (x / 2).testBit j := by
      funext j; simp [Function.comp, Nat.testBit_succ]
    rw [e]
    have h0 : x.testBit 0 = decide (x % 2 = 1) := by simp [Nat.testBit_zero]
    rw [h0]
    have em : ∀ l : List Nat, List.map (fun x => x + (i + 1)) l = List.map (fun x => x + i) (List.map Nat.succ l) := fun l => by
      rw [List.map_map]; apply List.map_congr_left; intro a _; simp [Function.comp]; omega
    split <;> rename_i h
    · simp [h, em]
    · simp [h, em]
theorem ms_mk (x : Nat) : ms 64 x 0 = mk_ x 64 := by
  rw [ms_range]; simp [mk_]
theorem cnt_mk (x : Nat) : cnt 64 x = (mk_ x 64).length := by rw [← ms_mk, ms_len]
theorem mk_len (x k : Nat) : (mk_ x k).length ≤ k := by
  have := List.length_filter_le (fun i => x.testBit i) (List.range k)
  simpa [mk_] using this
theorem bit_div (x k : Nat) : x.testBit k = decide (x / 2 ^ k % 2 = 1) := Nat.testBit_eq_decide_div_mod_eq
/-- Bits, as a row of cells: the first of them. -/
def bo (x k : Nat) : List Cell := (List.range 64).map fun i => .bool (decide (i < k) && x.testBit i)
theorem bo_len (x k : Nat) : (bo x k).length = 64 := by simp [bo]
theorem bo_get {x k i : Nat} (h : i < 64) : (bo x k)[i]? = some (.bool (decide (i < k) && x.testBit i)) := by
  unfold bo; rw [List.getElem?_map, List.getElem?_range h]; rfl
theorem bo_get' {x i : Nat} (h : i < 64) : (bo x 64)[i]? = some (.bool (x.testBit i)) := by rw [bo_get h]; simp [h]
theorem bo_zero (x : Nat) : List.replicate 64 (Cell.bool false) = bo x 0 := by simp [bo, List.map_const']
theorem bo_set {x k : Nat} (h : k < 64) : (bo x k).set k (.bool (x.testBit k)) = bo x (k + 1) := by
  apply List.ext_getElem?; intro i
  rw [List.getElem?_set, bo_len]
  by_cases hi : i < 64
  · rw [bo_get hi, bo_get hi]
    by_cases e : k = i
    · subst e; simp [h]
    · rw [if_neg e]; congr 3; simp; omega
  · rw [List.getElem?_eq_none (by rw [bo_len]; omega), List.getElem?_eq_none (by rw [bo_len]; omega)]
    split
    · omega
    · rfl
theorem snoc_ind {α : Type} {P : List α → Prop} (h0 : P []) (hs : ∀ l a, P l → P (l ++ [a])) (l : List α) : P l := by
  have h : ∀ l : List α, P l.reverse := by
    intro l
    induction l with
    | nil => exact h0
    | cons a l ih => rw [List.reverse_cons]; exact hs _ _ ih
  have := h l.reverse
  rwa [List.reverse_reverse] at this
/-! ### Runs -/
/-- A number more, behind the runs so far. -/
def rstep (l : List (Nat × Nat)) (i : Nat) : List (Nat × Nat) :=
  match l.getLast? with
  | some (f, t) => if t = i then l.dropLast ++ [(f, i + 1)] else l ++ [(i, i + 1)]
  | none => [(i, i + 1)]
def rns (l : List Nat) : List (Nat × Nat) := l.foldl rstep []
theorem rns_snoc (l : List Nat) (i : Nat) : rns (l ++ [i]) = rstep (rns l) i := by simp [rns]
theorem rns_last : ∀ (l : List Nat), (rns l).getLast?.map (·.2) = l.getLast?.map (· + 1) := by
  refine snoc_ind rfl fun l i ih => ?_
  · rw [rns_snoc]
    unfold rstep
    cases (rns l).getLast? with
    | none => simp
    | some p => obtain ⟨f, t⟩ := p; simp only; split <;> simp
theorem rstep_ext {l : List (Nat × Nat)} {f i : Nat} : rstep (l ++ [(f, i)]) i = l ++ [(f, i + 1)] := by simp [rstep]
theorem rns_len (l : List Nat) : (rns l).length ≤ l.length := by
  refine snoc_ind (P := fun l => (rns l).length ≤ l.length) (Nat.le_refl _) (fun l i ih => ?_) l
  · rw [rns_snoc, List.length_append]
    unfold rstep
    cases h : (rns l).getLast? with
    | none => simp
    | some p =>
      obtain ⟨f, t⟩ := p
      simp only
      split <;> simp <;> omega
def spC : List (Nat × Nat) → List Cell
  | [] => []
  | p :: l => .int .i64 (p.1 : Nat) :: .int .i64 (p.2 : Nat) :: spC l
theorem spC_len : ∀ l, (spC l).length = l.length * 2
  | [] => rfl
  | p :: l => by simp [spC, spC_len l]; omega
theorem spC_app : ∀ a b, spC (a ++ b) = spC a ++ spC b
  | [], _ => rfl
  | p :: a, b => by simp [spC, spC_app a b]
theorem spC_two (f t : Nat) : [Cell.int .i64 (f : Nat), .int .i64 (t : Nat)] = spC [(f, t)] := rfl
theorem spC_get1 (l : List (Nat × Nat)) (f t : Nat) : (spC (l ++ [(f, t)]))[l.length * 2 + 1]? = some (.int .i64 (t : Nat)) := by
  rw [spC_app, List.getElem?_append_right (by rw [spC_len]; omega), spC_len, Nat.add_sub_cancel_left]; rfl
theorem spC_set1 (l : List (Nat × Nat)) (f t t' : Nat) : (spC (l ++ [(f, t)])).set (l.length * 2 + 1) (.int .i64 (t' : Nat)) = spC (l ++ [(f, t')]) := by
  rw [spC_app, spC_app, List.set_append_right _ _ (by rw [spC_len]; omega), spC_len, Nat.add_sub_cancel_left]; rfl
/-- What is open where the first k have been looked at. -/
theorem rns_open {x k from_ : Nat} {out : List (Nat × Nat)} (h : rns (mk_ x k) = if 0 < k ∧ x.testBit (k - 1) = true ∧ x.testBit k = true then out ++ [(from_, k)] else out) :
    let fr := if x.testBit k = true ∧ ¬ (0 < k ∧ x.testBit (k - 1) = true) then k else from_
    let ot := if x.testBit k = true ∧ ¬ x.testBit (k + 1) = true then out ++ [(fr, k + 1)] else out
    rns (mk_ x (k + 1)) = if 0 < k + 1 ∧ x.testBit (k + 1 - 1) = true ∧ x.testBit (k + 1) = true then ot ++ [(fr, k + 1)] else ot := by
  have hlast : 0 < k → x.testBit (k - 1) = false → ∀ p, (rns (mk_ x k)).getLast? = some p → p.2 ≠ k := by
    intro hk hb p hp e
    have := rns_last (mk_ x k)
    rw [hp] at this
    have h2 : (mk_ x k).getLast? = some (k - 1) := by
      cases hq : (mk_ x k).getLast? with
      | none => rw [hq] at this; cases this
      | some j => rw [hq] at this; simp at this; congr 1; omega
    have := List.mem_of_getLast? h2
    simp [mk_, hb] at this
  simp only [Nat.add_sub_cancel, Nat.zero_lt_succ, true_and]
  rw [mk_succ]
  by_cases hb : x.testBit k = true
  · simp only [hb, if_true, true_and, and_true] at h ⊢
    rw [rns_snoc]
    by_cases hp : 0 < k ∧ x.testBit (k - 1) = true
    · rw [if_pos hp] at h
      rw [h, rstep_ext]
      simp only [hp, not_true_eq_false, if_false, and_self]
      cases x.testBit (k + 1) <;> simp
    · rw [if_neg hp] at h
      have e : rstep (rns (mk_ x k)) k = out ++ [(k, k + 1)] := by
        unfold rstep
        cases hl : (rns (mk_ x k)).getLast? with
        | none =>
          have := List.getLast?_eq_none_iff.1 hl
          rw [← h, this]; rfl
        | some p =>
          obtain ⟨f, t⟩ := p
          have hk0 : 0 < k := by
            rcases Nat.eq_zero_or_pos k with rfl | hk
            · simp [mk_, rns] at hl
            · exact hk
          have := hlast hk0 (by cases hc : x.testBit (k - 1) with
            | true => exact absurd ⟨hk0, hc⟩ hp
            | false => rfl) _ hl
          simp only at this ⊢
          rw [if_neg this, h]
      rw [e]
      simp only [hp, not_false_eq_true, if_true]
      cases x.testBit (k + 1) <;> simp
  · simp only [hb, if_false, false_and, and_false, Bool.false_eq_true] at h ⊢
    exact h
end Go.Proofs.YtnepeleepmhdaaaDoor.AM.P12
