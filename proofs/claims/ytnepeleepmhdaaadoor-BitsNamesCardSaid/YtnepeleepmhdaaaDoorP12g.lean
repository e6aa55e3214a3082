/- Sets of small numbers, plainly: the next set of as many. -/
import Derived.Test.YtnepeleepmhdaaaDoorP12f
set_option linter.unusedVariables false
set_option linter.unusedSimpArgs false
set_option linter.unusedSectionVars false

namespace Go.Proofs.YtnepeleepmhdaaaDoor.AM.P12
open Go Go.Proofs.YtnepeleepmhdaaaDoor.AM
/-- A set that is not empty: its lowest run, and the rest. -/
theorem low_run : ∀ (n s : Nat), s ≠ 0 → s < 2 ^ n → ∃ f r h, 0 < r ∧ s = 2 ^ f * (2 ^ r - 1 + 2 ^ (r + 1) * h) ∧ f + r ≤ n
  | 0, s, h, h' => by simp at h'; omega
  | n + 1, s, h, h' => by
    rw [Nat.pow_succ] at h'
    by_cases e : s % 2 = 1
    · by_cases e2 : s / 2 % 2 = 1
      · obtain ⟨f, r, h, h1, h2, h3⟩ := low_run n (s / 2) (by omega) (by omega)
        have hf : f = 0 := by
          rcases Nat.eq_zero_or_pos f with hf | hf
          · exact hf
          · obtain ⟨g, rfl⟩ : ∃ g, f = g + 1 := ⟨f - 1, by omega⟩
            rw [Nat.pow_succ, Nat.mul_comm (2 ^ g) 2, Nat.mul_assoc] at h2; omega
        subst hf
        rw [Nat.pow_zero, Nat.one_mul] at h2
        refine ⟨0, r + 1, h, by omega, ?_, by omega⟩
        have hp := Nat.two_pow_pos r
        rw [Nat.pow_zero, Nat.one_mul, Nat.pow_succ 2 (r + 1), Nat.mul_comm (2 ^ (r + 1)) 2, Nat.mul_assoc, Nat.pow_succ 2 r] at *
        generalize 2 ^ r * 2 * h = q at *
        omega
      · exact ⟨0, 1, s / 2 / 2, by omega, by simp; omega, by omega⟩
    · obtain ⟨f, r, h, h1, h2, h3⟩ := low_run n (s / 2) (by omega) (by omega)
      refine ⟨f + 1, r, h, h1, ?_, by omega⟩
      rw [Nat.pow_succ, Nat.mul_comm (2 ^ f) 2, Nat.mul_assoc, ← h2]; omega
/-- The next one. -/
def nx (f r h : Nat) : Nat := 2 ^ (f + r) * (1 + 2 * h) + (2 ^ (r - 1) - 1)
def lo (f r h : Nat) : Nat := 2 ^ f * (2 ^ r - 1 + 2 ^ (r + 1) * h)
theorem lo_bit (f r h i : Nat) : (lo f r h).testBit i = (decide (f ≤ i ∧ i < f + r) || (decide (f + r < i) && h.testBit (i - (f + r + 1)))) := by
  unfold lo
  have hp := Nat.two_pow_pos r
  rw [Nat.testBit_two_pow_mul, Nat.add_comm, Nat.testBit_two_pow_mul_add _ (b := 2 ^ r - 1) (i := r + 1) (by rw [Nat.pow_succ]; omega), Nat.testBit_two_pow_sub_one]
  by_cases h1 : f ≤ i
  · by_cases h2 : i - f < r + 1
    · rw [if_pos h2]
      by_cases h3 : i - f < r
      · simp [h1, h3]; left; omega
      · simp [h1, h3, show ¬ (f ≤ i ∧ i < f + r) by omega, show ¬ f + r < i by omega]; omega
    · rw [if_neg h2]
      simp [h1, show ¬ (f ≤ i ∧ i < f + r) by omega, show f + r < i by omega, show i - f - (r + 1) = i - (f + r + 1) by omega]
      omega
  · simp [h1, show ¬ (f ≤ i ∧ i < f + r) by omega, show ¬ f + r < i by omega]
theorem nx_bit {f r : Nat} (h i : Nat) (hr : 0 < r) : (nx f r h).testBit i = (decide (i < r - 1) || decide (i = f + r) || (decide (f + r < i) && h.testBit (i - (f + r + 1)))) := by
  unfold nx
  have hlt : 2 ^ (r - 1) - 1 < 2 ^ (f + r) := by
    have := Nat.pow_le_pow_right (n := 2) (by decide) (show r - 1 ≤ f + r by omega)
    have := Nat.two_pow_pos (r - 1)
    omega
  rw [Nat.testBit_two_pow_mul_add _ hlt, Nat.testBit_two_pow_sub_one]
  by_cases h1 : i < f + r
  · rw [if_pos h1]
    simp [show ¬ i = f + r by omega, show ¬ f + r < i by omega]
  · rw [if_neg h1]
    by_cases h2 : i = f + r
    · subst h2
      simp [Nat.testBit_zero]
    · obtain ⟨j, hj⟩ : ∃ j, i - (f + r) = j + 1 := ⟨i - (f + r) - 1, by omega⟩
      rw [hj, Nat.testBit_succ, show (1 + 2 * h) / 2 = h by omega]
      simp [h2, show ¬ i < r - 1 by omega, show f + r < i by omega, show i - (f + r + 1) = j by omega]
/-- Below the lowest run's end. -/
theorem lo_mk (f r h : Nat) : ∀ j, j ≤ r → mk_ (lo f r h) (f + j) = (List.range j).map (f + ·)
  | 0, _ => by
    have : ∀ k, k ≤ f → mk_ (lo f r h) k = [] := by
      intro k
      induction k with
      | zero => intro; rfl
      | succ k ih =>
        intro hk
        rw [mk_succ, lo_bit, if_neg (by simp; omega), ih (by omega)]
    simpa using this f (Nat.le_refl _)
  | j + 1, hj => by
    rw [show f + (j + 1) = (f + j) + 1 by omega, mk_succ, lo_bit, if_pos (by simp; left; omega), lo_mk f r h j (by omega), List.range_succ, List.map_append]; rfl
theorem nx_mk1 {f r : Nat} (h : Nat) (hr : 0 < r) : ∀ j, j ≤ r - 1 → mk_ (nx f r h) j = List.range j
  | 0, _ => rfl
  | j + 1, hj => by
    rw [mk_succ, nx_bit _ _ hr, if_pos (by simp; omega), nx_mk1 h hr j (by omega), List.range_succ]
theorem nx_mk2 {f r : Nat} (h : Nat) (hr : 0 < r) : ∀ d, r - 1 + d ≤ f + r → mk_ (nx f r h) (r - 1 + d) = List.range (r - 1)
  | 0, _ => nx_mk1 h hr _ (Nat.le_refl _)
  | d + 1, hd => by
    rw [show r - 1 + (d + 1) = (r - 1 + d) + 1 by omega, mk_succ, nx_bit _ _ hr, if_neg (by simp; omega), nx_mk2 h hr d (by omega)]
theorem rk_run (f : Nat) : ∀ r, rkL ((List.range r).map (f + ·)) + 1 = ch (f + r) r
  | 0 => by rw [ch_zero]; rfl
  | r + 1 => by
    rw [List.range_succ, List.map_append, List.map_cons, List.map_nil, rkL_snoc, List.length_map, List.length_range, show f + (r + 1) = (f + r) + 1 by omega, ch]
    have := rk_run f r; omega
theorem rk_range : ∀ r, rkL (List.range r) = 0
  | 0 => rfl
  | r + 1 => by rw [List.range_succ, rkL_snoc, rk_range r, List.length_range, ch_gt _ _ (by omega)]
/-- The next set has as many, and the next rank. -/
theorem nx_rank {f r : Nat} (h : Nat) (hr : 0 < r) : ∀ d, (mk_ (nx f r h) (f + r + 1 + d)).length = (mk_ (lo f r h) (f + r + 1 + d)).length ∧ rkL (mk_ (nx f r h) (f + r + 1 + d)) = rkL (mk_ (lo f r h) (f + r + 1 + d)) + 1
  | 0 => by
    have e1 : mk_ (lo f r h) (f + r + 1) = (List.range r).map (f + ·) := by
      rw [mk_succ, lo_bit, if_neg (by simp), lo_mk f r h r (Nat.le_refl _)]
    have e2 : mk_ (nx f r h) (f + r + 1) = List.range (r - 1) ++ [f + r] := by
      have := nx_mk2 (f := f) h hr (f + 1) (by omega)
      rw [show r - 1 + (f + 1) = f + r by omega] at this
      rw [mk_succ, nx_bit _ _ hr, if_pos (by simp), this]
    rw [Nat.add_zero, e1, e2]
    constructor
    · simp; omega
    · rw [rkL_snoc, rk_range, List.length_range, rk_run, show r - 1 + 1 = r by omega]; omega
  | d + 1 => by
    have ih := nx_rank (f := f) h hr d
    have hb : (nx f r h).testBit (f + r + 1 + d) = (lo f r h).testBit (f + r + 1 + d) := by
      rw [nx_bit _ _ hr, lo_bit]
      simp [show ¬ f + r + 1 + d < r - 1 by omega, show ¬ f + r + 1 + d = f + r by omega, show ¬ (f + r + 1 + d < f + r) by omega]
    rw [show f + r + 1 + (d + 1) = (f + r + 1 + d) + 1 by omega, mk_succ, mk_succ, hb]
    split
    · rw [rkL_snoc, rkL_snoc, List.length_append, List.length_append, ih.1, ih.2]
      exact ⟨rfl, by omega⟩
    · exact ih
theorem nx_gt {f r : Nat} (h : Nat) (hr : 0 < r) : lo f r h < nx f r h := by
  unfold lo nx
  have hp := Nat.two_pow_pos r
  have e1 : 2 ^ f * (2 ^ r - 1 + 2 ^ (r + 1) * h) + 2 ^ f = 2 ^ (f + r) * (1 + 2 * h) := by
    rw [← Nat.mul_succ, show (2 ^ r - 1 + 2 ^ (r + 1) * h).succ = 2 ^ r * (1 + 2 * h) by rw [Nat.pow_succ, Nat.mul_assoc, Nat.mul_add, Nat.mul_one]; omega, Nat.pow_add, Nat.mul_assoc]
  have := Nat.two_pow_pos f
  omega
/-- As the program works it out. -/
theorem nx_prog {f r : Nat} (h : Nat) (hr : 0 < r) : lo f r h + 2 ^ f = 2 ^ (f + r) * (1 + 2 * h) ∧ (lo f r h ^^^ (2 ^ (f + r) * (1 + 2 * h))) = 2 ^ f * (2 ^ (r + 1) - 1) ∧ (2 ^ (f + r) * (1 + 2 * h) ||| (2 ^ (r - 1) - 1)) = nx f r h ∧ 2 ^ f * (2 ^ (r + 1) - 1) / 2 ^ f / 4 = 2 ^ (r - 1) - 1 := by
  have hp := Nat.two_pow_pos r
  refine ⟨?_, ?_, ?_, ?_⟩
  · unfold lo
    rw [← Nat.mul_succ, show (2 ^ r - 1 + 2 ^ (r + 1) * h).succ = 2 ^ r * (1 + 2 * h) by rw [Nat.pow_succ, Nat.mul_assoc, Nat.mul_add, Nat.mul_one]; omega, Nat.pow_add, Nat.mul_assoc]
  · apply Nat.eq_of_testBit_eq
    intro i
    have e1 : (2 ^ (f + r) * (1 + 2 * h)).testBit i = (decide (i = f + r) || (decide (f + r < i) && h.testBit (i - (f + r + 1)))) := by
      rw [Nat.testBit_two_pow_mul]
      by_cases h1 : f + r ≤ i
      · by_cases h2 : i = f + r
        · subst h2; simp [Nat.testBit_zero]
        · obtain ⟨j, hj⟩ : ∃ j, i - (f + r) = j + 1 := ⟨i - (f + r) - 1, by omega⟩
          rw [hj, Nat.testBit_succ, show (1 + 2 * h) / 2 = h by omega]
          simp [h1, h2, show f + r < i by omega, show i - (f + r + 1) = j by omega]
      · simp [h1, show ¬ i = f + r by omega, show ¬ f + r < i by omega]
    rw [Nat.testBit_xor, lo_bit, e1, Nat.testBit_two_pow_mul, Nat.testBit_two_pow_sub_one]
    by_cases h1 : f ≤ i
    · by_cases h2 : i < f + r
      · simp [h1, h2, show ¬ i = f + r by omega, show ¬ f + r < i by omega]; omega
      · by_cases h3 : i = f + r
        · subst h3; simp
        · simp [h1, h2, h3, show f + r < i by omega]; omega
    · simp [h1, show ¬ i = f + r by omega, show ¬ f + r < i by omega]
  · unfold nx
    have hlt : 2 ^ (r - 1) - 1 < 2 ^ (f + r) := by
      have := Nat.pow_le_pow_right (n := 2) (by decide) (show r - 1 ≤ f + r by omega)
      have := Nat.two_pow_pos (r - 1)
      omega
    exact (Nat.two_pow_add_eq_or_of_lt hlt _).symm
  · rw [Nat.mul_div_cancel_left _ (Nat.two_pow_pos f)]
    obtain ⟨q, rfl⟩ : ∃ q, r = q + 1 := ⟨r - 1, by omega⟩
    rw [Nat.pow_succ, Nat.pow_succ, Nat.add_sub_cancel]
    have := Nat.two_pow_pos q
    omega
end Go.Proofs.YtnepeleepmhdaaaDoor.AM.P12
