/- Sets of small numbers, plainly: numbers of subsets, ranks. -/
import Derived.Test.YtnepeleepmhdaaaDoorP12e
set_option linter.unusedVariables false
set_option linter.unusedSimpArgs false
set_option linter.unusedSectionVars false

namespace Go.Proofs.YtnepeleepmhdaaaDoor.AM.P12
open Go Go.Proofs.YtnepeleepmhdaaaDoor.AM
/-- Numbers of subsets. -/
def ch : Nat → Nat → Nat
  | _, 0 => 1
  | 0, _ + 1 => 0
  | n + 1, k + 1 => ch n k + ch n (k + 1)
theorem ch_zero (n : Nat) : ch n 0 = 1 := by cases n <;> rfl
theorem ch_gt : ∀ n k, n < k → ch n k = 0
  | 0, 0, h => by omega
  | 0, _ + 1, _ => rfl
  | n + 1, 0, h => by omega
  | n + 1, k + 1, h => by rw [ch, ch_gt n k (by omega), ch_gt n (k + 1) (by omega)]
theorem ch_pos : ∀ n k, k ≤ n → 0 < ch n k
  | _, 0, _ => by rw [ch_zero]; omega
  | 0, _ + 1, h => by omega
  | n + 1, k + 1, h => by rw [ch]; have := ch_pos n k (by omega); omega
theorem ch_mono1 (n k : Nat) : ch n k ≤ ch (n + 1) k := by
  cases k with
  | zero => rw [ch_zero, ch_zero]; exact Nat.le_refl _
  | succ k => rw [ch]; omega
theorem ch_mono {n m : Nat} (k : Nat) (h : n ≤ m) : ch n k ≤ ch m k := by
  obtain ⟨d, rfl⟩ := Nat.le.dest h
  induction d with
  | zero => exact Nat.le_refl _
  | succ d ih => exact Nat.le_trans (ih (by omega)) (ch_mono1 _ _)
/-- Times one more. -/
theorem ch_mul : ∀ n k, k ≤ n → ch n (k + 1) * (k + 1) = ch n k * (n - k)
  | n, 0, _ => by
    rw [ch_zero, Nat.sub_zero, Nat.one_mul, Nat.mul_one]
    induction n with
    | zero => rfl
    | succ n ih => rw [ch, ch_zero, ih (by omega)]; omega
  | 0, k + 1, h => by omega
  | n + 1, k + 1, h => by
    have h1 := ch_mul n k (by omega)
    rw [ch, ch, Nat.add_mul, Nat.add_mul]
    by_cases hk : k + 1 ≤ n
    · have h2 := ch_mul n (k + 1) hk
      rw [h2, Nat.mul_succ (ch n (k + 1)) (k + 1), h1, show n + 1 - (k + 1) = n - k by omega, show n - k = (n - (k + 1)) + 1 by omega]
      generalize n - (k + 1) = d
      rw [Nat.mul_succ, Nat.mul_succ]; omega
    · have e : k = n := by omega
      subst e
      rw [ch_gt k (k + 1) (by omega), ch_gt k (k + 1 + 1) (by omega)]; simp
/-- Rows of the table. -/
def nxt (l : List Nat) : List Nat := 1 :: List.zipWith (· + ·) l (l.tail ++ [0])
def row : Nat → List Nat
  | 0 => 1 :: List.replicate 61 0
  | n + 1 => (nxt (row n)).take 62
theorem row_len : ∀ n, (row n).length = 62
  | 0 => rfl
  | n + 1 => by
    show ((nxt (row n)).take 62).length = 62
    unfold nxt
    rw [List.length_take, List.length_cons, List.length_zipWith, List.length_append, List.length_tail, row_len n]; rfl
theorem row_get : ∀ n k, k < 62 → n < 62 → (row n)[k]? = some (ch n k)
  | 0, 0, _, _ => rfl
  | 0, k + 1, h, _ => by
    show (1 :: List.replicate 61 0)[k + 1]? = _
    rw [List.getElem?_cons_succ, List.getElem?_replicate, if_pos (by omega)]; rfl
  | n + 1, 0, _, _ => by
    show ((nxt (row n)).take 62)[0]? = _
    rw [List.getElem?_take, if_pos (by omega), ch_zero]; rfl
  | n + 1, k + 1, h, hn => by
    show ((nxt (row n)).take 62)[k + 1]? = _
    have h1 := row_get n k (by omega) (by omega)
    have h2 := row_get n (k + 1) h (by omega)
    unfold nxt
    rw [List.getElem?_take, if_pos h, List.getElem?_cons_succ, List.getElem?_zipWith, h1, ch]
    have : ((row n).tail ++ [0])[k]? = some (ch n (k + 1)) := by
      rw [List.getElem?_append_left (by rw [List.length_tail, row_len]; omega), List.getElem?_tail, h2]
    rw [this]
theorem row_le : ∀ n, n < 61 → ∀ x ∈ row n, x ≤ 118264581564861424 := by decide +kernel
theorem ch_le {n : Nat} (k : Nat) (h : n < 61) : ch n k ≤ 118264581564861424 := by
  by_cases hk : k < 62
  · exact row_le n h _ (List.mem_of_getElem? (row_get n k hk (by omega)))
  · rw [ch_gt n k (by omega)]; omega
/-- The rank of a set's members, in order. -/
def rkF (p : Nat × Nat) (i : Nat) : Nat × Nat := (p.1 + ch i (p.2 + 1), p.2 + 1)
def rkL (l : List Nat) : Nat := (l.foldl rkF (0, 0)).1
theorem rkF_len (l : List Nat) : (l.foldl rkF (0, 0)).2 = l.length := by
  refine snoc_ind (P := fun l => (l.foldl rkF (0, 0)).2 = l.length) rfl (fun l i ih => ?_) l
  rw [List.foldl_append, List.length_append, ← ih]; rfl
theorem rkL_snoc (l : List Nat) (i : Nat) : rkL (l ++ [i]) = rkL l + ch i (l.length + 1) := by
  unfold rkL
  rw [List.foldl_append, ← rkF_len l]; rfl
theorem rk_lt : ∀ (s n : Nat), rkL (mk_ s n) < ch n (mk_ s n).length
  | s, 0 => by simp [mk_, rkL, ch]
  | s, n + 1 => by
    have ih := rk_lt s n
    rw [mk_succ]
    split
    · rw [rkL_snoc, List.length_append, List.length_singleton, ch]; omega
    · exact Nat.lt_of_lt_of_le ih (ch_mono1 _ _)
theorem mk_top {s n : Nat} (h : s < 2 ^ n) : ∀ m, n ≤ m → mk_ s m = mk_ s n := by
  intro m hm
  obtain ⟨d, rfl⟩ := Nat.le.dest hm
  clear hm
  induction d with
  | zero => rfl
  | succ d ih =>
    rw [show n + (d + 1) = (n + d) + 1 by omega, mk_succ, if_neg, ih]
    rw [Nat.testBit_lt_two_pow (Nat.lt_of_lt_of_le h (Nat.pow_le_pow_right (by decide) (by omega)))]; simp
/-- Ranks tell how large a set is. -/
theorem rk_below : ∀ (s m d : Nat), rkL (mk_ s (m + d)) < ch m (mk_ s (m + d)).length ↔ s % 2 ^ (m + d) < 2 ^ m
  | s, m, 0 => by
    have := rk_lt s m
    have h2 := Nat.mod_lt s (Nat.two_pow_pos m)
    simp only [Nat.add_zero]; constructor
    · intro; exact h2
    · intro; exact this
  | s, m, d + 1 => by
    have ih := rk_below s m d
    rw [show m + (d + 1) = (m + d) + 1 by omega, mk_succ]
    have hm := Nat.mod_pow_succ (b := 2) (k := m + d) (x := s)
    have hb := bit_div s (m + d)
    have hp : 2 ^ m ≤ 2 ^ (m + d) := Nat.pow_le_pow_right (by decide) (by omega)
    split <;> rename_i h
    · rw [h] at hb
      have h1 : s / 2 ^ (m + d) % 2 = 1 := by simpa using hb.symm
      rw [hm, h1, rkL_snoc, List.length_append, List.length_singleton]
      have := ch_mono ((mk_ s (m + d)).length + 1) (show m ≤ m + d by omega)
      constructor
      · intro; omega
      · intro; omega
    · have h1 : s / 2 ^ (m + d) % 2 = 0 := by
        have : ¬ s / 2 ^ (m + d) % 2 = 1 := by intro e; rw [decide_eq_true e] at hb; exact h hb
        omega
      rw [hm, h1, Nat.mul_zero, Nat.add_zero]; exact ih
/-- The set of so many with a rank, below n. -/
def ur : Nat → Nat → Nat → Nat
  | 0, _, _ => 0
  | n + 1, k, r => if 0 < k ∧ ch n k ≤ r then 2 ^ n ||| ur n (k - 1) (r - ch n k) else ur n k r
theorem ur_lt : ∀ n k r, ur n k r < 2 ^ n
  | 0, _, _ => by simp [ur]
  | n + 1, k, r => by
    unfold ur
    have hp := Nat.pow_succ 2 n
    split
    · exact Nat.or_lt_two_pow (Nat.pow_lt_pow_right (by decide) (by omega)) (Nat.lt_of_lt_of_le (ur_lt n _ _) (by omega))
    · have := ur_lt n k r; omega
theorem ur_rk : ∀ (s n : Nat), ur n (mk_ s n).length (rkL (mk_ s n)) = s % 2 ^ n
  | s, 0 => by simp [ur, Nat.mod_one]
  | s, n + 1 => by
    have ih := ur_rk s n
    have hlt := rk_lt s n
    have hm := Nat.mod_pow_succ (b := 2) (k := n) (x := s)
    have hb := bit_div s n
    rw [mk_succ]
    unfold ur
    split <;> rename_i h
    · rw [h] at hb
      have h1 : s / 2 ^ n % 2 = 1 := by simpa using hb.symm
      rw [List.length_append, List.length_singleton, rkL_snoc, if_pos ⟨by omega, by omega⟩, Nat.add_sub_cancel, Nat.add_sub_cancel, ih, hm, h1]
      have := Nat.two_pow_add_eq_or_of_lt (i := n) (b := s % 2 ^ n) (Nat.mod_lt _ (Nat.two_pow_pos n)) 1
      rw [Nat.mul_one] at this ⊢
      rw [← this]; omega
    · have h1 : s / 2 ^ n % 2 = 0 := by
        have : ¬ s / 2 ^ n % 2 = 1 := by intro e; rw [decide_eq_true e] at hb; exact h hb
        omega
      rw [if_neg (by omega), ih, hm, h1]; simp
end Go.Proofs.YtnepeleepmhdaaaDoor.AM.P12
