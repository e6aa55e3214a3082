/- Sets of small numbers, plainly: the lowest bit, the members. -/
import Derived.Test.YtnepeleepmhdaaaDoorP12b
set_option linter.unusedVariables false
set_option linter.unusedSimpArgs false
set_option linter.unusedSectionVars false

namespace Go.Proofs.YtnepeleepmhdaaaDoor.AM.P12
theorem and_bit (a b : Nat) : a &&& b = 2 * (a / 2 &&& b / 2) + (if a % 2 = 1 ∧ b % 2 = 1 then 1 else 0) := by
  have h1 := Nat.and_div_two (a := a) (b := b)
  have h2 := Nat.and_mod_two_eq_one (a := a) (b := b)
  split <;> rename_i h
  · have := h2.2 h; omega
  · have : ¬ (a &&& b) % 2 = 1 := fun e => h (h2.1 e)
    omega
/-- The lowest set bit. -/
def tz : Nat → Nat → Nat
  | 0, _ => 0
  | n + 1, x => if x % 2 = 1 then 0 else tz n (x / 2) + 1
theorem tz_lt : ∀ {n x : Nat}, x ≠ 0 → x < 2 ^ n → tz n x < n
  | 0, x, h, h' => by simp at h'; exact absurd h' h
  | n + 1, x, h, h' => by
    unfold tz
    split
    · omega
    · have := tz_lt (n := n) (x := x / 2) (by omega) (by rw [Nat.pow_succ] at h'; omega)
      omega
theorem and_inv {n y : Nat} (h : y < 2 ^ n) : y &&& (2 ^ n - 1 - y) = 0 := by
  apply Nat.eq_of_testBit_eq
  intro i
  rw [Nat.testBit_and, show 2 ^ n - 1 - y = 2 ^ n - (y + 1) by omega, Nat.testBit_two_pow_sub_succ h, Nat.zero_testBit]
  cases y.testBit i <;> simp
theorem and_neg : ∀ {n x : Nat}, x ≠ 0 → x < 2 ^ n → x &&& (2 ^ n - x) = 2 ^ tz n x
  | 0, x, h, h' => by simp at h'; exact absurd h' h
  | n + 1, x, h, h' => by
    have hp := Nat.pow_succ 2 n
    rw [and_bit]
    unfold tz
    by_cases h2 : x % 2 = 1
    · rw [if_pos h2, if_pos ⟨h2, by omega⟩, show (2 ^ (n + 1) - x) / 2 = 2 ^ n - 1 - x / 2 by omega, and_inv (by omega)]
    · rw [if_neg h2, if_neg (by omega), show (2 ^ (n + 1) - x) / 2 = 2 ^ n - x / 2 by omega, and_neg (by omega) (by omega), Nat.pow_succ]
      omega
/-- The members, in order. -/
def ms : Nat → Nat → Nat → List Nat
  | 0, _, _ => []
  | n + 1, x, i => if x % 2 = 1 then i :: ms n (x / 2) (i + 1) else ms n (x / 2) (i + 1)
theorem ms_zero : ∀ n i, ms n 0 i = []
  | 0, _ => rfl
  | n + 1, i => by unfold ms; simp [ms_zero n]
theorem and_pred {x : Nat} (h : x ≠ 0) : x &&& (x - 1) = if x % 2 = 1 then x - 1 else 2 * (x / 2 &&& (x / 2 - 1)) := by
  rw [and_bit x (x - 1)]
  by_cases h2 : x % 2 = 1
  · rw [if_pos h2, if_neg (show ¬ (x % 2 = 1 ∧ (x - 1) % 2 = 1) by omega), show (x - 1) / 2 = x / 2 by omega, Nat.and_self]; omega
  · rw [if_neg h2, if_neg (show ¬ (x % 2 = 1 ∧ (x - 1) % 2 = 1) by omega), show (x - 1) / 2 = x / 2 - 1 by omega]; omega
theorem ms_step : ∀ {n x : Nat} (i : Nat), x ≠ 0 → x < 2 ^ n → ms n x i = (i + tz n x) :: ms n (x &&& (x - 1)) i
  | 0, x, i, h, h' => by simp at h'; exact absurd h' h
  | n + 1, x, i, h, h' => by
    have hp := Nat.pow_succ 2 n
    rw [and_pred h]
    unfold tz
    by_cases h2 : x % 2 = 1
    · simp only [if_pos h2]
      unfold ms
      rw [if_pos h2, if_neg (by omega), show (x - 1) / 2 = x / 2 by omega]
      simp
    · simp only [if_neg h2]
      have ih := ms_step (n := n) (x := x / 2) (i + 1) (by omega) (by omega)
      conv => lhs; unfold ms
      conv => rhs; rhs; unfold ms
      rw [if_neg h2, if_neg (by omega), ih, show 2 * (x / 2 &&& (x / 2 - 1)) / 2 = (x / 2 &&& (x / 2 - 1)) by omega]
      congr 1; omega
theorem ms_len : ∀ (n x i : Nat), (ms n x i).length = cnt n x
  | 0, _, _ => rfl
  | n + 1, x, i => by
    unfold ms cnt
    split <;> rename_i h
    · rw [List.length_cons, ms_len n]; omega
    · rw [ms_len n]; omega
def db : List Int := [0, 1, 56, 2, 57, 49, 28, 3, 61, 58, 42, 50, 38, 29, 17, 4, 62, 47, 59, 36, 45, 43, 51, 22, 53, 39, 33, 30, 24, 18, 12, 5, 63, 55, 48, 27, 60, 41, 37, 16, 46, 35, 44, 21, 52, 32, 23, 11, 54, 26, 40, 15, 34, 20, 31, 10, 25, 14, 19, 9, 13, 8, 7, 6]
def dbN : List Nat := [0, 1, 56, 2, 57, 49, 28, 3, 61, 58, 42, 50, 38, 29, 17, 4, 62, 47, 59, 36, 45, 43, 51, 22, 53, 39, 33, 30, 24, 18, 12, 5, 63, 55, 48, 27, 60, 41, 37, 16, 46, 35, 44, 21, 52, 32, 23, 11, 54, 26, 40, 15, 34, 20, 31, 10, 25, 14, 19, 9, 13, 8, 7, 6]
theorem db_at : ∀ t, t < 64 → 2 ^ t * 285870213051353865 % 18446744073709551616 / 288230376151711744 < 64 ∧ gx dbN (2 ^ t * 285870213051353865 % 18446744073709551616 / 288230376151711744) = t := by decide +kernel
end Go.Proofs.YtnepeleepmhdaaaDoor.AM.P12
