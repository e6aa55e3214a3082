/- Chapter 7, plain: a burst, bit by bit. -/
import Derived.Test.YtbgmbnikpjjmcaaP07e
set_option linter.unusedVariables false
set_option linter.unusedSimpArgs false
set_option linter.unusedSectionVars false
namespace Go.Proofs.Ytbgmbnikpjjmcaa.AM.C07
open Go Go.Proofs.Ytbgmbnikpjjmcaa.AM Go.Proofs.Ytbgmbnikpjjmcaa.AM.P3
def tv (x : Nat) (h : Nat → Bool) : Nat → Nat
  | 0 => 0
  | j + 1 => tv x h j + if (x / 2 ^ j % 2 == 1) != h j then 2 ^ j else 0
theorem tv_lt (x : Nat) (h : Nat → Bool) : ∀ j, tv x h j < 2 ^ j
  | 0 => by simp [tv]
  | j + 1 => by
    have := tv_lt x h j
    unfold tv
    rw [Nat.pow_succ]
    split <;> omega
theorem xor_pow : ∀ w, w < 256 → ∀ j, j < 8 → (w ^^^ 2 ^ j) % 256 = if w / 2 ^ j % 2 = 1 then w - 2 ^ j else w + 2 ^ j := by decide +kernel
def hb (at_ : Int) (mask p : Nat) : Bool := decide (hit at_ mask p)
def tw (l : List Nat) (at_ : Int) (mask k j : Nat) : Nat := tv (gx l k) (fun i => hb at_ mask (8 * k + i)) j + gx l k / 2 ^ j * 2 ^ j
theorem tw_0 (l : List Nat) (at_ : Int) (mask k : Nat) : tw l at_ mask k 0 = gx l k := by simp [tw, tv]
theorem tw_lt {l : List Nat} {at_ : Int} {mask k j : Nat} (hx : gx l k < 256) (hj : j ≤ 8) : tw l at_ mask k j < 256 := by
  unfold tw
  have h1 := tv_lt (gx l k) (fun i => hb at_ mask (8 * k + i)) j
  generalize gx l k = x at *
  generalize tv x _ j = t at *
  have : j = 0 ∨ j = 1 ∨ j = 2 ∨ j = 3 ∨ j = 4 ∨ j = 5 ∨ j = 6 ∨ j = 7 ∨ j = 8 := by omega
  rcases this with rfl | rfl | rfl | rfl | rfl | rfl | rfl | rfl | rfl <;> simp at h1 ⊢ <;> omega
theorem pow_s (j : Nat) : 2 ^ (j + 1) = 2 * 2 ^ j := by rw [Nat.pow_succ, Nat.mul_comm]
theorem tw_s {l : List Nat} {at_ : Int} {mask k j : Nat} (hx : gx l k < 256) (hj : j < 8) : tw l at_ mask k (j + 1) = if hit at_ mask (8 * k + j) then (tw l at_ mask k j ^^^ 2 ^ j) % 256 else tw l at_ mask k j := by
  have hlt := tw_lt (at_ := at_) (mask := mask) hx (Nat.le_of_lt hj)
  rw [xor_pow _ hlt j hj]
  have h1 := tv_lt (gx l k) (fun i => hb at_ mask (8 * k + i)) j
  have hp : 0 < 2 ^ j := Nat.pow_pos (by decide)
  have hd : tw l at_ mask k j / 2 ^ j = gx l k / 2 ^ j := by
    unfold tw
    rw [Nat.add_mul_div_right _ _ hp, Nat.div_eq_of_lt h1, Nat.zero_add]
  rw [hd]
  have e2 : gx l k / 2 ^ (j + 1) = gx l k / 2 ^ j / 2 := by rw [pow_s, Nat.mul_comm, Nat.div_div_eq_div_mul]
  unfold tw
  rw [tv, e2, pow_s]
  have hhb : hb at_ mask (8 * k + j) = decide (hit at_ mask (8 * k + j)) := rfl
  generalize gx l k / 2 ^ j = q at *
  generalize tv (gx l k) (fun i => hb at_ mask (8 * k + i)) j = t at *
  generalize 2 ^ j = p at *
  have hq : q = 2 * (q / 2) + q % 2 := by omega
  have hm : q / 2 * (2 * p) = 2 * (q / 2) * p := by rw [← Nat.mul_assoc, Nat.mul_comm (q / 2) 2]
  rcases Nat.mod_two_eq_zero_or_one q with h0 | h0
  · have e1 : (q % 2 == 1) = false := by rw [h0]; rfl
    have n1 : ¬ q % 2 = 1 := by omega
    have hqp : q * p = 2 * (q / 2) * p := by conv => lhs; rw [hq, h0, Nat.add_zero]
    by_cases hh : hit at_ mask (8 * k + j)
    · rw [if_pos hh, hhb, decide_eq_true hh, e1, if_neg n1, if_pos (show (false != true) = true from rfl)]; omega
    · rw [if_neg hh, hhb, decide_eq_false hh, e1, if_neg (show ¬ (false != false) = true by decide)]; omega
  · have e1 : (q % 2 == 1) = true := by rw [h0]; rfl
    have hqp : q * p = 2 * (q / 2) * p + p := by conv => lhs; rw [hq, h0, Nat.add_mul, Nat.one_mul]
    by_cases hh : hit at_ mask (8 * k + j)
    · rw [if_pos hh, hhb, decide_eq_true hh, e1, if_pos h0, if_neg (show ¬ (true != true) = true by decide)]; omega
    · rw [if_neg hh, hhb, decide_eq_false hh, e1, if_pos (show (true != false) = true from rfl)]; omega
theorem gx_set {l : List Nat} {i j x : Nat} (hi : i < l.length) : gx (l.set i x) j = if j = i then x else gx l j := by
  unfold gx
  by_cases e : j = i
  · subst e; rw [if_pos rfl]; simp [hi]
  · rw [if_neg e, List.getD_eq_getElem?_getD, List.getElem?_set_ne (Ne.symm e), ← List.getD_eq_getElem?_getD]
theorem R_byte {l : List Nat} {at_ : Int} {mask k : Nat} (hk : k < l.length) (hx : gx l k < 256) : ∀ m, gx (R l at_ mask m) k = tw l at_ mask k (min 8 (m - 8 * k))
  | 0 => by rw [Nat.zero_sub, Nat.min_eq_right (by omega), tw_0]; rfl
  | m + 1 => by
    have ih := R_byte (at_ := at_) (mask := mask) hk hx m
    have hlen := R_len l at_ mask m
    by_cases h1 : m / 8 = k
    · have e1 : min 8 (m - 8 * k) = m - 8 * k := by omega
      have e2 : min 8 (m + 1 - 8 * k) = m - 8 * k + 1 := by omega
      rw [e1] at ih
      rw [e2, tw_s hx (by omega), show 8 * k + (m - 8 * k) = m by omega]
      by_cases hh : hit at_ mask m
      · rw [R_flip hh, if_pos hh]
        unfold fl
        rw [gx_set (by omega), h1, if_pos rfl, ih, show m % 8 = m - 8 * k by omega]
      · rw [R_skip hh, if_neg hh, ih]
    · have e : gx (R l at_ mask (m + 1)) k = gx (R l at_ mask m) k := by
        by_cases hh : hit at_ mask m
        · rw [R_flip hh]
          unfold fl
          by_cases hb : m / 8 < (R l at_ mask m).length
          · rw [gx_set hb, if_neg (by omega)]
          · rw [List.set_eq_of_length_le (by omega)]
        · rw [R_skip hh]
      rw [e, ih]
      congr 1
      omega
theorem corr_byte {l : List Nat} {at_ : Int} {mask k : Nat} (hk : k < l.length) (hx : gx l k < 256) : gx (corr l at_ mask) k = tv (gx l k) (fun i => hb at_ mask (8 * k + i)) 8 := by
  unfold corr
  rw [R_byte hk hx, show min 8 (8 * l.length - 8 * k) = 8 by omega]
  unfold tw
  rw [Nat.div_eq_of_lt (by omega), Nat.zero_mul, Nat.add_zero]
theorem corr_take {l : List Nat} {at_ : Int} {mask k : Nat} (hk : k < l.length) (hx : gx l k < 256) : (corr l at_ mask).take (k + 1) = (corr l at_ mask).take k ++ [tv (gx l k) (fun i => hb at_ mask (8 * k + i)) 8] := by
  have hl : k < (corr l at_ mask).length := by rw [corr_len]; exact hk
  rw [List.take_succ_eq_append_getElem hl, ← corr_byte hk hx]
  congr 2
  simp [gx, hl]
end Go.Proofs.Ytbgmbnikpjjmcaa.AM.C07
