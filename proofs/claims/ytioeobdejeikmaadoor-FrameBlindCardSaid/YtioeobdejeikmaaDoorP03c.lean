/- Frames, plainly: bursts are found. -/
import Derived.Test.YtioeobdejeikmaaDoorP03
set_option linter.unusedVariables false
set_option linter.unusedSimpArgs false
set_option linter.unusedSectionVars false

namespace Go.Proofs.YtioeobdejeikmaaDoor.AM.P3
open Go Go.Proofs.YtioeobdejeikmaaDoor.AM
/-! ### Steps on numbers of any size -/
def su (n : Nat) : Nat := n / 2 ^^^ sg n
theorem st1_su {n : Nat} (h : n < 4294967296) : st1 n = su n := st1_sg h
theorem su_xor (a b : Nat) : su (a ^^^ b) = su a ^^^ su b := by
  unfold su
  rw [Nat.xor_div_two, sg_xor]
  ac_rfl
theorem ius_xor (a b : Nat) : ∀ k, its su k (a ^^^ b) = its su k a ^^^ its su k b
  | 0 => rfl
  | k + 1 => by
    show su (its su k _) = _
    rw [ius_xor a b k, su_xor]; rfl
theorem su_even (h : Nat) : su (2 * h) = h := by
  unfold su sg
  rw [if_neg (by omega), Nat.xor_zero]; omega
theorem ius_pow (h : Nat) : ∀ k, its su k (2 ^ k * h) = h
  | 0 => by simp [its]
  | k + 1 => by
    rw [show k + 1 = 1 + k by omega, its_add, show its su 1 (2 ^ (1 + k) * h) = 2 ^ k * h from ?_, ius_pow h k]
    show su _ = _
    rw [show 2 ^ (1 + k) * h = 2 * (2 ^ k * h) by rw [Nat.pow_add]; rw [Nat.mul_assoc]]
    exact su_even _
theorem its_su {n : Nat} (h : n < 4294967296) : ∀ k, its st1 k n = its su k n
  | 0 => rfl
  | k + 1 => by
    show st1 _ = su _
    rw [its_su h k, st1_su]
    rw [← its_su h k]; exact its_st1_lt h k
/-- Bytes, as a number: the lowest first. -/
def N : List Nat → Nat
  | [] => 0
  | c :: l => c ^^^ 2 ^ 8 * N l
theorem fold_N : ∀ (l : List Nat) (r : Nat), r < 4294967296 → (∀ x ∈ l, x < 256) → l.foldl rby r = its su (8 * l.length) (r ^^^ N l)
  | [], r, _, _ => by simp [N, its]
  | c :: l, r, hr, hc => by
    have h1 : r ^^^ c < 4294967296 := Nat.xor_lt_two_pow (n := 32) hr (Nat.lt_of_lt_of_le (hc c (by simp)) (by decide))
    have h2 : rby r c = its su 8 (r ^^^ c) := by
      unfold rby
      rw [Nat.mod_eq_of_lt h1, its_su h1]
    have h3 : rby r c < 4294967296 := by
      unfold rby; exact its_st1_lt (Nat.mod_lt _ (by decide)) 8
    rw [List.foldl_cons, fold_N l _ h3 (fun x hx => hc x (by simp [hx])), h2]
    have e : its su 8 (r ^^^ c) ^^^ N l = its su 8 (r ^^^ N (c :: l)) := by
      show _ = its su 8 (r ^^^ (c ^^^ 2 ^ 8 * N l))
      rw [← Nat.xor_assoc, ius_xor (r ^^^ c) (2 ^ 8 * N l), ius_pow]
    rw [e, ← its_add]
    congr 1
    simp; omega
/-- Not 0 stays not 0. -/
theorem st1_ne {n : Nat} (h : n < 4294967296) (h0 : n ≠ 0) : st1 n ≠ 0 := by
  intro e
  rw [st1_sg h] at e
  unfold sg at e
  split at e
  · have h1 : n / 2 = P := by
      have := congrArg (· ^^^ P) e
      simpa [Nat.xor_assoc] using this
    unfold P at h1; omega
  · rw [Nat.xor_zero] at e; omega
theorem its_ne {n : Nat} (h : n < 4294967296) (h0 : n ≠ 0) : ∀ k, its st1 k n ≠ 0
  | 0 => h0
  | k + 1 => st1_ne (its_st1_lt h k) (its_ne h h0 k)
/-- Bits within 32 that follow one another don't come to 0. -/
theorem burst_ne {l : List Nat} (hl : ∀ x ∈ l, x < 256) {p : Nat} (hp : p ≤ 8 * l.length) (hb : ∀ k, (N l).testBit k = true → p ≤ k ∧ k < p + 32) (h0 : N l ≠ 0) : l.foldl rby 0 ≠ 0 := by
  rw [fold_N l 0 (by decide) hl, Nat.zero_xor]
  have e : N l = 2 ^ p * (N l / 2 ^ p) := by
    apply Nat.eq_of_testBit_eq
    intro k
    rw [Nat.testBit_two_pow_mul, Nat.testBit_div_two_pow]
    by_cases hk : p ≤ k
    · simp [hk]
    · have : (N l).testBit k = false := by
        cases hh : (N l).testBit k with
        | false => rfl
        | true => exact absurd (hb k hh).1 hk
      rw [this]; simp [hk]
  have hw : N l / 2 ^ p < 4294967296 := by
    apply Nat.lt_pow_two_of_testBit (n := 32)
    intro k hk
    rw [Nat.testBit_div_two_pow]
    cases hh : (N l).testBit (k + p) with
    | false => rfl
    | true => have := (hb _ hh).2; omega
  have hw0 : N l / 2 ^ p ≠ 0 := fun h => h0 (by rw [e, h, Nat.mul_zero])
  rw [e, show 8 * l.length = p + (8 * l.length - p) by omega, its_add, ius_pow, ← its_su hw]
  exact its_ne hw hw0 _
/-! ### What is turned, as bytes -/
def xl (a b : List Nat) : List Nat := List.zipWith (· ^^^ ·) a b
theorem xl_len {a b : List Nat} (h : a.length = b.length) : (xl a b).length = a.length := by simp [xl, h]
theorem mul_xor (k a b : Nat) : 2 ^ k * (a ^^^ b) = 2 ^ k * a ^^^ 2 ^ k * b := by
  apply Nat.eq_of_testBit_eq
  intro i
  rw [Nat.testBit_xor, Nat.testBit_two_pow_mul, Nat.testBit_two_pow_mul, Nat.testBit_two_pow_mul, Nat.testBit_xor]
  by_cases h : k ≤ i <;> simp [h]
theorem N_xl : ∀ {a b : List Nat}, a.length = b.length → N (xl a b) = N a ^^^ N b
  | [], [], _ => rfl
  | [], _ :: _, h => by simp at h
  | _ :: _, [], h => by simp at h
  | x :: a, y :: b, h => by
    have ih := N_xl (a := a) (b := b) (by simpa using h)
    show (x ^^^ y) ^^^ 2 ^ 8 * N (xl a b) = (x ^^^ 2 ^ 8 * N a) ^^^ (y ^^^ 2 ^ 8 * N b)
    rw [ih, mul_xor]
    ac_rfl
theorem N_set : ∀ (l : List Nat) (i b : Nat), i < l.length → N (l.set i (gx l i ^^^ b)) = N l ^^^ 2 ^ (8 * i) * b
  | [], _, _, h => by simp at h
  | c :: l, 0, b, _ => by
    show (c ^^^ b) ^^^ 2 ^ 8 * N l = (c ^^^ 2 ^ 8 * N l) ^^^ 2 ^ 0 * b
    rw [Nat.pow_zero, Nat.one_mul]; ac_rfl
  | c :: l, i + 1, b, h => by
    have ih := N_set l i b (by simpa using h)
    show c ^^^ 2 ^ 8 * N (l.set i (gx l i ^^^ b)) = (c ^^^ 2 ^ 8 * N l) ^^^ 2 ^ (8 * (i + 1)) * b
    rw [ih, mul_xor, ← Nat.xor_assoc, ← Nat.mul_assoc, ← Nat.pow_add, show 8 + 8 * i = 8 * (i + 1) by omega]
theorem N_zero : ∀ n, N (List.replicate n 0) = 0
  | 0 => rfl
  | n + 1 => by
    show 0 ^^^ 2 ^ 8 * N (List.replicate n 0) = 0
    rw [N_zero n]; rfl
theorem N_inj : ∀ {a : List Nat}, (∀ x ∈ a, x < 256) → N a = 0 → a = List.replicate a.length 0
  | [], _, _ => rfl
  | c :: l, h, e => by
    have hc := h c (by simp)
    have h1 : c = 2 ^ 8 * N l := by
      have := congrArg (· ^^^ 2 ^ 8 * N l) (show c ^^^ 2 ^ 8 * N l = 0 from e)
      simpa [Nat.xor_assoc] using this
    have h2 : N l = 0 := by omega
    have h3 : c = 0 := by rw [h1, h2]
    have ih := N_inj (fun x hx => h x (by simp [hx])) h2
    rw [h3]
    show 0 :: l = 0 :: List.replicate l.length 0
    rw [← ih]
theorem bit_lt (k : Nat) : 2 ^ (k % 8) < 256 := by
  have : ∀ j, j < 8 → 2 ^ j < 256 := by decide
  exact this _ (Nat.mod_lt _ (by decide))
theorem fl_eq {l : List Nat} (h : ∀ i, gx l i < 256) (k : Nat) : fl k l = l.set (k / 8) (gx l (k / 8) ^^^ 2 ^ (k % 8)) := by
  unfold fl
  rw [Nat.mod_eq_of_lt (Nat.xor_lt_two_pow (n := 8) (h _) (bit_lt k))]
theorem N_fl {l : List Nat} (h : ∀ x ∈ l, x < 256) {k : Nat} (hk : k < 8 * l.length) : N (fl k l) = N l ^^^ 2 ^ k := by
  rw [fl_eq (lt_gx h), N_set _ _ _ (by omega), ← Nat.pow_add, show 8 * (k / 8) + k % 8 = k by omega]
/-- What is turned of bytes is what is turned of as many zeroes, on them. -/
def zs (n : Nat) : List Nat := List.replicate n 0
theorem zs_by (n : Nat) : ∀ x ∈ zs n, x < 256 := fun x hx => by
  have := (List.mem_replicate.1 hx).2
  omega
theorem N_R {l : List Nat} (h : ∀ x ∈ l, x < 256) (at_ : Int) (mask : Nat) : ∀ k, k ≤ 8 * l.length → N (R l at_ mask k) = N l ^^^ N (R (zs l.length) at_ mask k)
  | 0, _ => by
    show N l = N l ^^^ N (zs l.length)
    rw [zs, N_zero, Nat.xor_zero]
  | k + 1, hk => by
    have ih := N_R h at_ mask k (by omega)
    unfold R
    split
    · rw [N_fl (R_by h at_ mask k) (by rw [R_len]; omega), N_fl (l := R (zs l.length) at_ mask k) (R_by (zs_by _) at_ mask k) (by rw [R_len]; simp [zs]; omega), ih, Nat.xor_assoc]
    · exact ih
theorem N_eq : ∀ {a b : List Nat}, (∀ x ∈ a, x < 256) → (∀ x ∈ b, x < 256) → a.length = b.length → N a = N b → a = b
  | [], [], _, _, _, _ => rfl
  | [], _ :: _, _, _, h, _ => by simp at h
  | _ :: _, [], _, _, h, _ => by simp at h
  | x :: a, y :: b, ha, hb, h, e => by
    have hx := ha x (by simp); have hy := hb y (by simp)
    have e1 : (x ^^^ 2 ^ 8 * N a) = (y ^^^ 2 ^ 8 * N b) := e
    have m1 : x = y := by
      have := congrArg (· % 2 ^ 8) e1
      simp only [Nat.xor_mod_two_pow, Nat.mul_mod_right, Nat.xor_zero] at this
      omega
    subst m1
    have e2 : 2 ^ 8 * N a = 2 ^ 8 * N b := by
      have := congrArg (x ^^^ ·) e1
      simpa [← Nat.xor_assoc] using this
    rw [N_eq (a := a) (b := b) (fun z hz => ha z (by simp [hz])) (fun z hz => hb z (by simp [hz])) (by simpa using h) (by omega)]
theorem xl_by : ∀ {a b : List Nat}, (∀ x ∈ a, x < 256) → (∀ x ∈ b, x < 256) → ∀ x ∈ xl a b, x < 256
  | [], _, _, _, x, hx => by simp [xl] at hx
  | _ :: _, [], _, _, x, hx => by simp [xl] at hx
  | u :: a, v :: b, ha, hb, x, hx => by
    rcases List.mem_cons.1 (show x ∈ (u ^^^ v) :: xl a b from hx) with rfl | hx
    · exact Nat.xor_lt_two_pow (n := 8) (ha u (by simp)) (hb v (by simp))
    · exact xl_by (fun z hz => ha z (by simp [hz])) (fun z hz => hb z (by simp [hz])) x hx
/-- The pattern of what is turned. -/
def pat (n : Nat) (at_ : Int) (mask : Nat) : List Nat := corr (zs n) at_ mask
theorem pat_len (n : Nat) (at_ : Int) (mask : Nat) : (pat n at_ mask).length = n := by rw [pat, corr_len]; simp [zs]
theorem pat_by (n : Nat) (at_ : Int) (mask : Nat) : ∀ x ∈ pat n at_ mask, x < 256 := corr_by (zs_by n) at_ mask
theorem corr_pat {l : List Nat} (h : ∀ x ∈ l, x < 256) (at_ : Int) (mask : Nat) : corr l at_ mask = xl l (pat l.length at_ mask) := by
  refine N_eq (corr_by h _ _) (xl_by h (pat_by _ _ _)) (by rw [corr_len, xl_len (pat_len _ _ _).symm]) ?_
  rw [N_xl (pat_len _ _ _).symm]
  unfold pat corr
  rw [N_R h at_ mask _ (Nat.le_refl _)]
  simp [zs]
/-- Its bits. -/
theorem pat_bits {n : Nat} {at_ : Int} {mask : Nat} : ∀ k, k ≤ 8 * n → ∀ j, (N (R (zs n) at_ mask k)).testBit j = true → hit at_ mask j ∧ j < k
  | 0, _, j, h => by
    have : N (zs n) = 0 := N_zero n
    rw [show R (zs n) at_ mask 0 = zs n from rfl, this] at h
    simp at h
  | k + 1, hk, j, h => by
    unfold R at h
    split at h
    · rename_i hh
      rw [N_fl (l := R (zs n) at_ mask k) (R_by (zs_by n) at_ mask k) (by rw [R_len]; simp [zs]; omega), Nat.testBit_xor, Nat.testBit_two_pow] at h
      by_cases e : k = j
      · subst e; exact ⟨hh, Nat.lt_succ_self _⟩
      · have := pat_bits (n := n) k (by omega) j (by simpa [e] using h)
        exact ⟨this.1, by omega⟩
    · have := pat_bits (n := n) k (by omega) j h
      exact ⟨this.1, by omega⟩
/-! ### Sums are linear -/
def lin (e : List Nat) : Nat := e.foldl rby 0
theorem rby_lt' (n c : Nat) : rby n c < 4294967296 := its_st1_lt (Nat.mod_lt _ (by decide)) 8
theorem lin_lt (e : List Nat) : lin e < 4294967296 := foldl_lt rby_lt' e (by decide)
theorem fold_xl {a e : List Nat} (h : a.length = e.length) (ha : ∀ x ∈ a, x < 256) (he : ∀ x ∈ e, x < 256) {r : Nat} (hr : r < 4294967296) : (xl a e).foldl rby r = a.foldl rby r ^^^ lin e := by
  unfold lin
  rw [fold_N _ _ hr (xl_by ha he), fold_N _ _ hr ha, fold_N _ _ (by decide) he, xl_len h, N_xl h, Nat.zero_xor, ← h, ← Nat.xor_assoc, ius_xor]
theorem mor_xl {a e : List Nat} (h : a.length = e.length) (ha : ∀ x ∈ a, x < 256) (he : ∀ x ∈ e, x < 256) (n : Nat) : mor n (xl a e) = mor n a ^^^ lin e := by
  have hs : sby = rby := by funext n c; exact (rby_eq n c).symm
  unfold mor
  rw [hs, fold_xl h ha he (inv_lt n)]
  have h1 : a.foldl rby (inv n) < 4294967296 := foldl_lt rby_lt' a (inv_lt n)
  have h2 := lin_lt e
  generalize a.foldl rby (inv n) = x at *
  generalize lin e = y at *
  unfold inv
  have h3 : 4294967295 ^^^ x < 4294967296 := Nat.xor_lt_two_pow (n := 32) (by decide) h1
  rw [Nat.mod_eq_of_lt h3, Nat.mod_eq_of_lt (Nat.xor_lt_two_pow (n := 32) (by decide) (Nat.xor_lt_two_pow (n := 32) h1 h2)), Nat.xor_assoc]
theorem le4_xor (x y : Nat) : le4 (x ^^^ y) = xl (le4 x) (le4 y) := by
  have h1 := Nat.xor_mod_two_pow (a := x) (b := y) (n := 8)
  have h2 := Nat.xor_mod_two_pow (a := x / 256) (b := y / 256) (n := 8)
  have h3 := Nat.xor_mod_two_pow (a := x / 65536) (b := y / 65536) (n := 8)
  have d1 := Nat.xor_div_two_pow (a := x) (b := y) (n := 8)
  have d2 := Nat.xor_div_two_pow (a := x) (b := y) (n := 16)
  have d3 := Nat.xor_div_two_pow (a := x) (b := y) (n := 24)
  simp only [Nat.reducePow] at h1 h2 h3 d1 d2 d3
  simp only [le4, xl, List.zipWith_cons_cons, List.zipWith_nil_left]
  rw [h1, d1, d2, d3, h2, h3]
theorem xl_left : ∀ {a x y : List Nat}, a.length = x.length → a.length = y.length → xl a x = xl a y → x = y
  | [], [], [], _, _, _ => rfl
  | [], _ :: _, _, h, _, _ => by simp at h
  | [], [], _ :: _, _, h, _ => by simp at h
  | _ :: _, [], _, h, _, _ => by simp at h
  | _ :: _, _ :: _, [], _, h, _ => by simp at h
  | u :: a, v :: x, w :: y, h1, h2, h => by
    have h3 : (u ^^^ v) :: xl a x = (u ^^^ w) :: xl a y := h
    simp only [List.cons.injEq] at h3
    have e : v = w := by
      have := congrArg (u ^^^ ·) h3.1
      simpa [← Nat.xor_assoc] using this
    rw [e, xl_left (by simpa using h1) (by simpa using h2) h3.2]
theorem drop71 {l : List Nat} (h : l.length = 75) : l.drop 71 = [gx l 71, gx l 72, gx l 73, gx l 74] := by
  apply List.ext_getElem?
  intro i
  rw [List.getElem?_drop]
  match i with
  | 0 => simp [gx, List.getD_eq_getElem?_getD, h]
  | 1 => simp [gx, List.getD_eq_getElem?_getD, h]
  | 2 => simp [gx, List.getD_eq_getElem?_getD, h]
  | 3 => simp [gx, List.getD_eq_getElem?_getD, h]
  | i + 4 => rw [List.getElem?_eq_none (by omega)]; rfl
theorem okS_iff {l : List Nat} (h : l.length = 75) (n : Nat) : okS l n ↔ le4 n = l.drop 71 := by
  rw [drop71 h]
  unfold okS le4
  simp only [List.cons.injEq, and_true]
  constructor
  · rintro ⟨a, b, c, d⟩; exact ⟨a.symm, b.symm, c.symm, d.symm⟩
  · rintro ⟨a, b, c, d⟩; exact ⟨a.symm, b.symm, c.symm, d.symm⟩
/-- Of what is whole, with a pattern on it, the sum stands if the pattern's does. -/
theorem okS_xl {l e : List Nat} (hl : l.length = 75) (he : e.length = 75) (hb : ∀ x ∈ l, x < 256) (eb : ∀ x ∈ e, x < 256) {n i j : Nat} (h0 : okS l (mor n ((l.drop i).take j))) :
    okS (xl l e) (mor n (((xl l e).drop i).take j)) ↔ le4 (lin ((e.drop i).take j)) = e.drop 71 := by
  have hx : (xl l e).length = 75 := by rw [xl_len (hl.trans he.symm), hl]
  have e1 : ((xl l e).drop i).take j = xl ((l.drop i).take j) ((e.drop i).take j) := by
    simp only [xl, List.drop_zipWith, List.take_zipWith]
  have e2 : (xl l e).drop 71 = xl (l.drop 71) (e.drop 71) := by simp only [xl, List.drop_zipWith]
  rw [okS_iff hx, e1, e2, mor_xl (by simp [hl, he]) (fun x h => hb x (List.mem_of_mem_drop (List.mem_of_mem_take h))) (fun x h => eb x (List.mem_of_mem_drop (List.mem_of_mem_take h))), le4_xor, (okS_iff hl _).1 h0]
  constructor
  · exact xl_left (by simp [hl, le4]) (by simp [hl, he])
  · intro h; rw [h]
theorem xor_add {c : Nat} (hc : c < 2 ^ 8) (m : Nat) : c ^^^ 2 ^ 8 * m = 2 ^ 8 * m + c := by
  rw [Nat.two_pow_add_eq_or_of_lt hc]
  apply Nat.eq_of_testBit_eq
  intro i
  rw [Nat.testBit_or, Nat.testBit_xor]
  by_cases hi : i < 8
  · have : (2 ^ 8 * m).testBit i = false := by rw [Nat.testBit_two_pow_mul]; simp; omega
    rw [this]; simp
  · have : c.testBit i = false := Nat.testBit_lt_two_pow (Nat.lt_of_lt_of_le hc (Nat.pow_le_pow_right (by decide) (by omega)))
    rw [this]; simp
theorem N_le4 {n : Nat} (hn : n < 4294967296) : N (le4 n) = n := by
  unfold le4
  simp only [N, Nat.mul_zero, Nat.xor_zero]
  rw [xor_add (c := n / 65536 % 256) (by omega), xor_add (c := n / 256 % 256) (by omega), xor_add (c := n % 256) (by omega)]
  omega
/-- A burst is found. -/
theorem burst {l : List Nat} (hl : l.length = 75) (hb : ∀ x ∈ l, x < 256) (h0 : okS l (mor 0 (l.take 71))) {at_ : Int} {mask : Nat} (hne : corr l at_ mask ≠ l) : (dec (corr l at_ mask)).2 ≠ 0 := by
  intro h
  have eb := pat_by 75 at_ mask
  have he := pat_len 75 at_ mask
  have hc : corr l at_ mask = xl l (pat 75 at_ mask) := by rw [corr_pat hb, hl]
  have hbits : ∀ j, (N (pat 75 at_ mask)).testBit j = true → hit at_ mask j ∧ j < 600 := fun j hj => by
    have := pat_bits (n := 75) (at_ := at_) (mask := mask) 600 (by omega) j (by
      have e : 8 * (zs 75).length = 600 := by simp [zs]
      unfold pat corr at hj
      rw [e] at hj; exact hj)
    exact this
  have hN : N (pat 75 at_ mask) ≠ 0 := fun h => hne (by
    refine N_eq (corr_by hb _ _) hb (corr_len _ _ _) ?_
    rw [hc, N_xl (hl.trans he.symm), h, Nat.xor_zero])
  rw [hc] at h
  generalize pat 75 at_ mask = e at *
  have hx : (xl l e).length = 75 := by rw [xl_len (hl.trans he.symm), hl]
  have hk : okS (xl l e) (mor 0 (((xl l e).drop 0).take 71)) := by
    unfold dec at h
    split at h
    · cases h
    · split at h
      · assumption
      · cases h
  rw [okS_xl hl he hb eb (by simpa using h0)] at hk
  rw [List.drop_zero] at hk
  have hlin : lin e = 0 := by
    have e1 : e = e.take 71 ++ e.drop 71 := (List.take_append_drop 71 e).symm
    have e2 : lin e = (e.drop 71).foldl rby (lin (e.take 71)) := by
      unfold lin
      conv => lhs; rw [e1, List.foldl_append]
    rw [e2, ← hk, fold_N _ _ (lin_lt _) (le4_by _ (lin_lt _)), N_le4 (lin_lt _), Nat.xor_self]
    simpa using ius_pow 0 (8 * (le4 (lin (e.take 71))).length)
  refine burst_ne eb (p := min at_.toNat 600) (by rw [he]; omega) (fun k hk => ?_) hN hlin
  obtain ⟨⟨h1, h2, _⟩, h3⟩ := hbits k hk
  omega
theorem corr_back {l : List Nat} (hb : ∀ x ∈ l, x < 256) (at_ : Int) (mask : Nat) : corr (corr l at_ mask) at_ mask = l := by
  have hc := corr_by hb at_ mask
  refine N_eq (corr_by hc _ _) hb (by rw [corr_len, corr_len]) ?_
  rw [corr_pat hc, corr_len, N_xl (by rw [pat_len, corr_len]), corr_pat hb, N_xl (by rw [pat_len]), Nat.xor_assoc, Nat.xor_self, Nat.xor_zero]
end Go.Proofs.YtioeobdejeikmaaDoor.AM.P3
