/- Sets of small numbers, plainly: how many. -/
import Derived.Test.YtnepeleepmhdaaaDoorA4
set_option linter.unusedVariables false
set_option linter.unusedSimpArgs false
set_option linter.unusedSectionVars false

namespace Go.Proofs.YtnepeleepmhdaaaDoor.AM.P12
open Go Go.Proofs.YtnepeleepmhdaaaDoor.AM
/-- How many of the first bits are set. -/
def cnt : Nat → Nat → Nat
  | 0, _ => 0
  | n + 1, x => x % 2 + cnt n (x / 2)
theorem cnt_add : ∀ (a b x : Nat), cnt (a + b) x = cnt a x + cnt b (x / 2 ^ a)
  | 0, b, x => by simp [cnt]
  | a + 1, b, x => by
    rw [show a + 1 + b = (a + b) + 1 by omega]
    show x % 2 + cnt (a + b) (x / 2) = x % 2 + cnt a (x / 2) + cnt b (x / 2 ^ (a + 1))
    rw [cnt_add a b (x / 2), Nat.div_div_eq_div_mul, Nat.pow_succ, Nat.mul_comm 2]
    omega
theorem cnt_mod : ∀ (a x : Nat), cnt a (x % 2 ^ a) = cnt a x
  | 0, _ => rfl
  | a + 1, x => by
    show x % 2 ^ (a + 1) % 2 + cnt a (x % 2 ^ (a + 1) / 2) = x % 2 + cnt a (x / 2)
    have h1 : x % 2 ^ (a + 1) % 2 = x % 2 := Nat.mod_mod_of_dvd _ ⟨2 ^ a, by rw [Nat.pow_succ, Nat.mul_comm]⟩
    have h2 : x % 2 ^ (a + 1) / 2 = x / 2 % 2 ^ a := by
      rw [Nat.pow_succ, Nat.mul_comm]
      exact Nat.mod_mul_right_div_self x 2 (2 ^ a)
    rw [h1, h2, cnt_mod a]
/-- Bytes as a number. -/
def bN : List Nat → Nat
  | [] => 0
  | c :: l => c + 256 * bN l
theorem and_split {a m : Nat} (ha : a < 256) (hm : m < 256) (b n : Nat) : (a + 256 * b) &&& (m + 256 * n) = (a &&& m) + 256 * (b &&& n) := by
  have h1 : a + 256 * b = 2 ^ 8 * b ||| a := by rw [Nat.add_comm]; exact Nat.two_pow_add_eq_or_of_lt (i := 8) ha b
  have h2 : m + 256 * n = 2 ^ 8 * n ||| m := by rw [Nat.add_comm]; exact Nat.two_pow_add_eq_or_of_lt (i := 8) hm n
  have h3 : (a &&& m) + 256 * (b &&& n) = 2 ^ 8 * (b &&& n) ||| (a &&& m) := by
    rw [Nat.add_comm]; exact Nat.two_pow_add_eq_or_of_lt (i := 8) (Nat.lt_of_le_of_lt Nat.and_le_left ha) _
  rw [h1, h2, h3]
  apply Nat.eq_of_testBit_eq
  intro i
  simp only [Nat.testBit_and, Nat.testBit_or, Nat.testBit_two_pow_mul]
  by_cases hi : i < 8
  · simp [show ¬ 8 ≤ i by omega]
  · have ta : a.testBit i = false := Nat.testBit_lt_two_pow (Nat.lt_of_lt_of_le ha (by exact Nat.pow_le_pow_right (n := 2) (by decide) (show 8 ≤ i by omega)))
    have tm : m.testBit i = false := Nat.testBit_lt_two_pow (Nat.lt_of_lt_of_le hm (by exact Nat.pow_le_pow_right (n := 2) (by decide) (show 8 ≤ i by omega)))
    simp [ta, tm, show 8 ≤ i by omega]
/-- A mask, byte by byte. -/
def mk (m : Nat) : Nat → Nat
  | 0 => 0
  | k + 1 => m + 256 * mk m k
def s1 (b : Nat) : Nat := (b / 2 &&& 85) + (b &&& 85)
def s2 (b : Nat) : Nat := (b / 4 &&& 51) + (b &&& 51)
theorem step1 : ∀ (l : List Nat), (∀ x ∈ l, x < 256) → (bN l / 2 &&& mk 85 l.length) + (bN l &&& mk 85 l.length) = bN (l.map s1)
  | [], _ => rfl
  | c :: l, h => by
    have hc := h c (by simp)
    have ih := step1 l fun x hx => h x (by simp [hx])
    have e1 : bN (c :: l) / 2 = (c / 2 + 128 * (bN l % 2)) + 256 * (bN l / 2) := by show (c + 256 * bN l) / 2 = _; omega
    have d1 : ∀ c, c < 256 → ∀ t, t < 2 → (c / 2 + 128 * t) &&& 85 = c / 2 &&& 85 := by decide +kernel
    show _ = s1 c + 256 * bN (l.map s1)
    rw [← ih, e1, show mk 85 (c :: l).length = 85 + 256 * mk 85 l.length from rfl, and_split (by omega) (by decide), show bN (c :: l) = c + 256 * bN l from rfl, and_split hc (by decide), d1 c hc _ (Nat.mod_lt _ (by decide))]
    unfold s1; omega
theorem step2 : ∀ (l : List Nat), (∀ x ∈ l, x < 256) → (bN l / 4 &&& mk 51 l.length) + (bN l &&& mk 51 l.length) = bN (l.map s2)
  | [], _ => rfl
  | c :: l, h => by
    have hc := h c (by simp)
    have ih := step2 l fun x hx => h x (by simp [hx])
    have e1 : bN (c :: l) / 4 = (c / 4 + 64 * (bN l % 4)) + 256 * (bN l / 4) := by show (c + 256 * bN l) / 4 = _; omega
    have d1 : ∀ c, c < 256 → ∀ t, t < 4 → (c / 4 + 64 * t) &&& 51 = c / 4 &&& 51 := by decide +kernel
    show _ = s2 c + 256 * bN (l.map s2)
    rw [← ih, e1, show mk 51 (c :: l).length = 51 + 256 * mk 51 l.length from rfl, and_split (by omega) (by decide), show bN (c :: l) = c + 256 * bN l from rfl, and_split hc (by decide), d1 c hc _ (Nat.mod_lt _ (by decide))]
    unfold s2; omega
def s3 (b : Nat) : Nat := b / 16 + b % 16
theorem step3 : ∀ (l : List Nat), (∀ x ∈ l, x / 16 ≤ 4 ∧ x % 16 ≤ 4) → (bN l / 16 + bN l) &&& mk 15 l.length = bN (l.map s3)
  | [], _ => rfl
  | c :: l, h => by
    have hc := h c (by simp)
    have ih := step3 l fun x hx => h x (by simp [hx])
    have hq : bN l % 16 ≤ 4 := by
      cases l with
      | nil => simp [bN]
      | cons d l => have := h d (by simp); show (d + 256 * bN l) % 16 ≤ 4; omega
    have e1 : bN (c :: l) / 16 + bN (c :: l) = (s3 c + 16 * (c / 16 + bN l % 16)) + 256 * (bN l / 16 + bN l) := by show (c + 256 * bN l) / 16 + (c + 256 * bN l) = _; unfold s3; omega
    have d1 : ∀ u, u ≤ 8 → ∀ t, t ≤ 8 → (u + 16 * t) &&& 15 = u := by decide
    show _ = s3 c + 256 * bN (l.map s3)
    rw [← ih, e1, show mk 15 (c :: l).length = 15 + 256 * mk 15 l.length from rfl, and_split (by unfold s3; omega) (by decide), d1 _ (by unfold s3; omega) _ (by omega)]
theorem byte_pop : ∀ b, b < 256 → s3 (s2 (s1 b)) = cnt 8 b ∧ s1 b < 256 ∧ s2 (s1 b) / 16 ≤ 4 ∧ s2 (s1 b) % 16 ≤ 4 ∧ s2 (s1 b) < 256 ∧ cnt 8 b ≤ 8 := by decide +kernel
def fold (c : Nat) : Nat := ((c + c / 256 + (c + c / 256) / 65536) + (c + c / 256 + (c + c / 256) / 65536) / 4294967296) % 128
def pairs (x : Nat) : Nat := (x / 2 &&& 6148914691236517205) + (x &&& 6148914691236517205)
def fours (x : Nat) : Nat := (x / 4 &&& 3689348814741910323) + (x &&& 3689348814741910323)
def eights (x : Nat) : Nat := (x / 16 + x) &&& 1085102592571150095
/-- What OnesCount64 reckons. -/
def ones (x : Nat) : Nat := fold (eights (fours (pairs x)))
def by8 (x : Nat) : List Nat := [x % 256, x / 2 ^ 8 % 256, x / 2 ^ 16 % 256, x / 2 ^ 24 % 256, x / 2 ^ 32 % 256, x / 2 ^ 40 % 256, x / 2 ^ 48 % 256, x / 2 ^ 56]
theorem by8_N {x : Nat} : bN (by8 x) = x := by
  simp only [by8, bN]; omega
theorem fq1 (a0 r : Nat) (h : a0 ≤ 8) : (a0 + 256 * r) / 256 = r := by omega
theorem fq3 (g r : Nat) (h : g < 65536) : (g + 65536 * r) / 65536 = r := by omega
theorem fq5 (g r : Nat) (h : g < 4294967296) : (g + 4294967296 * r) / 4294967296 = r := by omega
theorem fq6 (s k : Nat) (h : s < 128) : (s + 128 * k) % 128 = s := by omega
theorem fold8 (a0 a1 a2 a3 a4 a5 a6 a7 : Nat) (b0 : a0 ≤ 8) (b1 : a1 ≤ 8) (b2 : a2 ≤ 8) (b3 : a3 ≤ 8) (b4 : a4 ≤ 8) (b5 : a5 ≤ 8) (b6 : a6 ≤ 8) (b7 : a7 ≤ 8) (c : Nat)
    (hc : c = a0 + 256 * (a1 + 256 * (a2 + 256 * (a3 + 256 * (a4 + 256 * (a5 + 256 * (a6 + 256 * a7))))))) :
    ((c + c / 256 + (c + c / 256) / 65536) + (c + c / 256 + (c + c / 256) / 65536) / 4294967296) % 128 = a0 + a1 + a2 + a3 + a4 + a5 + a6 + a7 := by
  have q1 : c / 256 = a1 + 256 * (a2 + 256 * (a3 + 256 * (a4 + 256 * (a5 + 256 * (a6 + 256 * a7))))) := by rw [hc]; exact fq1 _ _ b0
  have d : c + c / 256 = ((a0 + a1) + 256 * (a1 + a2)) + 65536 * (((a2 + a3) + 256 * (a3 + a4)) + 65536 * (((a4 + a5) + 256 * (a5 + a6)) + 65536 * ((a6 + a7) + 256 * a7))) := by rw [q1, hc]; clear q1 hc; omega
  rw [d, fq3 _ _ (by clear d q1 hc; omega)]
  clear d q1 hc
  have e : ((a0 + a1) + 256 * (a1 + a2)) + 65536 * (((a2 + a3) + 256 * (a3 + a4)) + 65536 * (((a4 + a5) + 256 * (a5 + a6)) + 65536 * ((a6 + a7) + 256 * a7))) + (((a2 + a3) + 256 * (a3 + a4)) + 65536 * (((a4 + a5) + 256 * (a5 + a6)) + 65536 * ((a6 + a7) + 256 * a7)))
     = ((a0 + a1 + a2 + a3) + 256 * (a1 + a2 + a3 + a4) + 65536 * ((a2 + a3 + a4 + a5) + 256 * (a3 + a4 + a5 + a6))) + 4294967296 * (((a4 + a5 + a6 + a7) + 256 * (a5 + a6 + a7)) + 65536 * (a6 + a7 + 256 * a7)) := by omega
  rw [e, fq5 _ _ (by clear e; omega)]
  clear e
  have f : ((a0 + a1 + a2 + a3) + 256 * (a1 + a2 + a3 + a4) + 65536 * ((a2 + a3 + a4 + a5) + 256 * (a3 + a4 + a5 + a6))) + 4294967296 * (((a4 + a5 + a6 + a7) + 256 * (a5 + a6 + a7)) + 65536 * (a6 + a7 + 256 * a7)) + (((a4 + a5 + a6 + a7) + 256 * (a5 + a6 + a7)) + 65536 * (a6 + a7 + 256 * a7))
     = (a0 + a1 + a2 + a3 + a4 + a5 + a6 + a7) + 128 * (2 * (a1 + a2 + a3 + a4) + 512 * ((a2 + a3 + a4 + a5) + 256 * (a3 + a4 + a5 + a6)) + 33554432 * (((a4 + a5 + a6 + a7) + 256 * (a5 + a6 + a7)) + 65536 * (a6 + a7 + 256 * a7)) + 2 * (a5 + a6 + a7) + 512 * (a6 + a7 + 256 * a7)) := by omega
  rw [f, fq6 _ _ (by clear f; omega)]
theorem ones_eq {x : Nat} (hx : x < 18446744073709551616) : ones x = cnt 64 x ∧ ones x ≤ 64 := by
  have hb : ∀ b ∈ by8 x, b < 256 := by
    intro b hb
    simp only [by8, List.mem_cons, List.not_mem_nil, or_false] at hb
    omega
  have hl : (by8 x).length = 8 := rfl
  have e1 := step1 (by8 x) hb
  rw [by8_N, hl, show mk 85 8 = 6148914691236517205 by rfl] at e1
  have e2 := step2 ((by8 x).map s1) (by
    intro b h
    obtain ⟨y, hy, rfl⟩ := List.mem_map.1 h
    exact (byte_pop y (hb y hy)).2.1)
  rw [List.length_map, hl, show mk 51 8 = 3689348814741910323 by rfl] at e2
  have e3 := step3 (((by8 x).map s1).map s2) (by
    intro b h
    obtain ⟨z, hz, rfl⟩ := List.mem_map.1 h
    obtain ⟨y, hy, rfl⟩ := List.mem_map.1 hz
    have := byte_pop y (hb y hy)
    exact ⟨this.2.2.1, this.2.2.2.1⟩)
  rw [List.length_map, List.length_map, hl, show mk 15 8 = 1085102592571150095 by rfl] at e3
  have ec : ((((by8 x).map s1).map s2).map s3) = (by8 x).map (cnt 8) := by
    rw [List.map_map, List.map_map]
    exact List.map_congr_left fun b h => (byte_pop b (hb b h)).1
  rw [ec] at e3
  have c64 : cnt 64 x = cnt 8 (x % 256) + cnt 8 (x / 2 ^ 8 % 256) + cnt 8 (x / 2 ^ 16 % 256) + cnt 8 (x / 2 ^ 24 % 256) + cnt 8 (x / 2 ^ 32 % 256) + cnt 8 (x / 2 ^ 40 % 256) + cnt 8 (x / 2 ^ 48 % 256) + cnt 8 (x / 2 ^ 56) := by
    have m := fun y => cnt_mod 8 y
    simp only [Nat.reducePow] at m
    rw [m, m, m, m, m, m, m, show 64 = 8 + 56 from rfl, cnt_add, show 56 = 8 + 48 from rfl, cnt_add, show 48 = 8 + 40 from rfl, cnt_add, show 40 = 8 + 32 from rfl, cnt_add, show 32 = 8 + 24 from rfl, cnt_add, show 24 = 8 + 16 from rfl, cnt_add, show 16 = 8 + 8 from rfl, cnt_add]
    simp only [Nat.div_div_eq_div_mul, ← Nat.pow_add, Nat.reduceAdd]
    omega
  have bd : ∀ y ∈ by8 x, cnt 8 y ≤ 8 := fun y hy => (byte_pop y (hb y hy)).2.2.2.2.2
  have p1 : pairs x = bN ((by8 x).map s1) := e1
  have p2 : fours (bN ((by8 x).map s1)) = bN (((by8 x).map s1).map s2) := e2
  have p3 : eights (bN (((by8 x).map s1).map s2)) = bN ((by8 x).map (cnt 8)) := e3
  clear e1 e2 e3 hl ec
  unfold ones
  rw [p1, p2, p3, c64]
  clear p1 p2 p3 c64 hb hx
  simp only [by8, List.mem_cons, List.not_mem_nil, or_false, forall_eq_or_imp, forall_eq] at bd
  obtain ⟨b0, b1, b2, b3, b4, b5, b6, b7⟩ := bd
  have F := fold8 _ _ _ _ _ _ _ _ b0 b1 b2 b3 b4 b5 b6 b7 (bN ((by8 x).map (cnt 8))) (by simp only [by8, List.map_cons, List.map_nil, bN, Nat.mul_zero, Nat.add_zero])
  have G : fold (bN ((by8 x).map (cnt 8))) = cnt 8 (x % 256) + cnt 8 (x / 2 ^ 8 % 256) + cnt 8 (x / 2 ^ 16 % 256) + cnt 8 (x / 2 ^ 24 % 256) + cnt 8 (x / 2 ^ 32 % 256) + cnt 8 (x / 2 ^ 40 % 256) + cnt 8 (x / 2 ^ 48 % 256) + cnt 8 (x / 2 ^ 56) := F
  rw [G]
  clear F G
  exact ⟨rfl, by
    generalize cnt 8 (x % 256) = a0 at *
    generalize cnt 8 (x / 2 ^ 8 % 256) = a1 at *
    generalize cnt 8 (x / 2 ^ 16 % 256) = a2 at *
    generalize cnt 8 (x / 2 ^ 24 % 256) = a3 at *
    generalize cnt 8 (x / 2 ^ 32 % 256) = a4 at *
    generalize cnt 8 (x / 2 ^ 40 % 256) = a5 at *
    generalize cnt 8 (x / 2 ^ 48 % 256) = a6 at *
    generalize cnt 8 (x / 2 ^ 56) = a7 at *
    omega⟩
end Go.Proofs.YtnepeleepmhdaaaDoor.AM.P12
