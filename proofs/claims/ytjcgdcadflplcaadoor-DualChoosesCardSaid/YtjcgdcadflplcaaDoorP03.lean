/- Frames, plainly: sums, bytes, what is told. -/
import Derived.Test.YtjcgdcadflplcaaDoorA4
set_option linter.unusedVariables false
set_option linter.unusedSimpArgs false
set_option linter.unusedSectionVars false

namespace Go.Proofs.YtjcgdcadflplcaaDoor.AM.P3
open Go Go.Proofs.YtjcgdcadflplcaaDoor.AM
abbrev X1 (H H' : Heap) : Prop := H.length ≤ H'.length ∧ ∀ b, b < H.length → H'[b]? = H[b]?
theorem mo {k : Nat} (h : k ≤ 100000) : k * (1 + 1) ≤ most := by have : most = 2 ^ 40 := rfl; omega
/-- The table of four steps. -/
def nibN : List Nat := [0x00000000, 0x1db71064, 0x3b6e20c8, 0x26d930ac, 0x76dc4190, 0x6b6b51f4, 0x4db26158, 0x5005713c, 0xedb88320, 0xf00f9344, 0xd6d6a3e8, 0xcb61b38c, 0x9b64c2b0, 0x86d3d2d4, 0xa00ae278, 0xbdbdf21c]
def nibB : Blk := .cells (nats .u32 nibN) true none
/-- Four steps, by the table. -/
def s4 (n : Nat) : Nat := (n / 16 ^^^ gx nibN (n % 16)) % 4294967296
/-- A byte, by the table. -/
def sby (n c : Nat) : Nat := s4 (s4 ((n ^^^ c) % 4294967296))
def inv (n : Nat) : Nat := (4294967295 ^^^ n) % 4294967296
def mor (n : Nat) (l : List Nat) : Nat := inv (l.foldl sby (inv n))
/-- A state's bytes. -/
def stBy (slot : Int) (mem : Nat) : List Nat := [(slot % 4294967296).toNat / 16777216, (slot % 4294967296).toNat / 65536 % 256, (slot % 4294967296).toNat / 256 % 256, (slot % 4294967296).toNat % 256, mem / 256, mem % 256]
theorem gx_nib_lt (i : Nat) : gx nibN i < 4294967296 := by
  by_cases h : i < 16
  · have : ∀ j, j < 16 → gx nibN j < 4294967296 := by decide
    exact this i h
  · have : gx nibN i = 0 := by rw [gx, List.getD_eq_getElem?_getD, List.getElem?_eq_none (show nibN.length ≤ i by simp [nibN]; omega)]; rfl
    omega
theorem s4_lt (n : Nat) : s4 n < 4294967296 := Nat.mod_lt _ (by decide)
theorem sby_lt (n c : Nat) : sby n c < 4294967296 := s4_lt _
theorem inv_lt (n : Nat) : inv n < 4294967296 := Nat.mod_lt _ (by decide)
theorem foldl_lt {f : Nat → Nat → Nat} {M : Nat} (hf : ∀ n c, f n c < M) : ∀ (l : List Nat) {z : Nat}, z < M → l.foldl f z < M
  | [], _, h => h
  | _ :: l, _, _ => foldl_lt hf l (hf _ _)
theorem foldl_take {f : Nat → Nat → Nat} {l : List Nat} {k : Nat} (z : Nat) (h : k < l.length) : (l.take (k + 1)).foldl f z = f ((l.take k).foldl f z) (gx l k) := by
  rw [List.take_add_one, List.foldl_append, List.getElem?_eq_getElem h]
  simp [gx, List.getD_eq_getElem?_getD, h]
/-- One step, by definition. -/
def st1 (n : Nat) : Nat := if n % 2 = 1 then (n / 2 ^^^ 3988292384) % 4294967296 else n / 2
def its (f : Nat → Nat) : Nat → Nat → Nat
  | 0, n => n
  | k + 1, n => f (its f k n)
/-- A byte, by definition. -/
def rby (n c : Nat) : Nat := its st1 8 ((n ^^^ c) % 4294967296)
def rmor (n : Nat) (l : List Nat) : Nat := 4294967295 - l.foldl rby (4294967295 - n)
def num (l : List Nat) : Nat := l.foldl (fun v c => v * 256 + c) 0
theorem num_lt : ∀ (l : List Nat) (v k : Nat), (∀ x ∈ l, x < 256) → v < 256 ^ k → l.foldl (fun v c => v * 256 + c) v < 256 ^ (k + l.length)
  | [], v, k, _, h => h
  | x :: l, v, k, hx, h => by
    have := num_lt l (v * 256 + x) (k + 1) (fun y hy => hx y (by simp [hy])) (by have := hx x (by simp); rw [Nat.pow_succ]; omega)
    rw [show k + (x :: l).length = k + 1 + l.length by simp; omega]
    exact this
/-- A frame. -/
structure Fm where
  o : Int
  s : Int
  m : Nat
  p : List Nat
abbrev frC (f : Fm) : List Cell := .int .i64 f.o :: .int .i64 f.s :: .int .u16 (f.m : Nat) :: nats .u8 f.p
def z64 : List Nat := List.replicate 64 0
abbrev fr0 : Fm := ⟨0, 0, 0, z64⟩
theorem z64_len : z64.length = 64 := rfl
theorem fr0C : (List.replicate 2 (Cell.int .i64 0) ++ [(.int .u16 0)] ++ List.replicate 64 (.int .u8 0)) = .int .i64 0 :: .int .i64 0 :: .int .u16 0 :: nats .u8 z64 := by rfl
theorem sub67 {p : List Nat} (a b c : Cell) (h : p.length = 64) : sub (a :: b :: c :: nats .u8 p) 0 67 = some (a :: b :: c :: nats .u8 p) := by
  simp [sub, nats_len, h]
  exact List.take_of_length_le (by simp [nats_len, h])
theorem sub12 (a b c : Cell) (l : List Cell) : sub (a :: b :: c :: l) 1 2 = some [b, c] := by
  simp [sub]
theorem sub02 (a b : Cell) : sub [a, b] 0 2 = some [a, b] := rfl
theorem subP {p : List Nat} (a b c : Cell) (h : p.length = 64) : sub (a :: b :: c :: nats .u8 p) 3 64 = some (nats .u8 p) := by
  simp [sub, nats_len, h]
  exact List.take_of_length_le (by simp [nats_len, h])
theorem putP {p q : List Nat} (a b c : Cell) (h : q.length = p.length) : put (a :: b :: c :: nats .u8 p) 3 (nats .u8 q) = a :: b :: c :: nats .u8 q := by
  have := put_append (nats .u8 q) [a, b, c] (nats .u8 p) [] (by simp [nats_len, h])
  simpa using this
/-- The four bytes of a sum. -/
def le4 (n : Nat) : List Nat := [n % 256, n / 256 % 256, n / 65536 % 256, n / 16777216]
def okS (l : List Nat) (n : Nat) : Prop := gx l 71 = n % 256 ∧ gx l 72 = n / 256 % 256 ∧ gx l 73 = n / 65536 % 256 ∧ gx l 74 = n / 16777216
instance (l : List Nat) (n : Nat) : Decidable (okS l n) := by unfold okS; infer_instance
/-- What bytes say, whatever their sum. -/
def tell (l : List Nat) : Option Fm := if l.length = 75 ∧ gx l 6 < 16 ∧ gx l 0 ≤ 127 then some ⟨gx l 6, ((((gx l 0 * 256 + gx l 1) * 256 + gx l 2) * 256 + gx l 3 : Nat) : Int), gx l 4 * 256 + gx l 5, (l.drop 7).take 64⟩ else none
def dec (l : List Nat) : Fm × Int :=
  match tell l with
  | none => (fr0, 30)
  | some f => if okS l (mor 0 (l.take 71)) then (f, 0) else (fr0, 31)
def acc (l : List Nat) (o s : Int) (m : Nat) : Fm × Int :=
  match tell l with
  | none => (fr0, 30)
  | some f => if okS l (mor (mor 0 (stBy s m)) ((l.drop 6).take 65)) then if f.o = o ∧ f.s = s ∧ f.m = m then (f, 0) else (fr0, 30) else (fr0, 31)
theorem mor_lt (n : Nat) (l : List Nat) : mor n l < 4294967296 := inv_lt _
def encB (f : Fm) : List Nat := stBy f.s f.m ++ [f.o.toNat] ++ f.p
def enc (f : Fm) : List Nat := encB f ++ le4 (mor 0 (encB f))
def encOk (f : Fm) : Prop := 0 ≤ f.o ∧ f.o < 16 ∧ 0 ≤ f.s ∧ f.s ≤ 2147483647
theorem take4 {l : List Nat} (h : 4 ≤ l.length) : l.take 4 = [gx l 0, gx l 1, gx l 2, gx l 3] := by
  match l, h with
  | a :: b :: c :: d :: l, _ => rfl
theorem take46 {l : List Nat} (h : 6 ≤ l.length) : (l.drop 4).take 2 = [gx l 4, gx l 5] := by
  match l, h with
  | a :: b :: c :: d :: e :: f :: l, _ => rfl
/-- A frame of the kinds that its parts are. -/
structure Fm.wf (f : Fm) : Prop where
  m : f.m < 65536
  len : f.p.length = 64
  by_ : ∀ i, gx f.p i < 256
theorem gx_lt {l : List Nat} (h : ∀ i, gx l i < 256) : ∀ x ∈ l, x < 256 := fun x hx => by
  obtain ⟨i, hi, rfl⟩ := List.mem_iff_getElem.1 hx
  have := h i
  simpa [gx, List.getD_eq_getElem?_getD, hi] using this
theorem lt_gx {l : List Nat} (h : ∀ x ∈ l, x < 256) : ∀ i, gx l i < 256 := fun i => by
  by_cases hi : i < l.length
  · have : gx l i = l[i] := by simp [gx, List.getD_eq_getElem?_getD, hi]
    rw [this]; exact h _ (List.getElem_mem _)
  · have : gx l i = 0 := by rw [gx, List.getD_eq_getElem?_getD, List.getElem?_eq_none (by omega)]; rfl
    omega
theorem stBy_by (s : Int) (m : Nat) (hm : m < 65536) : ∀ x ∈ stBy s m, x < 256 := by
  intro x hx
  simp only [stBy, List.mem_cons, List.not_mem_nil, or_false] at hx
  omega
theorem le4_by (n : Nat) (hn : n < 4294967296) : ∀ x ∈ le4 n, x < 256 := by
  intro x hx
  simp only [le4, List.mem_cons, List.not_mem_nil, or_false] at hx
  omega
theorem encB_by {f : Fm} (h : f.wf) (ho : encOk f) : ∀ x ∈ encB f, x < 256 := by
  intro x hx
  simp only [encB, List.mem_append, List.mem_cons, List.not_mem_nil, or_false] at hx
  rcases hx with (hx | hx) | hx
  · exact stBy_by _ _ h.m x hx
  · have := ho.1; have := ho.2.1; omega
  · exact gx_lt h.by_ x hx
theorem enc_by {f : Fm} (h : f.wf) (ho : encOk f) : ∀ x ∈ enc f, x < 256 := by
  intro x hx
  rcases List.mem_append.1 hx with hx | hx
  · exact encB_by h ho x hx
  · exact le4_by _ (mor_lt _ _) x hx
theorem encB_len {f : Fm} (h : f.wf) : (encB f).length = 71 := by simp [encB, stBy, h.len]
theorem enc_len {f : Fm} (h : f.wf) : (enc f).length = 75 := by simp [enc, encB_len h, le4]
theorem nats_app (k : IntKind) (a b : List Nat) : nats k a ++ nats k b = nats k (a ++ b) := by simp [nats]
theorem nats_set (k : IntKind) (l : List Nat) (i n : Nat) : (nats k l).set i (.int k (n : Nat)) = nats k (l.set i n) := by simp [nats, List.map_set]
theorem nats_drop (k : IntKind) (a : List Nat) (n : Nat) : (nats k a).drop n = nats k (a.drop n) := by simp [nats, List.map_drop]
theorem nats_take (k : IntKind) (a : List Nat) (n : Nat) : (nats k a).take n = nats k (a.take n) := by simp [nats, List.map_take]
/-! ### The table's steps are the definition's -/
def P : Nat := 3988292384
def sg (b : Nat) : Nat := if b % 2 = 1 then P else 0
theorem st1_sg {n : Nat} (h : n < 4294967296) : st1 n = n / 2 ^^^ sg n := by
  unfold st1 sg
  split
  · rw [Nat.mod_eq_of_lt]
    · rfl
    · exact Nat.xor_lt_two_pow (n := 32) (by omega) (by decide)
  · rw [Nat.xor_zero]
theorem sg_xor (a b : Nat) : sg (a ^^^ b) = sg a ^^^ sg b := by
  have h : (a ^^^ b) % 2 = (a % 2 ^^^ b % 2) % 2 := by
    have := Nat.xor_mod_two_pow (a := a) (b := b) (n := 1)
    simp only [Nat.pow_one] at this
    rw [this]
    rcases Nat.mod_two_eq_zero_or_one a with h1 | h1 <;> rcases Nat.mod_two_eq_zero_or_one b with h2 | h2 <;> rw [h1, h2] <;> rfl
  unfold sg
  rw [h]
  rcases Nat.mod_two_eq_zero_or_one a with h1 | h1 <;> rcases Nat.mod_two_eq_zero_or_one b with h2 | h2 <;> rw [h1, h2] <;> simp
theorem st1_xor {a b : Nat} (ha : a < 4294967296) (hb : b < 4294967296) : st1 (a ^^^ b) = st1 a ^^^ st1 b := by
  rw [st1_sg ha, st1_sg hb, st1_sg (Nat.xor_lt_two_pow (n := 32) ha hb), Nat.xor_div_two, sg_xor]
  ac_rfl
theorem st1_lt {n : Nat} (h : n < 4294967296) : st1 n < 4294967296 := by
  unfold st1; split
  · exact Nat.mod_lt _ (by decide)
  · omega
theorem its_st1_lt {n : Nat} (h : n < 4294967296) : ∀ k, its st1 k n < 4294967296
  | 0 => h
  | k + 1 => st1_lt (its_st1_lt h k)
theorem its_xor {a b : Nat} (ha : a < 4294967296) (hb : b < 4294967296) : ∀ k, its st1 k (a ^^^ b) = its st1 k a ^^^ its st1 k b
  | 0 => rfl
  | k + 1 => by
    show st1 (its st1 k _) = _
    rw [its_xor ha hb k, st1_xor (its_st1_lt ha k) (its_st1_lt hb k)]; rfl
theorem its_add (f : Nat → Nat) (n : Nat) (j : Nat) : ∀ k, its f (j + k) n = its f k (its f j n)
  | 0 => rfl
  | k + 1 => by show f (its f (j + k) n) = f _; rw [its_add f n j k]
theorem st1_even (h : Nat) : st1 (2 * h) = h := by
  unfold st1; rw [if_neg (by omega)]; omega
theorem its_pow (h : Nat) : ∀ k, its st1 k (2 ^ k * h) = h
  | 0 => by simp [its]
  | k + 1 => by
    rw [show k + 1 = 1 + k by omega, its_add, show its st1 1 (2 ^ (1 + k) * h) = 2 ^ k * h from ?_, its_pow h k]
    show st1 _ = _
    rw [show 2 ^ (1 + k) * h = 2 * (2 ^ k * h) by rw [Nat.pow_add]; rw [Nat.mul_assoc]]
    exact st1_even _
theorem s4_eq {n : Nat} (h : n < 4294967296) : its st1 4 n = s4 n := by
  have e : n = (2 ^ 4 * (n / 16)) ^^^ (n % 16) := by
    have h1 := Nat.two_pow_add_eq_or_of_lt (i := 4) (b := n % 16) (Nat.mod_lt _ (by decide)) (n / 16)
    have h2 : 2 ^ 4 * (n / 16) ||| n % 16 = 2 ^ 4 * (n / 16) ^^^ n % 16 := by
      apply Nat.eq_of_testBit_eq
      intro i
      rw [Nat.testBit_or, Nat.testBit_xor]
      by_cases hi : i < 4
      · have : (2 ^ 4 * (n / 16)).testBit i = false := by rw [Nat.testBit_two_pow_mul]; simp; omega
        rw [this]; simp
      · have : (n % 16).testBit i = false := Nat.testBit_lt_two_pow (Nat.lt_of_lt_of_le (Nat.mod_lt n (by decide : 0 < 16)) (by exact Nat.pow_le_pow_right (n := 2) (by decide) (show 4 ≤ i by omega)))
        rw [this]; simp
    rw [← h2, ← h1]; omega
  have hd : ∀ d, d < 16 → its st1 4 d = gx nibN d := by decide
  have h3 : n / 16 < 2 ^ 28 := by omega
  conv => lhs; rw [e]
  rw [its_xor (by omega) (by omega), its_pow, hd _ (Nat.mod_lt _ (by decide))]
  unfold s4
  have h4 : n / 16 ^^^ gx nibN (n % 16) < 4294967296 := Nat.xor_lt_two_pow (n := 32) (by omega) (gx_nib_lt _)
  rw [Nat.mod_eq_of_lt h4]
theorem rby_eq (n c : Nat) : rby n c = sby n c := by
  unfold rby sby
  have h : (n ^^^ c) % 4294967296 < 4294967296 := Nat.mod_lt _ (by decide)
  rw [show 8 = 4 + 4 from rfl, its_add, s4_eq h, s4_eq (s4_lt _)]
theorem inv_sub {n : Nat} (h : n < 4294967296) : inv n = 4294967295 - n := by
  have h1 := BitVec.xor_allOnes (x := BitVec.ofNat 32 n)
  have h2 := congrArg BitVec.toNat h1
  rw [BitVec.toNat_xor, BitVec.toNat_not, BitVec.toNat_allOnes, BitVec.toNat_ofNat, Nat.mod_eq_of_lt h] at h2
  unfold inv
  rw [Nat.xor_comm, show (4294967295 : Nat) = 2 ^ 32 - 1 from rfl, h2, Nat.mod_eq_of_lt (by omega)]
theorem rmor_eq (n : Nat) (l : List Nat) (hn : n < 4294967296) : rmor n l = mor n l := by
  unfold rmor mor
  have : rby = sby := by funext n c; exact rby_eq n c
  rw [this, inv_sub hn, inv_sub (foldl_lt sby_lt _ (by omega))]
theorem inv_inv {n : Nat} (h : n < 4294967296) : inv (inv n) = n := by
  rw [inv_sub (inv_lt n), inv_sub h]; omega
theorem mor_mor (n : Nat) (a b : List Nat) (ha : ∀ i, gx a i < 256) : mor (mor n a) b = mor n (a ++ b) := by
  unfold mor
  rw [inv_inv (foldl_lt sby_lt _ (inv_lt _)), List.foldl_append]
/-! ### Bits that are turned -/
def bt (mask i : Nat) : Bool := mask / 2 ^ i % 2 == 1
/-- A bit turned. -/
def fl (k : Nat) (l : List Nat) : List Nat := l.set (k / 8) ((gx l (k / 8) ^^^ 2 ^ (k % 8)) % 256)
theorem fl_len (k : Nat) (l : List Nat) : (fl k l).length = l.length := by simp [fl]
/-- Is it turned? -/
abbrev hit (at_ : Int) (mask k : Nat) : Prop := at_ ≤ k ∧ (k : Int) - 31 ≤ at_ ∧ bt mask ((k : Int) - at_).toNat = true
/-- The bytes, as far as their first bits are turned. -/
def R (xs : List Nat) (at_ : Int) (mask : Nat) : Nat → List Nat
  | 0 => xs
  | k + 1 => if hit at_ mask k then fl k (R xs at_ mask k) else R xs at_ mask k
theorem R_len (xs : List Nat) (at_ : Int) (mask : Nat) : ∀ k, (R xs at_ mask k).length = xs.length
  | 0 => rfl
  | k + 1 => by unfold R; split <;> simp only [fl_len, R_len xs at_ mask k]
theorem R_skip {xs : List Nat} {at_ : Int} {mask : Nat} {k : Nat} (h : ¬ hit at_ mask k) : R xs at_ mask (k + 1) = R xs at_ mask k := by
  rw [R, if_neg h]
theorem R_flip {xs : List Nat} {at_ : Int} {mask : Nat} {k : Nat} (h : hit at_ mask k) : R xs at_ mask (k + 1) = fl k (R xs at_ mask k) := by
  rw [R, if_pos h]
/-- Nothing turns from one place to another one. -/
theorem R_same {xs : List Nat} {at_ : Int} {mask : Nat} {a b : Nat} (hab : a ≤ b) (h : ∀ k, a ≤ k → k < b → ¬ hit at_ mask k) : R xs at_ mask b = R xs at_ mask a := by
  induction b with
  | zero => have : a = 0 := by omega
            rw [this]
  | succ b ih =>
    by_cases e : a = b + 1
    · rw [e]
    · rw [R_skip (h b (by omega) (by omega)), ih (by omega) fun k h1 h2 => h k h1 (by omega)]
/-- Bytes with bits turned. -/
def corr (l : List Nat) (at_ : Int) (mask : Nat) : List Nat := R l at_ mask (8 * l.length)
theorem corr_len (l : List Nat) (at_ : Int) (mask : Nat) : (corr l at_ mask).length = l.length := R_len _ _ _ _
theorem mem_set {l : List Nat} {i x y : Nat} (h : y ∈ l.set i x) : y = x ∨ y ∈ l := (List.mem_or_eq_of_mem_set h).symm
theorem R_by {xs : List Nat} (h : ∀ x ∈ xs, x < 256) (at_ : Int) (mask : Nat) : ∀ k, ∀ x ∈ R xs at_ mask k, x < 256
  | 0 => h
  | k + 1 => by
    intro x hx
    unfold R at hx
    split at hx
    · rcases mem_set hx with rfl | hx
      · exact Nat.mod_lt _ (by decide)
      · exact R_by h at_ mask k x hx
    · exact R_by h at_ mask k x hx
theorem corr_by {l : List Nat} (h : ∀ x ∈ l, x < 256) (at_ : Int) (mask : Nat) : ∀ x ∈ corr l at_ mask, x < 256 := R_by h at_ mask _
/-- The bits, one after another. -/
def bl (mask : Nat) : Nat → Nat → List (List V)
  | 0, _ => []
  | f + 1, j => if bt mask j then [.c (.int .i64 (j : Nat))] :: bl mask f (j + 1) else bl mask f (j + 1)
theorem bt_none {mask j : Nat} (h : mask / 2 ^ j = 0) : bt mask j = false := by simp [bt, h]
theorem bl_none {mask : Nat} : ∀ (f j : Nat), mask / 2 ^ j = 0 → bl mask f j = []
  | 0, _, _ => rfl
  | f + 1, j, h => by
    have : mask / 2 ^ (j + 1) = 0 := by rw [Nat.pow_succ, ← Nat.div_div_eq_div_mul, h, Nat.zero_div]
    simp [bl, bt_none h, bl_none f (j + 1) this]
theorem bl_cons {mask : Nat} {x : List V} {rest : List (List V)} : ∀ {f j : Nat}, bl mask f j = x :: rest → ∃ i, j ≤ i ∧ i < j + f ∧ bt mask i = true ∧ (∀ k, j ≤ k → k < i → bt mask k = false) ∧ x = [.c (.int .i64 (i : Nat))] ∧ rest = bl mask (j + f - (i + 1)) (i + 1)
  | 0, _, h => by cases h
  | f + 1, j, h => by
    unfold bl at h
    split at h
    · rename_i hb
      cases h
      exact ⟨j, Nat.le_refl _, by omega, hb, fun k h1 h2 => by omega, rfl, by rw [show j + (f + 1) - (j + 1) = f by omega]⟩
    · rename_i hb
      obtain ⟨i, h1, h2, h3, h4, h5, h6⟩ := bl_cons h
      refine ⟨i, by omega, by omega, h3, fun k k1 k2 => ?_, h5, by rw [h6]; congr 1; omega⟩
      by_cases e : k = j
      · subst e; simpa using hb
      · exact h4 k (by omega) k2
theorem bl_end {mask : Nat} : ∀ {f j : Nat}, bl mask f j = [] → ∀ k, j ≤ k → k < j + f → bt mask k = false
  | 0, _, _, k, h1, h2 => by omega
  | f + 1, j, h, k, h1, h2 => by
    unfold bl at h
    split at h
    · cases h
    · rename_i hb
      by_cases e : k = j
      · subst e; simpa using hb
      · exact bl_end h k (by omega) (by omega)
/-- A place between 0 and the end. -/
def clamp (n : Nat) (k : Int) : Nat := min (8 * n) k.toNat
/-! ### Frames, held against each other -/
theorem eqCs_nats (k : IntKind) : ∀ (p q : List Nat), p.length = q.length → eqCs (List.replicate p.length .int) (nats k p) (nats k q) = some (decide (p = q))
  | [], [], _ => rfl
  | [], _ :: _, h => by simp at h
  | _ :: _, [], h => by simp at h
  | x :: p, y :: q, h => by
    have ih := eqCs_nats k p q (by simpa using h)
    show (if k = k then if ((x : Int) == (y : Int)) = true then eqCs (List.replicate p.length .int) (nats k p) (nats k q) else some false else none) = _
    rw [if_pos rfl, ih]
    by_cases e : x = y
    · subst e; simp
    · have : ¬ (x : Int) = (y : Int) := by omega
      simp [e, this]
theorem eqFm_ {o s m o' s' m' : Int} {p p' : List Nat} (h : p.length = 64 ∧ p'.length = 64) : eqCs ([.int, .int, .int] ++ List.replicate 64 .int) (.int .i64 o :: .int .i64 s :: .int .u16 m :: nats .u8 p) (.int .i64 o' :: .int .i64 s' :: .int .u16 m' :: nats .u8 p') = some (decide (o = o' ∧ s = s' ∧ m = m' ∧ p = p')) := by
  have ih := eqCs_nats .u8 p p' (by rw [h.1, h.2])
  rw [h.1] at ih
  simp only [List.cons_append, List.nil_append, eqCs, if_true, ih]
  by_cases h1 : o = o'
  · by_cases h2 : s = s'
    · by_cases h3 : m = m'
      · simp [h1, h2, h3]
      · simp [h1, h2, h3]
    · simp [h1, h2]
  · simp [h1]
theorem eqFm {o s m o' s' m' : Int} {p p' : List Nat} (h : p.length = 64 ∧ p'.length = 64) : eqaO [.int, .int, .int, .int, .int, .int, .int, .int, .int, .int, .int, .int, .int, .int, .int, .int, .int, .int, .int, .int, .int, .int, .int, .int, .int, .int, .int, .int, .int, .int, .int, .int, .int, .int, .int, .int, .int, .int, .int, .int, .int, .int, .int, .int, .int, .int, .int, .int, .int, .int, .int, .int, .int, .int, .int, .int, .int, .int, .int, .int, .int, .int, .int, .int, .int, .int, .int] false (.agg (.int .i64 o :: .int .i64 s :: .int .u16 m :: nats .u8 p)) (.agg (.int .i64 o' :: .int .i64 s' :: .int .u16 m' :: nats .u8 p')) = some (.c (.bool (decide (o = o' ∧ s = s' ∧ m = m' ∧ p = p')))) := by
  have := eqFm_ (o := o) (o' := o') (s := s) (s' := s') (m := m) (m' := m') h
  rw [eqaO_agg, if_pos (by simp [nats_len, h])]
  refine (congrArg _ this).trans ?_
  simp
theorem neFm {o s m o' s' m' : Int} {p p' : List Nat} (h : p.length = 64 ∧ p'.length = 64) : eqaO [.int, .int, .int, .int, .int, .int, .int, .int, .int, .int, .int, .int, .int, .int, .int, .int, .int, .int, .int, .int, .int, .int, .int, .int, .int, .int, .int, .int, .int, .int, .int, .int, .int, .int, .int, .int, .int, .int, .int, .int, .int, .int, .int, .int, .int, .int, .int, .int, .int, .int, .int, .int, .int, .int, .int, .int, .int, .int, .int, .int, .int, .int, .int, .int, .int, .int, .int] true (.agg (.int .i64 o :: .int .i64 s :: .int .u16 m :: nats .u8 p)) (.agg (.int .i64 o' :: .int .i64 s' :: .int .u16 m' :: nats .u8 p')) = some (.c (.bool (decide (¬ (o = o' ∧ s = s' ∧ m = m' ∧ p = p'))))) := by
  have := eqFm_ (o := o) (o' := o') (s := s) (s' := s') (m := m) (m' := m') h
  rw [eqaO_agg, if_pos (by simp [nats_len, h])]
  refine (congrArg _ this).trans ?_
  simp
theorem eqSt {s m s' m' : Int} : eqaO [.int, .int] false (.agg [.int .i64 s, .int .u16 m]) (.agg [.int .i64 s', .int .u16 m']) = some (.c (.bool (decide (s = s' ∧ m = m')))) := by
  rw [eqaO_agg, if_pos (by simp)]
  by_cases h1 : s = s' <;> by_cases h2 : m = m' <;> simp [eqCs, h1, h2]
theorem neSt {s m s' m' : Int} : eqaO [.int, .int] true (.agg [.int .i64 s, .int .u16 m]) (.agg [.int .i64 s', .int .u16 m']) = some (.c (.bool (decide (¬ (s = s' ∧ m = m'))))) := by
  rw [eqaO_agg, if_pos (by simp)]
  by_cases h1 : s = s' <;> by_cases h2 : m = m' <;> simp [eqCs, h1, h2]
/-! ### What is written is told -/
theorem gx_app_l {a b : List Nat} {i : Nat} (h : i < a.length) : gx (a ++ b) i = gx a i := by
  simp [gx, List.getD_eq_getElem?_getD, List.getElem?_append_left h]
theorem gx_app_r (a b : List Nat) (i : Nat) : gx (a ++ b) (a.length + i) = gx b i := by
  simp [gx, List.getD_eq_getElem?_getD, List.getElem?_append_right]
theorem enc_cons (f : Fm) : enc f = (f.s % 4294967296).toNat / 16777216 :: (f.s % 4294967296).toNat / 65536 % 256 :: (f.s % 4294967296).toNat / 256 % 256 :: (f.s % 4294967296).toNat % 256 :: f.m / 256 :: f.m % 256 :: f.o.toNat :: (f.p ++ le4 (mor 0 (encB f))) := by
  simp [enc, encB, stBy]
theorem tell_enc {f : Fm} (h : f.wf) (ho : encOk f) : tell (enc f) = some f := by
  have hl := enc_len h
  obtain ⟨h1, h2, h3, h4⟩ := ho
  have hm := h.m
  have e := enc_cons f
  have g0 : gx (enc f) 0 = (f.s % 4294967296).toNat / 16777216 := by rw [e]; rfl
  have g1 : gx (enc f) 1 = (f.s % 4294967296).toNat / 65536 % 256 := by rw [e]; rfl
  have g2 : gx (enc f) 2 = (f.s % 4294967296).toNat / 256 % 256 := by rw [e]; rfl
  have g3 : gx (enc f) 3 = (f.s % 4294967296).toNat % 256 := by rw [e]; rfl
  have g4 : gx (enc f) 4 = f.m / 256 := by rw [e]; rfl
  have g5 : gx (enc f) 5 = f.m % 256 := by rw [e]; rfl
  have g6 : gx (enc f) 6 = f.o.toNat := by rw [e]; rfl
  have gp : ((enc f).drop 7).take 64 = f.p := by
    rw [e]
    show (f.p ++ le4 _).take 64 = f.p
    rw [List.take_append_of_le_length (by rw [h.len]; exact Nat.le_refl _), ← h.len, List.take_length]
  unfold tell
  rw [if_pos ⟨hl, by rw [g6]; omega, by rw [g0]; omega⟩, g0, g1, g2, g3, g4, g5, g6, gp]
  obtain ⟨o, s, m, p⟩ := f
  simp only at *
  congr 2 <;> omega
theorem okS_enc {f : Fm} (h : f.wf) {n : Nat} (hn : n < 4294967296) : okS (enc f) n ↔ n = mor 0 (encB f) := by
  have hl := encB_len h
  have hm := mor_lt 0 (encB f)
  have g : ∀ i, gx (enc f) (71 + i) = gx (le4 (mor 0 (encB f))) i := fun i => by
    have := gx_app_r (encB f) (le4 (mor 0 (encB f))) i
    rw [hl] at this; exact this
  have g0 := g 0; have g1 := g 1; have g2 := g 2; have g3 := g 3
  unfold okS
  rw [g0, g1, g2, g3]
  show (_ % 256 = _ ∧ _ / 256 % 256 = _ ∧ _ / 65536 % 256 = _ ∧ _ / 16777216 = _) ↔ _
  omega
theorem enc_take71 {f : Fm} (h : f.wf) : (enc f).take 71 = encB f := by
  rw [enc, List.take_append_of_le_length (by rw [encB_len h]; exact Nat.le_refl _), ← encB_len h, List.take_length]
theorem dec_enc {f : Fm} (h : f.wf) (ho : encOk f) : dec (enc f) = (f, 0) := by
  simp only [dec, tell_enc h ho]
  rw [if_pos ((okS_enc h (mor_lt _ _)).2 (by rw [enc_take71 h]))]
theorem enc_mid {f : Fm} (h : f.wf) : ((enc f).drop 6).take 65 = f.o.toNat :: f.p := by
  rw [enc_cons f]
  show (f.o.toNat :: (f.p ++ le4 _)).take (64 + 1) = _
  rw [List.take_succ_cons, List.take_append_of_le_length (by rw [h.len]; exact Nat.le_refl _), ← h.len, List.take_length]
/-- By its own owner and state it is accepted; by others it is not. -/
theorem acc_enc {f : Fm} (h : f.wf) (ho : encOk f) {o s : Int} {m : Nat} (hm : m < 65536) : acc (enc f) o s m = (f, 0) ∧ f.o = o ∧ f.s = s ∧ f.m = m ∨ ((acc (enc f) o s m).1 = fr0 ∧ (acc (enc f) o s m).2 ≠ 0) ∧ ¬ (f.o = o ∧ f.s = s ∧ f.m = m) := by
  simp only [acc, tell_enc h ho]
  rw [enc_mid h, mor_mor _ _ _ (lt_gx (stBy_by s m hm))]
  by_cases c : f.o = o ∧ f.s = s ∧ f.m = m
  · left
    refine ⟨?_, c⟩
    rw [if_pos, if_pos c]
    rw [okS_enc h (mor_lt _ _)]
    obtain ⟨rfl, rfl, rfl⟩ := c
    rw [encB]; simp
  · right
    refine ⟨?_, c⟩
    rw [if_neg c]
    split
    · exact ⟨rfl, by decide⟩
    · exact ⟨rfl, by decide⟩
/-! ### Arguments -/
abbrev tyFm : Ty := .pair (.int .i64) (.pair (.pair (.int .i64) (.pair (.int .u16) .unit)) (.pair (.arr 64 (.int .u8)) .unit))
theorem fm_of {H : Heap} {x : tyFm.D} {v : V} (h : VwV tyFm H x v) : ∃ f : Fm, v = .agg (frC f) ∧ f.wf := by
  obtain ⟨cs, h1, ⟨_, rfl⟩ | ⟨h, _⟩⟩ := h
  · obtain ⟨c1, c2, rfl, ⟨rfl, _⟩, c3, c4, rfl, ⟨c5, c6, rfl, ⟨rfl, _⟩, c7, c8, rfl, ⟨rfl, hm⟩, h8⟩, c9, c10, rfl, ⟨hn, rows, rfl, hr, hv⟩, h10⟩ := h1
    obtain rfl : c8 = [] := h8
    obtain rfl : c10 = [] := h10
    obtain ⟨m, em, hm⟩ := wf_u (k := .u16) rfl hm
    obtain ⟨l, e1, e2, e3⟩ := all2_ints (k := .u8) rfl hv
    refine ⟨⟨x.1, x.2.1.1, m, l⟩, ?_, by simpa [IntKind.bits] using hm, e1.trans hn, lt_gx (by simpa [IntKind.bits] using e3)⟩
    show V.agg _ = V.agg (_ :: _ :: _ :: _)
    rw [e2, em]
    simp
  · cases h
abbrev tySt : Ty := .pair (.int .i64) (.pair (.int .u16) .unit)
theorem sta_of {H : Heap} {x : tySt.D} {v : V} (h : VwV tySt H x v) : ∃ (s : Int) (m : Nat), v = .agg [.int .i64 s, .int .u16 (m : Nat)] ∧ m < 65536 := by
  obtain ⟨cs, h1, ⟨_, rfl⟩ | ⟨h, _⟩⟩ := h
  · obtain ⟨c5, c6, rfl, ⟨rfl, _⟩, c7, c8, rfl, ⟨rfl, hm⟩, h8⟩ := h1
    obtain rfl : c8 = [] := h8
    obtain ⟨m, em, hm⟩ := wf_u (k := .u16) rfl hm
    exact ⟨x.1, m, by rw [em]; rfl, by simpa [IntKind.bits] using hm⟩
  · cases h
/-! ### Plain laws -/
theorem enc_inj {f g : Fm} (hf : f.wf) (hg : g.wf) (of : encOk f) (og : encOk g) : enc f = enc g ↔ f = g := by
  constructor
  · intro h
    have := tell_enc hf of
    rw [h, tell_enc hg og] at this
    exact (Option.some.inj this).symm
  · rintro rfl; rfl
/-- Its bytes begin as they say. -/
theorem take6 {l : List Nat} {f : Fm} (h : tell l = some f) (hby : ∀ i, gx l i < 256) : stBy f.s f.m = l.take 6 := by
  unfold tell at h
  split at h
  · rename_i c
    cases h
    obtain ⟨h1, h2, h3⟩ := c
    have b1 := hby 1; have b2 := hby 2; have b3 := hby 3; have b4 := hby 4; have b5 := hby 5
    match l, h1 with
    | x0 :: x1 :: x2 :: x3 :: x4 :: x5 :: l, _ =>
      have e0 : gx (x0 :: x1 :: x2 :: x3 :: x4 :: x5 :: l) 0 = x0 := rfl
      have e1 : gx (x0 :: x1 :: x2 :: x3 :: x4 :: x5 :: l) 1 = x1 := rfl
      have e2 : gx (x0 :: x1 :: x2 :: x3 :: x4 :: x5 :: l) 2 = x2 := rfl
      have e3 : gx (x0 :: x1 :: x2 :: x3 :: x4 :: x5 :: l) 3 = x3 := rfl
      have e4 : gx (x0 :: x1 :: x2 :: x3 :: x4 :: x5 :: l) 4 = x4 := rfl
      have e5 : gx (x0 :: x1 :: x2 :: x3 :: x4 :: x5 :: l) 5 = x5 := rfl
      rw [e0] at h3
      rw [e1] at b1; rw [e2] at b2; rw [e3] at b3; rw [e4] at b4; rw [e5] at b5
      simp only [stBy, e0, e1, e2, e3, e4, e5, List.take_succ_cons, List.take_zero]
      simp only [List.cons.injEq, and_true]
      omega
  · cases h
theorem tell_mem {l : List Nat} {f : Fm} (h : tell l = some f) (hby : ∀ i, gx l i < 256) : f.m < 65536 ∧ l.length = 75 := by
  unfold tell at h
  split at h
  · rename_i c; cases h
    have b4 := hby 4; have b5 := hby 5
    exact ⟨by simp only; omega, c.1⟩
  · cases h
theorem mid {l : List Nat} (h : l.length = 75) : l.take 6 ++ (l.drop 6).take 65 = l.take 71 := by
  rw [List.take_drop]
  have : l.take 6 = (l.take 71).take 6 := by rw [List.take_take]; rfl
  rw [this]
  exact List.take_append_drop 6 _
theorem sum_same {l : List Nat} {f : Fm} (h : tell l = some f) (hby : ∀ i, gx l i < 256) : mor (mor 0 (stBy f.s f.m)) ((l.drop 6).take 65) = mor 0 (l.take 71) := by
  have hm := tell_mem h hby
  rw [mor_mor _ _ _ (lt_gx (stBy_by _ _ hm.1)), take6 h hby, mid hm.2]
theorem dec_m {l : List Nat} (hby : ∀ i, gx l i < 256) : (dec l).1.m < 65536 := by
  unfold dec
  cases ht : tell l with
  | none => show (0 : Nat) < 65536; decide
  | some f =>
    simp only
    split
    · exact (tell_mem ht hby).1
    · show (0 : Nat) < 65536; decide
/-- What Decode tells is accepted. -/
theorem dec_acc {l : List Nat} (hby : ∀ i, gx l i < 256) (h : (dec l).2 = 0) : acc l (dec l).1.o (dec l).1.s (dec l).1.m = ((dec l).1, 0) := by
  unfold dec at h ⊢
  cases ht : tell l with
  | none => rw [ht] at h; cases h
  | some f =>
    rw [ht] at h
    simp only at h ⊢
    split at h
    · rename_i hk
      rw [if_pos hk]
      simp only [acc, ht]
      rw [sum_same ht hby, if_pos hk, if_pos (by simp)]
    · cases h
/-- What is accepted Decode tells. -/
theorem acc_dec {l : List Nat} (hby : ∀ i, gx l i < 256) {o s : Int} {m : Nat} (h : (acc l o s m).2 = 0) : dec l = ((acc l o s m).1, 0) ∧ (acc l o s m).1.o = o ∧ (acc l o s m).1.s = s ∧ (acc l o s m).1.m = m := by
  unfold acc at h ⊢
  cases ht : tell l with
  | none => rw [ht] at h; cases h
  | some f =>
    rw [ht] at h
    simp only at h ⊢
    split at h
    · rename_i hk
      split at h
      · rename_i hc
        rw [if_pos hk, if_pos hc]
        refine ⟨?_, hc⟩
        obtain ⟨rfl, rfl, rfl⟩ := hc
        simp only [dec, ht]
        rw [sum_same ht hby] at hk
        rw [if_pos hk]
      · cases h
    · cases h
end Go.Proofs.YtjcgdcadflplcaaDoor.AM.P3
