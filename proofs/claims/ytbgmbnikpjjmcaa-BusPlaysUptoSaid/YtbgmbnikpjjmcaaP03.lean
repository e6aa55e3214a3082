/- Frames, plainly: sums, bytes, what is told. -/
import Derived.Test.YtbgmbnikpjjmcaaA4
set_option linter.unusedVariables false
set_option linter.unusedSimpArgs false
set_option linter.unusedSectionVars false
namespace Go.Proofs.Ytbgmbnikpjjmcaa.AM.P3
open Go Go.Proofs.Ytbgmbnikpjjmcaa.AM
abbrev X1 (H H' : Heap) : Prop := H.length ≤ H'.length ∧ ∀ b, b < H.length → H'[b]? = H[b]?
def nibN : List Nat := [0x00000000, 0x1db71064, 0x3b6e20c8, 0x26d930ac, 0x76dc4190, 0x6b6b51f4, 0x4db26158, 0x5005713c, 0xedb88320, 0xf00f9344, 0xd6d6a3e8, 0xcb61b38c, 0x9b64c2b0, 0x86d3d2d4, 0xa00ae278, 0xbdbdf21c]
def s4 (n : Nat) : Nat := (n / 16 ^^^ gx nibN (n % 16)) % 4294967296
def sby (n c : Nat) : Nat := s4 (s4 ((n ^^^ c) % 4294967296))
def inv (n : Nat) : Nat := (4294967295 ^^^ n) % 4294967296
def mor (n : Nat) (l : List Nat) : Nat := inv (l.foldl sby (inv n))
def stBy (slot : Int) (mem : Nat) : List Nat := [(slot % 4294967296).toNat / 16777216, (slot % 4294967296).toNat / 65536 % 256, (slot % 4294967296).toNat / 256 % 256, (slot % 4294967296).toNat % 256, mem / 256, mem % 256]
structure Fm where
  o : Int
  s : Int
  m : Nat
  p : List Nat
def z64 : List Nat := List.replicate 64 0
abbrev fr0 : Fm := ⟨0, 0, 0, z64⟩
theorem sub12 (a b c : Cell) (l : List Cell) : sub (a :: b :: c :: l) 1 2 = some [b, c] := by
  simp [sub]
def le4 (n : Nat) : List Nat := [n % 256, n / 256 % 256, n / 65536 % 256, n / 16777216]
def okS (l : List Nat) (n : Nat) : Prop := gx l 71 = n % 256 ∧ gx l 72 = n / 256 % 256 ∧ gx l 73 = n / 65536 % 256 ∧ gx l 74 = n / 16777216
instance (l : List Nat) (n : Nat) : Decidable (okS l n) := by unfold okS; infer_instance
def tell (l : List Nat) : Option Fm := if l.length = 75 ∧ gx l 6 < 16 ∧ gx l 0 ≤ 127 then some ⟨gx l 6, ((((gx l 0 * 256 + gx l 1) * 256 + gx l 2) * 256 + gx l 3 : Nat) : Int), gx l 4 * 256 + gx l 5, (l.drop 7).take 64⟩ else none
def acc (l : List Nat) (o s : Int) (m : Nat) : Fm × Int :=
  match tell l with
  | none => (fr0, 30)
  | some f => if okS l (mor (mor 0 (stBy s m)) ((l.drop 6).take 65)) then if f.o = o ∧ f.s = s ∧ f.m = m then (f, 0) else (fr0, 30) else (fr0, 31)
def encB (f : Fm) : List Nat := stBy f.s f.m ++ [f.o.toNat] ++ f.p
def enc (f : Fm) : List Nat := encB f ++ le4 (mor 0 (encB f))
structure Fm.wf (f : Fm) : Prop where
  m : f.m < 65536
  len : f.p.length = 64
  by_ : ∀ i, gx f.p i < 256
theorem lt_gx {l : List Nat} (h : ∀ x ∈ l, x < 256) : ∀ i, gx l i < 256 := fun i => by
  by_cases hi : i < l.length
  · have : gx l i = l[i] := by simp [gx, List.getD_eq_getElem?_getD, hi]
    rw [this]; exact h _ (List.getElem_mem _)
  · have : gx l i = 0 := by rw [gx, List.getD_eq_getElem?_getD, List.getElem?_eq_none (by omega)]; rfl
    omega
theorem nats_set (k : IntKind) (l : List Nat) (i n : Nat) : (nats k l).set i (.int k (n : Nat)) = nats k (l.set i n) := by simp [nats, List.map_set]
def P : Nat := 3988292384
def bt (mask i : Nat) : Bool := mask / 2 ^ i % 2 == 1
def fl (k : Nat) (l : List Nat) : List Nat := l.set (k / 8) ((gx l (k / 8) ^^^ 2 ^ (k % 8)) % 256)
theorem fl_len (k : Nat) (l : List Nat) : (fl k l).length = l.length := by simp [fl]
abbrev hit (at_ : Int) (mask k : Nat) : Prop := at_ ≤ k ∧ (k : Int) - 31 ≤ at_ ∧ bt mask ((k : Int) - at_).toNat = true
def R (xs : List Nat) (at_ : Int) (mask : Nat) : Nat → List Nat
  | 0 => xs
  | k + 1 => if hit at_ mask k then fl k (R xs at_ mask k) else R xs at_ mask k
theorem R_len (xs : List Nat) (at_ : Int) (mask : Nat) : ∀ k, (R xs at_ mask k).length = xs.length
  | 0 => rfl
  | k + 1 => by unfold R; split <;> simp only [fl_len, R_len xs at_ mask k]
theorem R_skip {xs : List Nat} {at_ : Int} {mask : Nat} {k : Nat} (h : ¬ hit at_ mask k) : R xs at_ mask (k + 1) = R xs at_ mask k := by
  rw [R, if_neg h]
theorem R_flip {xs : List Nat} {at_ : Int} {mask : Nat} {k : Nat} (h : hit at_ mask k) : R xs at_ mask (k + 1) = fl k (R xs at_ mask k) := by
  rw [R, if_pos h]
theorem R_same {xs : List Nat} {at_ : Int} {mask : Nat} {a b : Nat} (hab : a ≤ b) (h : ∀ k, a ≤ k → k < b → ¬ hit at_ mask k) : R xs at_ mask b = R xs at_ mask a := by
  induction b with
  | zero => have : a = 0 := by omega
            rw [this]
  | succ b ih =>
    by_cases e : a = b + 1
    · rw [e]
    · rw [R_skip (h b (by omega) (by omega)), ih (by omega) fun k h1 h2 => h k h1 (by omega)]
def corr (l : List Nat) (at_ : Int) (mask : Nat) : List Nat := R l at_ mask (8 * l.length)
theorem corr_len (l : List Nat) (at_ : Int) (mask : Nat) : (corr l at_ mask).length = l.length := R_len _ _ _ _
theorem mem_set {l : List Nat} {i x y : Nat} (h : y ∈ l.set i x) : y = x ∨ y ∈ l := (List.mem_or_eq_of_mem_set h).symm
theorem R_by {xs : List Nat} (h : ∀ x ∈ xs, x < 256) (at_ : Int) (mask : Nat) : ∀ k, ∀ x ∈ R xs at_ mask k, x < 256
  | 0 => h
  | k + 1 => by
    intro x hx
    unfold R at hx
    split at hx
    · rcases mem_set hx with rfl | hx
      · exact Nat.mod_lt _ (by decide)
      · exact R_by h at_ mask k x hx
    · exact R_by h at_ mask k x hx
theorem corr_by {l : List Nat} (h : ∀ x ∈ l, x < 256) (at_ : Int) (mask : Nat) : ∀ x ∈ corr l at_ mask, x < 256 := R_by h at_ mask _
def bl (mask : Nat) : Nat → Nat → List (List V)
  | 0, _ => []
  | f + 1, j => if bt mask j then [.c (.int .i64 (j : Nat))] :: bl mask f (j + 1) else bl mask f (j + 1)
theorem bt_none {mask j : Nat} (h : mask / 2 ^ j = 0) : bt mask j = false := by simp [bt, h]
theorem bl_none {mask : Nat} : ∀ (f j : Nat), mask / 2 ^ j = 0 → bl mask f j = []
  | 0, _, _ => rfl
  | f + 1, j, h => by
    have : mask / 2 ^ (j + 1) = 0 := by rw [Nat.pow_succ, ← Nat.div_div_eq_div_mul, h, Nat.zero_div]
    simp [bl, bt_none h, bl_none f (j + 1) this]
theorem bl_cons {mask : Nat} {x : List V} {rest : List (List V)} : ∀ {f j : Nat}, bl mask f j = x :: rest → ∃ i, j ≤ i ∧ i < j + f ∧ bt mask i = true ∧ (∀ k, j ≤ k → k < i → bt mask k = false) ∧ x = [.c (.int .i64 (i : Nat))] ∧ rest = bl mask (j + f - (i + 1)) (i + 1)
  | 0, _, h => by cases h
  | f + 1, j, h => by
    unfold bl at h
    split at h
    · rename_i hb
      cases h
      exact ⟨j, Nat.le_refl _, by omega, hb, fun k h1 h2 => by omega, rfl, by rw [show j + (f + 1) - (j + 1) = f by omega]⟩
    · rename_i hb
      obtain ⟨i, h1, h2, h3, h4, h5, h6⟩ := bl_cons h
      refine ⟨i, by omega, by omega, h3, fun k k1 k2 => ?_, h5, by rw [h6]; congr 1; omega⟩
      by_cases e : k = j
      · subst e; simpa using hb
      · exact h4 k (by omega) k2
theorem bl_end {mask : Nat} : ∀ {f j : Nat}, bl mask f j = [] → ∀ k, j ≤ k → k < j + f → bt mask k = false
  | 0, _, _, k, h1, h2 => by omega
  | f + 1, j, h, k, h1, h2 => by
    unfold bl at h
    split at h
    · cases h
    · rename_i hb
      by_cases e : k = j
      · subst e; simpa using hb
      · exact bl_end h k (by omega) (by omega)
def clamp (n : Nat) (k : Int) : Nat := min (8 * n) k.toNat
theorem mid {l : List Nat} (h : l.length = 75) : l.take 6 ++ (l.drop 6).take 65 = l.take 71 := by
  rw [List.take_drop]
  have : l.take 6 = (l.take 71).take 6 := by rw [List.take_take]; rfl
  rw [this]
  exact List.take_append_drop 6 _
end Go.Proofs.Ytbgmbnikpjjmcaa.AM.P3
