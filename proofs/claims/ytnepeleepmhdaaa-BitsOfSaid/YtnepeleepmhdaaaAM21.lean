/- AM, twenty-first text: memory that grows; whole numbers that do not wrap. -/
import Derived.Test.YtnepeleepmhdaaaAM20
import Derived.Laws.BitsLemmas
set_option linter.unusedVariables false
set_option linter.unusedSimpArgs false
namespace Go.Proofs.Ytnepeleepmhdaaa.AM
open Go

theorem addA_mk (b o i : Nat) : addA (b, o) i = (b, o + i) := rfl
section
variable {H J : Heap} {b o n : Nat} {cs xs : List Cell} {ro : Bool} {gr : Option Nat}
theorem lt_of_get {x : Blk} (h : H[b]? = some x) : b < H.length := (List.getElem?_eq_some_iff.1 h).1
theorem cells_of (h : H[b]? = some (.cells cs ro gr)) : H.cells b = some cs := by simp [Heap.cells, h]
theorem ld_of (h : H[b]? = some (.cells cs ro gr)) (i : Nat) : H.ld (b, i) = cs[i]? := by simp [Heap.ld, cells_of h]
theorem ldn_of (h : H[b]? = some (.cells cs ro gr)) (o n : Nat) : H.ldn (b, o) n = sub cs o n := by simp [Heap.ldn, cells_of h]
theorem ldn_all (h : H[b]? = some (.cells cs ro gr)) : H.ldn (b, 0) cs.length = some cs := by rw [ldn_of h]; simp [sub]
theorem st_of (h : H[b]? = some (.cells cs false gr)) (hl : o + xs.length ≤ cs.length) : H.st (b, o) xs = some (H.set b (.cells (put cs o xs) false gr)) := by simp [Heap.st, h, hl]
theorem st_one (h : H[b]? = some (.cells cs false gr)) (c : Cell) (hl : o < cs.length) : H.st (b, o) [c] = some (H.set b (.cells (cs.set o c) false gr)) := by
  rw [st_of h (by simp; omega)]; rfl
theorem get_last (x : Blk) : (H ++ [x])[H.length]? = some x := by simp
theorem get_app (J : Heap) (h : b < H.length) : (H ++ J)[b]? = H[b]? := List.getElem?_append_left h
theorem set_last (x y : Blk) : (H ++ [x]).set H.length y = H ++ [y] := by simp
theorem ldn_lt {a : Ad} (h : H.ldn a n = some xs) : a.1 < H.length := by
  unfold Heap.ldn Heap.cells at h
  cases e : H[a.1]? with
  | none => simp [e] at h
  | some x => exact lt_of_get e
theorem ldn_app (J : Heap) {a : Ad} (h : a.1 < H.length) : (H ++ J).ldn a n = H.ldn a n := by simp only [Heap.ldn, Heap.cells, get_app J h]
theorem ld_app (J : Heap) {a : Ad} (h : a.1 < H.length) : (H ++ J).ld a = H.ld a := by simp only [Heap.ld, Heap.cells, get_app J h]
theorem Sl.app {sz : Nat} {a : Option Ad} (h : Sl H sz a n xs) (J : Heap) : Sl (H ++ J) sz a n xs :=
  ⟨h.len, h.nil, fun a' e => by have := h.rd a' e; rw [ldn_app J (ldn_lt this), this]⟩
/-- A slice of a whole block. -/
theorem Sl.whole (h : H[b]? = some (.cells cs ro gr)) : Sl H 1 (some (b, 0)) cs.length cs :=
  ⟨by simp, by simp [okA], fun a' e => by cases e; rw [Nat.mul_one]; exact ldn_all h⟩
theorem Sl.none (H : Heap) (sz : Nat) : Sl H sz none 0 [] := ⟨by simp, by simp [okA], fun a' e => by cases e⟩
/-- A slice's first part. -/
theorem Sl.first {a : Option Ad} (h : Sl H 1 a n xs) {k : Nat} (hk : k ≤ n) : Sl H 1 a k (xs.take k) := by
  have hl := h.len
  rw [Nat.mul_one] at hl
  refine ⟨by simp [hl]; omega, fun e => by have := h.nil e; omega, fun a' e => ?_⟩
  have := h.rd a' e
  rw [Nat.mul_one] at this ⊢
  unfold Heap.ldn at this ⊢
  obtain ⟨cs, hc, hs⟩ := Option.bind_eq_some_iff.1 this
  rw [hc, Option.bind_some]
  unfold sub at hs ⊢
  split at hs
  · cases hs
    rw [if_pos (by omega), List.take_take, Nat.min_eq_left hk]
  · cases hs
end

theorem wrap_i64 {x : Int} (h0 : -9223372036854775808 ≤ x) (h1 : x < 9223372036854775808) : IntKind.i64.wrap x = x := by rw [IntKind.wrap_i64]; omega
theorem wrap_u64 {x : Int} (h0 : 0 ≤ x) (h1 : x < 18446744073709551616) : IntKind.u64.wrap x = x := by
  simp [IntKind.wrap, IntKind.bits, IntKind.signed]; omega
theorem or_u64 {a b : Nat} (ha : a < 2 ^ 64) (hb : b < 2 ^ 64) : bits .or .u64 a b = ((a ||| b : Nat) : Int) :=
  (bits_nat .u64 64 (by decide) (fun n h0 h1 => wrap_u64 h0 (by simpa using h1)) a b ha hb).2
theorem and_u64 {a b : Nat} (ha : a < 2 ^ 64) (hb : b < 2 ^ 64) : bits .and .u64 a b = ((a &&& b : Nat) : Int) :=
  (bits_nat .u64 64 (by decide) (fun n h0 h1 => wrap_u64 h0 (by simpa using h1)) a b ha hb).1
end Go.Proofs.Ytnepeleepmhdaaa.AM
