/- Chapter 7, plain: slots' turns, and how great they are. -/
import Derived.Test.YtbgmbnikpjjmcaaP07b
set_option linter.unusedVariables false
set_option linter.unusedSimpArgs false
set_option linter.unusedSectionVars false
namespace Go.Proofs.Ytbgmbnikpjjmcaa.AM.C07
open Go Go.Proofs.Ytbgmbnikpjjmcaa.AM Go.Proofs.Ytbgmbnikpjjmcaa.AM.C02
structure Trn where
  slot : Int
  sends : List Snd
  copies : List Cpy
  pass : Bool
def trn0 : Trn := ⟨0, [], [], false⟩
def gt (l : List Trn) (i : Nat) : Trn := l.getD i trn0
def sP (l : List Snd) : Nat → Nat
  | 0 => 0
  | k + 1 => sP l k + 1 + (gs l k).bytes.length
def tP (l : List Trn) : Nat → Nat
  | 0 => 0
  | i + 1 => tP l i + 1 + (gt l i).copies.length + sP (gt l i).sends (gt l i).sends.length
theorem sP_le (l : List Snd) {k m : Nat} (h : k ≤ m) : sP l k ≤ sP l m := by
  induction m with
  | zero => obtain rfl : k = 0 := by omega
            exact Nat.le_refl _
  | succ m ih =>
    by_cases e : k = m + 1
    · subst e; exact Nat.le_refl _
    · have := ih (by omega)
      show _ ≤ sP l m + 1 + _
      omega
theorem tP_le (l : List Trn) {k m : Nat} (h : k ≤ m) : tP l k ≤ tP l m := by
  induction m with
  | zero => obtain rfl : k = 0 := by omega
            exact Nat.le_refl _
  | succ m ih =>
    by_cases e : k = m + 1
    · subst e; exact Nat.le_refl _
    · have := ih (by omega)
      show _ ≤ tP l m + 1 + _ + _
      omega
theorem len_sP (l : List Snd) : ∀ k, k ≤ sP l k
  | 0 => Nat.zero_le _
  | k + 1 => by have := len_sP l k; show k + 1 ≤ sP l k + 1 + _; omega
def TrR (N p : Nat) (H : Heap) (t : Trn) (cs : List Cell) : Prop :=
  ∃ a c o a2 c2 o2, cs = [.int .i64 t.slot, .sl a t.sends.length c o, .sl a2 t.copies.length c2 o2, .bool t.pass] ∧ Snds N p H a t.sends ∧ Tab 3 CpR N H a2 t.copies ∧ (∀ b x, a2 = some (b, x) → b ≠ p) ∧ i64 t.slot
theorem ldB_four {k : Option Blk} {o : Nat} {x y z w : Cell} (h : ldnB k o 4 = some [x, y, z, w]) : ldB k o = some x ∧ ldB k (o + 1) = some y ∧ ldB k (o + 2) = some z ∧ ldB k (o + 3) = some w := by
  match k, h with
  | some (.cells cs ro g), h =>
    have h : sub cs o 4 = some [x, y, z, w] := h
    unfold sub at h
    split at h
    · have e := Option.some.inj h
      have e0 : ((cs.drop o).take 4)[0]? = some x := by rw [e]; rfl
      have e1 : ((cs.drop o).take 4)[1]? = some y := by rw [e]; rfl
      have e2 : ((cs.drop o).take 4)[2]? = some z := by rw [e]; rfl
      have e3 : ((cs.drop o).take 4)[3]? = some w := by rw [e]; rfl
      simp at e0 e1 e2 e3
      exact ⟨by simpa [ldB] using e0, by simpa [ldB] using e1, by simpa [ldB] using e2, by simpa [ldB] using e3⟩
    · cases h
theorem turn_at {N p : Nat} {H : Heap} {a : Option Ad} {l : List Trn} (h : Tab 4 (TrR N p) N H a l) {i : Nat} (hi : i < l.length) :
    ∃ b y a1 c o a2 c2 o2, a = some (b, y) ∧ b < N ∧ ldnB H[b]? (y + i * 4) 4 = some [.int .i64 (gt l i).slot, .sl a1 (gt l i).sends.length c o, .sl a2 (gt l i).copies.length c2 o2, .bool (gt l i).pass] ∧ Snds N p H a1 (gt l i).sends ∧ Tab 3 CpR N H a2 (gt l i).copies ∧ (∀ b x, a2 = some (b, x) → b ≠ p) ∧ i64 (gt l i).slot := by
  obtain ⟨⟨b, y⟩, cs, e, h1, h2, a1, c, o, a2, c2, o2, rfl, h3, h4, h5, h6⟩ := h.at hi
  have eg : gt l i = l[i] := by simp [gt, hi]
  exact ⟨b, y, a1, c, o, a2, c2, o2, e, h1, by rw [eg]; exact h2, by rw [eg]; exact h3, by rw [eg]; exact h4, h5, by rw [eg]; exact h6⟩
end Go.Proofs.Ytbgmbnikpjjmcaa.AM.C07
