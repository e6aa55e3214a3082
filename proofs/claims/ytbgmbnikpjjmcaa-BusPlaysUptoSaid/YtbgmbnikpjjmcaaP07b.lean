/- Chapter 7, plain: copies, and what each receives. -/
import Derived.Test.YtbgmbnikpjjmcaaP07
import Derived.Test.YtbgmbnikpjjmcaaP03
set_option linter.unusedVariables false
set_option linter.unusedSimpArgs false
set_option linter.unusedSectionVars false
namespace Go.Proofs.Ytbgmbnikpjjmcaa.AM.C07
open Go Go.Proofs.Ytbgmbnikpjjmcaa.AM Go.Proofs.Ytbgmbnikpjjmcaa.AM.C02
structure Cpy where
  kind : Int
  at_ : Int
  mask : Nat
def cpy0 : Cpy := ⟨0, 0, 0⟩
def gc (l : List Cpy) (i : Nat) : Cpy := l.getD i cpy0
abbrev Cpy.cells (c : Cpy) : List Cell := [.int .i64 c.kind, .int .i64 c.at_, .int .u32 (c.mask : Nat)]
def CpR (_ : Heap) (c : Cpy) (cs : List Cell) : Prop := cs = c.cells ∧ i64 c.kind ∧ i64 c.at_ ∧ c.mask < 4294967296
theorem copy_at {N : Nat} {H : Heap} {a : Option Ad} {l : List Cpy} (h : Tab 3 CpR N H a l) {i : Nat} (hi : i < l.length) :
    ∃ b y, a = some (b, y) ∧ b < N ∧ ldnB H[b]? (y + i * 3) 3 = some (gc l i).cells ∧ i64 (gc l i).kind ∧ i64 (gc l i).at_ ∧ (gc l i).mask < 4294967296 := by
  obtain ⟨⟨b, y⟩, cs, e, h1, h2, rfl, h4⟩ := h.at hi
  have eg : gc l i = l[i] := by simp [gc, hi]
  exact ⟨b, y, e, h1, by rw [eg]; exact h2, by rw [eg]; exact h4⟩
def cpF (ow : Int) (cps : List Cpy) (n : Nat) : Cpy := if n < cps.length ∧ (n : Int) ≠ ow then gc cps n else cpy0
theorem cpF_ok {N : Nat} {H : Heap} {a : Option Ad} {l : List Cpy} (h : Tab 3 CpR N H a l) (ow : Int) (i : Nat) : i64 (cpF ow l i).at_ ∧ (cpF ow l i).mask < 4294967296 := by
  unfold cpF
  split
  · rename_i hi
    obtain ⟨_, _, _, _, _, _, h1, h2⟩ := copy_at h hi.1
    exact ⟨h1, h2⟩
  · exact ⟨⟨by decide, by decide⟩, by decide⟩
def becomes (c : Cpy) (l : List Nat) : Option (List Nat) := if c.kind = 1 then none else if c.kind = 2 then some (P3.corr l c.at_ c.mask) else some l
def nilC : Cell := .sl none 0 0 false
def Slot (H : Heap) (lo bo : Nat) (x : Option Cell) : Option (List Nat) → Prop
  | none => x = some nilC
  | some l => ∃ e c o g, x = some (.sl (some (e, 0)) l.length c o) ∧ lo ≤ e ∧ e ≠ bo ∧ H[e]? = some (.cells (nats .u8 l) false g) ∧ ∀ y ∈ l, y < 256
def Outs (H : Heap) (lo bo m : Nat) (f : Nat → Option (List Nat)) : Prop :=
  ∃ cells, H[bo]? = some (.cells cells false none) ∧ cells.length = m ∧ ∀ j, j < m → Slot H lo bo cells[j]? (f j)
theorem Slot.keep {H H' : Heap} {lo bo : Nat} {x : Option Cell} {r : Option (List Nat)} (h : Slot H lo bo x r) (hx : ∀ b, lo ≤ b → b < H.length → b ≠ bo → H'[b]? = H[b]?) : Slot H' lo bo x r := by
  cases r with
  | none => exact h
  | some l =>
    obtain ⟨e, c, o, g, h1, h2, h3, h4, h5⟩ := h
    exact ⟨e, c, o, g, h1, h2, h3, by rw [hx e h2 (lt_of_get h4) h3]; exact h4, h5⟩
theorem Outs.keep {H H' : Heap} {lo bo m : Nat} {f : Nat → Option (List Nat)} (h : Outs H lo bo m f) (hl : lo ≤ bo) (hx : ∀ b, lo ≤ b → b < H.length → H'[b]? = H[b]?) : Outs H' lo bo m f := by
  obtain ⟨cells, h1, h2, h3⟩ := h
  exact ⟨cells, by rw [hx bo hl (lt_of_get h1)]; exact h1, h2, fun j hj => (h3 j hj).keep fun b hb hb' _ => hx b hb hb'⟩
theorem Outs.same {H : Heap} {lo bo m : Nat} {f g : Nat → Option (List Nat)} (h : Outs H lo bo m f) (e : ∀ j, j < m → f j = g j) : Outs H lo bo m g := by
  obtain ⟨cells, h1, h2, h3⟩ := h
  exact ⟨cells, h1, h2, fun j hj => by rw [← e j hj]; exact h3 j hj⟩
theorem Outs.put {H H' : Heap} {lo bo m i : Nat} {f : Nat → Option (List Nat)} {cells : List Cell} {l : List Nat} {e c n : Nat} {o : Bool} {g : Option Nat} (h2 : cells.length = m) (h3 : ∀ j, j < m → Slot H lo bo cells[j]? (f j)) (hi : i < m)
    (he : lo ≤ e) (heb : e ≠ bo) (hg : H[e]? = some (.cells (nats .u8 l) false g)) (hn : l.length = n) (hby : ∀ y ∈ l, y < 256) (hb : H'[bo]? = some (.cells (cells.set i (.sl (some (e, 0)) n c o)) false none)) (hx : ∀ b, b ≠ bo → H'[b]? = H[b]?) :
    Outs H' lo bo m (fun j => if j = i then some l else f j) := by
  refine ⟨_, hb, by rw [List.length_set, h2], fun j hj => ?_⟩
  show Slot _ lo bo _ (if j = i then some l else f j)
  by_cases hji : j = i
  · subst hji
    rw [if_pos rfl, List.getElem?_set_self (by omega)]
    exact ⟨e, c, o, g, by rw [hn], he, heb, by rw [hx e heb]; exact hg, hby⟩
  · rw [if_neg hji, List.getElem?_set_ne (Ne.symm hji)]
    exact (h3 j hj).keep fun b _ _ hb => hx b hb
end Go.Proofs.Ytbgmbnikpjjmcaa.AM.C07
