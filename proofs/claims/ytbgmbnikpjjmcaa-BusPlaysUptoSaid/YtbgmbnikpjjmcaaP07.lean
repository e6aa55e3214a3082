/- Chapter 7, plain: what is sent, whose the slot is. -/
import Derived.Test.YtbgmbnikpjjmcaaP02
set_option linter.unusedVariables false
set_option linter.unusedSimpArgs false
set_option linter.unusedSectionVars false
namespace Go.Proofs.Ytbgmbnikpjjmcaa.AM.C07
open Go Go.Proofs.Ytbgmbnikpjjmcaa.AM Go.Proofs.Ytbgmbnikpjjmcaa.AM.C02
structure Snd where
  node : Int
  bytes : List Nat
def snd0 : Snd := ⟨0, []⟩
def gs (l : List Snd) (i : Nat) : Snd := l.getD i snd0
def SnR (N p : Nat) (H : Heap) (s : Snd) (cs : List Cell) : Prop :=
  ∃ a c o, cs = [.int .i64 s.node, .sl a s.bytes.length c o] ∧ Sl H 1 a s.bytes.length (nats .u8 s.bytes) ∧ (∀ b x, a = some (b, x) → b < N ∧ b ≠ p) ∧ i64 s.node ∧ ∀ x ∈ s.bytes, x < 256
def ownF (ws : List Int) (slot : Int) : Int := if slot < 0 ∨ ws.length = 0 then -1 else gn ws (slot.toNat % ws.length)
def fstP (o : Int) (l : List Snd) (i : Nat) : Prop := i < l.length ∧ 0 ≤ o ∧ (gs l i).node = o ∧ ∀ j, j < i → (gs l j).node ≠ o
def noneP (o : Int) (l : List Snd) : Prop := ∀ j, j < l.length → 0 ≤ o → (gs l j).node ≠ o
theorem ldB_two {k : Option Blk} {o : Nat} {x y : Cell} (h : ldnB k o 2 = some [x, y]) : ldB k o = some x ∧ ldB k (o + 1) = some y := by
  match k, h with
  | some (.cells cs ro g), h =>
    have h : sub cs o 2 = some [x, y] := h
    unfold sub at h
    split at h
    · have e := Option.some.inj h
      have e0 : ((cs.drop o).take 2)[0]? = some x := by rw [e]; rfl
      have e1 : ((cs.drop o).take 2)[1]? = some y := by rw [e]; rfl
      simp at e0 e1
      exact ⟨by simpa [ldB] using e0, by simpa [ldB] using e1⟩
    · cases h
def Snds (N p : Nat) (H : Heap) (a : Option Ad) (l : List Snd) : Prop := Tab 2 (SnR N p) N H a l ∧ ∀ b x, a = some (b, x) → b ≠ p
theorem Snds.keep {N p : Nat} {H H' : Heap} {a : Option Ad} {l : List Snd} (h : Snds N p H a l) (hx : ∀ b, b < N → b ≠ p → H'[b]? = H[b]?) : Snds N p H' a l := by
  refine ⟨fun i e he => ?_, h.2⟩
  obtain ⟨⟨b, y⟩, cs, rfl, h1, h2, a', c, o, rfl, h3, h4, h5, h6⟩ := h.1 i e he
  exact ⟨(b, y), _, rfl, h1, by rw [hx _ h1 (h.2 _ _ rfl)]; exact h2, a', c, o, rfl, h3.keep fun b x e => hx b (h4 b x e).1 (h4 b x e).2, h4, h5, h6⟩
theorem send_at {N p : Nat} {H : Heap} {a : Option Ad} {l : List Snd} (h : Snds N p H a l) {i : Nat} (hi : i < l.length) :
    ∃ b y a' c o, a = some (b, y) ∧ b < N ∧ b ≠ p ∧ ldnB H[b]? (y + i * 2) 2 = some [.int .i64 (gs l i).node, .sl a' (gs l i).bytes.length c o] ∧ Sl H 1 a' (gs l i).bytes.length (nats .u8 (gs l i).bytes) ∧ (∀ b x, a' = some (b, x) → b < N ∧ b ≠ p) ∧ i64 (gs l i).node ∧ ∀ x ∈ (gs l i).bytes, x < 256 := by
  obtain ⟨⟨b, y⟩, cs, e, h1, h2, a', c, o, rfl, h3, h4, h5, h6⟩ := h.1.at hi
  have eg : gs l i = l[i] := by simp [gs, hi]
  exact ⟨b, y, a', c, o, e, h1, h.2 _ _ e, by rw [eg]; exact h2, by rw [eg]; exact h3, h4, by rw [eg]; exact h5, by rw [eg]; exact h6⟩
def BusM (H : Heap) (p : Nat) (a : Option Ad) (c : Nat) (o : Bool) (ws : List Int) (bl pa : Nat) : Prop :=
  H[p]? = some (.cells [.sl a ws.length c o, .int .u64 (bl : Nat), .int .u64 (pa : Nat)] false none) ∧ Sl H 1 a ws.length (nums ws) ∧ (∀ b x, a = some (b, x) → b ≠ p)
end Go.Proofs.Ytbgmbnikpjjmcaa.AM.C07
