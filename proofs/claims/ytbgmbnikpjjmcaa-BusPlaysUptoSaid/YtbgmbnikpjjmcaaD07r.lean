/- What the functions of chapter 7 come to: lists of sends that grow. -/
import Derived.Test.YtbgmbnikpjjmcaaD07q
import Derived.Test.YtbgmbnikpjjmcaaP07e
set_option linter.unusedVariables false
set_option linter.unusedSimpArgs false
set_option linter.unusedSectionVars false
namespace Go.Proofs.Ytbgmbnikpjjmcaa.AM.D07
open Go Go.Proofs.Ytbgmbnikpjjmcaa.AM Go.Proofs.Ytbgmbnikpjjmcaa.AM.C02 Go.Proofs.Ytbgmbnikpjjmcaa.AM.C07
set_option maxHeartbeats 2000000
set_option maxRecDepth 100000
attribute [local go_sem] tn_add1 tn_sub1 put_all' nums_len
def GrS (lo N p : Nat) (H : Heap) (a : Option Ad) (n : Nat) (o : Bool) (l : List Snd) : Prop :=
  l.length = n ∧ ∃ rows, Gr lo H 2 a n o rows.flatten ∧ All2 (SnR N p H) l rows
theorem _root_.Go.Proofs.Ytbgmbnikpjjmcaa.AM.C07.SnR.keep {N p : Nat} {H H' : Heap} {s : Snd} {cs : List Cell} (h : SnR N p H s cs) (hx : ∀ b, b < N → H'[b]? = H[b]?) : SnR N p H' s cs := by
  obtain ⟨a, c, o, h1, h2, h3, h4⟩ := h
  exact ⟨a, c, o, h1, h2.keep fun b x e => hx b (h3 b x e).1, h3, h4⟩
theorem _root_.Go.Proofs.Ytbgmbnikpjjmcaa.AM.C07.SnR.len {N p : Nat} {H : Heap} {s : Snd} {cs : List Cell} (h : SnR N p H s cs) : cs.length = 2 := by
  obtain ⟨a, c, o, rfl, _⟩ := h; rfl
theorem GrS.nil (lo N p : Nat) (H : Heap) : GrS lo N p H none 0 false [] := ⟨rfl, [], Gr.none _ _ _, .nil⟩
theorem GrS.keep {lo N p : Nat} {H H' : Heap} {a : Option Ad} {n : Nat} {o : Bool} {l : List Snd} (h : GrS lo N p H a n o l) (hN : N ≤ H.length) (hx : ∀ b, b < H.length → H'[b]? = H[b]?) : GrS lo N p H' a n o l := by
  obtain ⟨h1, rows, h2, h3⟩ := h
  exact ⟨h1, rows, h2.keepX hx, h3.imp fun s r hr => hr.keep fun b hb => hx b (by omega)⟩
end Go.Proofs.Ytbgmbnikpjjmcaa.AM.D07
