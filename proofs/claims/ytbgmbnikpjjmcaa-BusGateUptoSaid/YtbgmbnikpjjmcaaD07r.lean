/- What the functions of chapter 7 come to: lists of sends that grow. -/
import Derived.Test.YtbgmbnikpjjmcaaD07q
import Derived.Test.YtbgmbnikpjjmcaaP07e
set_option linter.unusedVariables false
set_option linter.unusedSimpArgs false
set_option linter.unusedSectionVars false
namespace Go.Proofs.Ytbgmbnikpjjmcaa.AM.D07
open Go Go.Proofs.Ytbgmbnikpjjmcaa.AM Go.Proofs.Ytbgmbnikpjjmcaa.AM.C02 Go.Proofs.Ytbgmbnikpjjmcaa.AM.C07
set_option maxHeartbeats 2000000
set_option maxRecDepth 100000
attribute [local go_sem] tn_add1 tn_sub1 put_all' nums_len
def GrS (lo N p : Nat) (H : Heap) (a : Option Ad) (n : Nat) (o : Bool) (l : List Snd) : Prop :=
  l.length = n ∧ ∃ rows, Gr lo H 2 a n o rows.flatten ∧ All2 (SnR N p H) l rows
theorem _root_.Go.Proofs.Ytbgmbnikpjjmcaa.AM.C07.SnR.keep {N p : Nat} {H H' : Heap} {s : Snd} {cs : List Cell} (h : SnR N p H s cs) (hx : ∀ b, b < N → H'[b]? = H[b]?) : SnR N p H' s cs := by
  obtain ⟨a, c, o, h1, h2, h3, h4⟩ := h
  exact ⟨a, c, o, h1, h2.keep fun b x e => hx b (h3 b x e).1, h3, h4⟩
theorem _root_.Go.Proofs.Ytbgmbnikpjjmcaa.AM.C07.SnR.len {N p : Nat} {H : Heap} {s : Snd} {cs : List Cell} (h : SnR N p H s cs) : cs.length = 2 := by
  obtain ⟨a, c, o, rfl, _⟩ := h; rfl
theorem GrS.nil (lo N p : Nat) (H : Heap) : GrS lo N p H none 0 false [] := ⟨rfl, [], Gr.none _ _ _, .nil⟩
theorem GrS.keep {lo N p : Nat} {H H' : Heap} {a : Option Ad} {n : Nat} {o : Bool} {l : List Snd} (h : GrS lo N p H a n o l) (hN : N ≤ H.length) (hx : ∀ b, b < H.length → H'[b]? = H[b]?) : GrS lo N p H' a n o l := by
  obtain ⟨h1, rows, h2, h3⟩ := h
  exact ⟨h1, rows, h2.keepX hx, h3.imp fun s r hr => hr.keep fun b hb => hx b (by omega)⟩
theorem all2_len2 {N p : Nat} {H : Heap} {l : List Snd} {rows : List (List Cell)} (h : All2 (SnR N p H) l rows) : ∀ r ∈ rows, r.length = 2 := by
  induction h with
  | nil => intro r hr; cases hr
  | cons h _ ih =>
    intro r hr
    rcases List.mem_cons.1 hr with rfl | hr
    · exact h.len
    · exact ih r hr
theorem GrS.snds {lo N p : Nat} {H : Heap} {a : Option Ad} {n : Nat} {o : Bool} {l : List Snd} (h : GrS lo N p H a n o l) (hp : p < lo) (hN : N ≤ H.length) : Snds H.length p H a l := by
  obtain ⟨h1, rows, h2, h3⟩ := h
  refine ⟨fun i e he => ?_, fun b x e => by have := (h2.lt _ e).1; simp only at this; omega⟩
  have hi : i < l.length := (List.getElem?_eq_some_iff.1 he).1
  obtain ⟨b, rfl, -, k1, k2, k3⟩ := h2.blk (by omega)
  have hr : i < rows.length := by rw [← h3.length]; exact hi
  obtain ⟨r, hri, hs⟩ := h3.get he
  obtain ⟨h4, h5⟩ := sub_rows (all2_len2 h3) hri
  refine ⟨(b, 0), r, rfl, k2, ?_, ?_⟩
  · show ldnB H[b]? (0 + i * 2) 2 = _
    rw [k3, ldnB_some, Nat.zero_add]
    unfold sub
    rw [if_pos (by omega), h5]
  · obtain ⟨a, c, o, q1, q2, q3, q4⟩ := hs
    exact ⟨a, c, o, q1, q2, fun b x e => ⟨by have := (q3 b x e).1; omega, (q3 b x e).2⟩, q4⟩
theorem outM_pushS {H : Heap} {k : V → Heap → Prop} {lo N p n b : Nat} {a : Option Ad} {o : Bool} {l : List Snd} {s : Snd} {cs : List Cell} (h : GrS lo N p H a n o l) (hlo : lo ≤ H.length) (hN : N ≤ lo) (hb : H[b]? = some (.cells cs false none)) (hs : SnR N p H s cs) (hn : n ≤ 1000000000)
    (hq : ∀ a' H', GrS lo N p H' a' (n + 1) true (l ++ [s]) → H.length < H'.length → (∀ c, c < lo → H'[c]? = H[c]?) → k (.c (.sl a' (n + 1) (n + 1) true)) H') :
    outM F (appO 2 32 (.c (.sl a n n o)) (.c (.sl (some (b, 0)) 1 1 false)) H) k ⟨⟩ := by
  obtain ⟨h1, rows, h2, h3⟩ := h
  refine outM_appG h2 hlo (Sl.blk2 hb (by rw [hs.len])) (by omega) (by omega) fun a' H' q1 q2 q3 _ _ => ?_
  refine hq a' H' ⟨by rw [List.length_append, h1]; rfl, rows ++ [cs], by rw [List.flatten_append, List.flatten_singleton]; exact q1, ?_⟩ q2 q3
  exact (h3.imp fun s r hr => hr.keep fun b hb => q3 b (by omega)).append (.cons (hs.keep fun b hb => q3 b (by omega)) .nil)
end Go.Proofs.Ytbgmbnikpjjmcaa.AM.D07
