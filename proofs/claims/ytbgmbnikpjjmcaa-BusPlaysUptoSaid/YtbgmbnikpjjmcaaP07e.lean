/- Chapter 7, plain: arguments as slots' turns, and how great they are. -/
import Derived.Test.YtbgmbnikpjjmcaaP07d
import Derived.Test.YtbgmbnikpjjmcaaA4
set_option linter.unusedVariables false
set_option linter.unusedSimpArgs false
set_option linter.unusedSectionVars false
namespace Go.Proofs.Ytbgmbnikpjjmcaa.AM.C07
open Go Go.Proofs.Ytbgmbnikpjjmcaa.AM Go.Proofs.Ytbgmbnikpjjmcaa.AM.C02
abbrev Snd.T : Ty := .pair I (.pair (.sl (.int .u8)) .unit)
abbrev Cpy.T : Ty := .pair I (.pair I (.pair (.int .u32) .unit))
abbrev Trn.T : Ty := .pair I (.pair (.sl Snd.T) (.pair (.sl Cpy.T) (.pair .bool .unit)))
def wS (s : Snd) : Nat := 1 + s.bytes.length
def wT (t : Trn) : Nat := 1 + t.copies.length + (t.sends.map wS).sum
theorem SnR.to {N p q : Nat} {H : Heap} {s : Snd} {cs : List Cell} (hp : N ≤ p) (h : SnR N q H s cs) : SnR N p H s cs := by
  obtain ⟨a, c, o, h1, h2, h3, h4⟩ := h
  exact ⟨a, c, o, h1, h2, fun b y e => by have := (h3 b y e).1; exact ⟨this, by omega⟩, h4⟩
theorem tab_imp {α : Type} {sz : Nat} {R R' : Heap → α → List Cell → Prop} {N : Nat} {H : Heap} {a : Option Ad} {l : List α} (h : Tab sz R N H a l) (hR : ∀ e cs, R H e cs → R' H e cs) : Tab sz R' N H a l := fun i e he => by
  obtain ⟨a', cs, e1, h1, h2, h3⟩ := h i e he
  exact ⟨a', cs, e1, h1, h2, hR _ _ h3⟩
theorem tab_mono {α : Type} {sz : Nat} {R : Heap → α → List Cell → Prop} {N N' : Nat} {H : Heap} {a : Option Ad} {l : List α} (h : Tab sz R N H a l) (hN : N ≤ N') : Tab sz R N' H a l := fun i e he => by
  obtain ⟨a', cs, e1, h1, h2, h3⟩ := h i e he
  exact ⟨a', cs, e1, by omega, h2, h3⟩
theorem Snds.mono {N N' p : Nat} {H : Heap} {a : Option Ad} {l : List Snd} (h : Snds N p H a l) (hN : N ≤ N') : Snds N' p H a l := by
  refine ⟨tab_imp (tab_mono h.1 hN) fun e cs hr => ?_, h.2⟩
  obtain ⟨a, c, o, h1, h2, h3, h4⟩ := hr
  exact ⟨a, c, o, h1, h2, fun b y e => ⟨by have := (h3 b y e).1; omega, (h3 b y e).2⟩, h4⟩
theorem snd_row {H : Heap} {x : Snd.T.D} {cs : List Cell} (h : Vw Snd.T H x cs) : ∃ e, SnR H.length H.length H e cs ∧ wS e ≤ wt Snd.T x := by
  obtain ⟨_, _, rfl, ⟨rfl, w1⟩, _, _, rfl, h2, rfl⟩ := h
  obtain ⟨a, c, l, rfl, h3, h4, h5, h6, h7⟩ := Vw.nats rfl h2
  refine ⟨⟨x.1, l⟩, ⟨a, c, false, rfl, h3, fun b y e => ?_, wf_i64 w1, h6⟩, ?_⟩
  · have := h3.lt e; exact ⟨this, by omega⟩
  · show 1 + l.length ≤ 1 + (wt (.sl (.int .u8)) x.2.1 + 0)
    rw [h7]; omega
theorem cpy_row {H : Heap} {x : Cpy.T.D} {cs : List Cell} (h : Vw Cpy.T H x cs) : ∃ e, CpR H e cs ∧ 1 ≤ wt Cpy.T x := by
  obtain ⟨_, _, rfl, ⟨rfl, w1⟩, _, _, rfl, ⟨rfl, w2⟩, _, _, rfl, ⟨rfl, w3⟩, rfl⟩ := h
  obtain ⟨m, e, hm⟩ := wf_u rfl w3
  refine ⟨⟨x.1, x.2.1, m⟩, ⟨?_, wf_i64 w1, wf_i64 w2, hm⟩, ?_⟩
  · show [Cell.int .i64 x.1, .int .i64 x.2.1, .int .u32 x.2.2.1] = _
    rw [e]
  · show 1 ≤ 1 + _
    omega
theorem len_sum {α : Type} (l : List α) : (l.map fun _ => 1).sum = l.length := by
  induction l with
  | nil => rfl
  | cons x l ih => simp only [List.map_cons, List.sum_cons, ih, List.length_cons]; omega
theorem vw_sl_lt {T : Ty} {H : Heap} {x : (Ty.sl T).D} {a : Option Ad} {n c : Nat} {o : Bool} (h : Vw (.sl T) H x [.sl a n c o]) {b y : Nat} (e : a = some (b, y)) : b < H.length := by
  obtain ⟨a', c', hcs, -, -, h4⟩ := h
  injection hcs with hcs _
  injection hcs with e1 e2 _
  subst e1
  rcases h4 with ⟨h4, _⟩ | ⟨b', rows, h4, h5, _⟩
  · rw [h4] at e; cases e
  · rw [h4] at e; cases e; exact lt_of_get h5
theorem trn_row {H : Heap} {x : Trn.T.D} {cs : List Cell} (h : Vw Trn.T H x cs) : ∃ e, (∀ p, H.length ≤ p → TrR H.length p H e cs) ∧ wT e ≤ wt Trn.T x := by
  obtain ⟨_, _, rfl, ⟨rfl, w1⟩, _, _, rfl, h2, _, _, rfl, h3, _, _, rfl, rfl, rfl⟩ := h
  obtain ⟨a, c, l, rfl, k1, k2, k3, k4⟩ := Vw.tabW (R := SnR H.length H.length) (S := fun x e => wS e ≤ wt Snd.T x) (fun _ _ => snd_row) h2
  obtain ⟨a2, c2, l2, rfl, q1, q2, q3, q4⟩ := Vw.tabW (R := CpR) (S := fun x _ => 1 ≤ wt Cpy.T x) (fun _ _ => cpy_row) h3
  refine ⟨⟨x.1, l, l2, x.2.2.2.1⟩, fun p hp => ⟨a, c, false, a2, c2, false, rfl, ⟨tab_imp k3 fun e cs h => h.to hp, fun b y e => ?_⟩, q3, fun b y e => ?_, wf_i64 w1⟩, ?_⟩
  · have := vw_sl_lt h2 e; omega
  · have := vw_sl_lt h3 e; omega
  · have s1 := all2_wt k4
    have s2 := all2_wt (f := fun _ => 1) q4
    rw [len_sum] at s2
    show 1 + l2.length + (l.map wS).sum ≤ 1 + (1 + _ + (1 + _ + (1 + 0)))
    omega
theorem sP_sum (l : List Snd) : sP l l.length = (l.map wS).sum := by
  have gen : ∀ k, k ≤ l.length → sP l k = ((l.take k).map wS).sum := fun k => by
    induction k with
    | zero => intro _; rfl
    | succ k ih =>
      intro hk
      have e : gs l k = l[k] := by simp [gs, show k < l.length by omega]
      show sP l k + 1 + (gs l k).bytes.length = _
      rw [ih (by omega), List.take_succ_eq_append_getElem (by omega), List.map_append, List.sum_append, e]
      show _ = _ + (1 + (l[k]).bytes.length + 0)
      omega
  have := gen l.length (Nat.le_refl _)
  rwa [List.take_length] at this
theorem tP_sum (l : List Trn) : tP l l.length = (l.map wT).sum := by
  have gen : ∀ k, k ≤ l.length → tP l k = ((l.take k).map wT).sum := fun k => by
    induction k with
    | zero => intro _; rfl
    | succ k ih =>
      intro hk
      have e : gt l k = l[k] := by simp [gt, show k < l.length by omega]
      show tP l k + 1 + (gt l k).copies.length + sP (gt l k).sends (gt l k).sends.length = _
      rw [ih (by omega), List.take_succ_eq_append_getElem (by omega), List.map_append, List.sum_append, e, sP_sum]
      show _ = _ + (1 + (l[k]).copies.length + _ + 0)
      omega
  have := gen l.length (Nat.le_refl _)
  rwa [List.take_length] at this
theorem sP_at {l : List Snd} {k m : Nat} (h : k < m) : 1 + (gs l k).bytes.length ≤ sP l m := by
  have h1 := sP_le l (show k + 1 ≤ m by omega)
  have h2 : sP l (k + 1) = sP l k + 1 + (gs l k).bytes.length := rfl
  omega
end Go.Proofs.Ytbgmbnikpjjmcaa.AM.C07
