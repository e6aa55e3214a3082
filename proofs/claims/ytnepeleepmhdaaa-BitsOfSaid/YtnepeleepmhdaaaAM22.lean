/- AM, twenty-second text: slices that are one's own, and grow. -/
import Derived.Test.YtnepeleepmhdaaaAM21
set_option linter.unusedVariables false
set_option linter.unusedSimpArgs false
namespace Go.Proofs.Ytnepeleepmhdaaa.AM
open Go

/-- A slice that was grown from none by append: nobody else has it. -/
def Own (H : Heap) (sz : Nat) (a : Option Ad) (n c : Nat) (o : Bool) (xs : List Cell) : Prop :=
  (a = none ∧ n = 0 ∧ c = 0 ∧ o = false ∧ xs = []) ∨ ∃ b, a = some (b, 0) ∧ c = n ∧ o = true ∧ xs.length = n * sz ∧ H[b]? = some (.cells xs false (some sz))
/-- Memory has grown; a slice's block may have gone. -/
def Grown (H : Heap) (a : Option Ad) (H' : Heap) : Prop := H.length ≤ H'.length ∧ ∀ b, b < H.length → (∀ a', a = some a' → b ≠ a'.1) → H'[b]? = H[b]?
theorem Own.none (H : Heap) (sz : Nat) : Own H sz none 0 0 false [] := .inl ⟨rfl, rfl, rfl, rfl, rfl⟩
theorem Own.sl {H : Heap} {sz : Nat} {a : Option Ad} {n c : Nat} {o : Bool} {xs : List Cell} (h : Own H sz a n c o xs) : Sl H sz a n xs := by
  rcases h with ⟨rfl, rfl, rfl, rfl, rfl⟩ | ⟨b, rfl, rfl, rfl, hl, hb⟩
  · exact Sl.none H sz
  · exact ⟨hl, by simp [okA], fun a' e => by cases e; rw [← hl]; exact ldn_all hb⟩
theorem Own.le {H : Heap} {sz : Nat} {a : Option Ad} {n c : Nat} {o : Bool} {xs : List Cell} (h : Own H sz a n c o xs) : c = n := by
  rcases h with ⟨rfl, rfl, rfl, rfl, rfl⟩ | ⟨b, rfl, rfl, rfl, hl, hb⟩ <;> rfl
theorem Own.keep {H H' : Heap} {sz : Nat} {a : Option Ad} {n c : Nat} {o : Bool} {xs : List Cell} (h : Own H sz a n c o xs) (hk : ∀ b x, a = some (b, x) → H'[b]? = H[b]?) : Own H' sz a n c o xs := by
  rcases h with h | ⟨b, e, h1, h2, hl, hb⟩
  · exact .inl h
  · exact .inr ⟨b, e, h1, h2, hl, (hk b 0 e).trans hb⟩
theorem Sl.keep {H H' : Heap} {sz : Nat} {a : Option Ad} {n : Nat} {xs : List Cell} (h : Sl H sz a n xs) (hk : ∀ b x, a = some (b, x) → H'[b]? = H[b]?) : Sl H' sz a n xs :=
  ⟨h.len, h.nil, fun a' e => by rw [← h.rd a' e]; simp only [Heap.ldn, Heap.cells, hk a'.1 a'.2 e]⟩
theorem Sl.lt {H : Heap} {sz : Nat} {a : Option Ad} {n : Nat} {xs : List Cell} (h : Sl H sz a n xs) {b x : Nat} (e : a = some (b, x)) : b < H.length := ldn_lt (h.rd _ e)
theorem Own.lt {H : Heap} {sz : Nat} {a : Option Ad} {n c : Nat} {o : Bool} {xs : List Cell} (h : Own H sz a n c o xs) {b x : Nat} (e : a = some (b, x)) : b < H.length := h.sl.lt e
theorem Grown.refl (H : Heap) (a : Option Ad) : Grown H a H := ⟨Nat.le_refl _, fun _ _ _ => rfl⟩
theorem Grown.app (H J : Heap) (a : Option Ad) : Grown H a (H ++ J) := ⟨by simp, fun b hb _ => get_app J hb⟩

/-- What is put to one's own slice. -/
theorem appH_own {H : Heap} {sz by_ : Nat} {a : Option Ad} {n c : Nat} {o : Bool} {xs ys : List Cell} {k : Nat} (h : Own H sz a n c o xs) (hk : ys.length = k * sz) (hm : (n + k) * (by_ + 1) ≤ most) :
    ∃ a' c' o' H', appH H sz by_ a n c o k ys = some (.v (.c (.sl a' (n + k) c' o')), H') ∧ Own H' sz a' (n + k) c' o' (xs ++ ys) ∧ Grown H a H' ∧ (a' = a ∨ ∃ b, a' = some (b, 0) ∧ H.length ≤ b) := by
  by_cases h0 : k = 0
  · subst h0
    have : ys = [] := by simpa using hk
    subst this
    have hc := h.le
    refine ⟨a, c, o, H, ?_, by simpa using h, Grown.refl _ _, .inl rfl⟩
    unfold appH
    rw [if_pos (by omega)]
    cases a <;> simp
  · have hnc : ¬ n + k ≤ c := by have := h.le; omega
    rcases h with ⟨rfl, rfl, rfl, rfl, rfl⟩ | ⟨b, rfl, rfl, rfl, hl, hb⟩
    · refine ⟨some (H.length, 0), k, true, H ++ [.cells ys false (some sz)], ?_, .inr ⟨H.length, rfl, by omega, rfl, by simpa using hk, by simp⟩, Grown.app _ _ _, .inr ⟨_, rfl, Nat.le_refl _⟩⟩
      unfold appH
      rw [if_neg hnc, if_neg (by omega)]
      simp
    · have hlt := lt_of_get hb
      refine ⟨some (H.length, 0), c + k, true, (H.set b .dead) ++ [.cells (xs ++ ys) false (some sz)], ?_, .inr ⟨H.length, rfl, rfl, rfl, by simp [hl, hk, Nat.add_mul], ?_⟩, ⟨by simp, ?_⟩, .inr ⟨_, rfl, Nat.le_refl _⟩⟩
      · unfold appH
        rw [if_neg hnc, if_neg (by omega)]
        have e : H.ldn (b, 0) (c * sz) = some xs := by rw [← hl]; exact ldn_all hb
        simp only [e, Option.bind_some, if_true, hb, Nat.zero_add, hl, and_self]
      · have : H.length = (H.set b .dead).length := by simp
        rw [this]; exact get_last _
      · intro b' hb' hne
        have := hne _ rfl
        rw [get_app _ (by simpa using hb'), List.getElem?_set_ne (by omega)]

theorem fillB_one (cs : List Cell) (o : Nat) (c : Cell) (r : List (Nat × Nat × V)) : fillB cs ((o, 1, .c c) :: r) = if o + 1 ≤ cs.length then fillB (cs.set o c) r else none := by
  simp [fillB, V.cells, put]
/-- A part of a slice. -/
def slSO (sz : Nat) (x : V) (lo hi mx : Option V) : Option V :=
  match x with
  | .c (.sl a n c opn) => (bnds n c lo hi mx).bind fun (l, h, m) => some (.c (.sl (if m = l ∧ (opn && mx.isNone) = false then a else a.map (addA · (l * sz))) (h - l) (m - l) (opn && mx.isNone)))
  | _ => none
theorem aop_slS {ρ : X → V} {H : Heap} (sz : Nat) (x : X) (lo hi mx : Option X) : aop ρ (.slS sz x lo hi mx) H = outO (slSO sz (ρ x) (lo.map ρ) (hi.map ρ) (mx.map ρ)) H := by
  simp only [aop, outO]
  cases ρ x with
  | c x => cases x with
    | sl a n c o =>
      simp only [slSO]
      cases bnds n c (lo.map ρ) (hi.map ρ) (mx.map ρ) with
      | none => rfl
      | some q => cases mx <;> rfl
    | _ => rfl
  | _ => rfl
theorem map_add0 (a : Option Ad) : a.map (addA · 0) = a := by cases a <;> rfl
theorem slSO_to {sz : Nat} {a : Option Ad} {n c : Nat} {o : Bool} {k : IntKind} {h : Int} (h0 : 0 ≤ h) (h1 : h ≤ c) : slSO sz (.c (.sl a n c o)) none (some (.c (.int k h))) none = some (.c (.sl a h.toNat c o)) := by
  simp [slSO, bnds, bnd, asI, h0, h1, map_add0]
theorem slSO_from {sz : Nat} {a : Option Ad} {n c : Nat} {o : Bool} {k : IntKind} {l : Int} (h0 : 0 ≤ l) (h1 : l ≤ n) (h2 : n ≤ c) : slSO sz (.c (.sl a n c o)) (some (.c (.int k l))) none none = some (.c (.sl (if c = l.toNat ∧ o = false then a else a.map (addA · (l.toNat * sz))) (n - l.toNat) (c - l.toNat) o)) := by
  simp [slSO, bnds, bnd, asI, h0, h1, h2]
section
variable {F : FuncId → Option Fun} {m : Nat} {ρ : Env} {H : Heap} {r : List IOper} {Q : List V → Heap → Prop}
theorem WO_app {d : Nat} {T : TypeId} {sz by_ : Nat} {s x : X} {a b : Option Ad} {n c k c₂ : Nat} {o o₂ : Bool} {xs ys : List Cell} (hs : s.ev (L m ρ) = .c (.sl a n c o)) (hx : x.ev (L m ρ) = .c (.sl b k c₂ o₂)) (ho : Own H sz a n c o xs) (hy : Sl H sz b k ys) (hm : (n + k) * (by_ + 1) ≤ most)
    (hq : ∀ a' c' o' H', Own H' sz a' (n + k) c' o' (xs ++ ys) → Grown H a H' → (a' = a ∨ ∃ b, a' = some (b, 0) ∧ H.length ≤ b) → WO F r (L m (ρ.up d (.c (.sl a' (n + k) c' o')))) H' Q) :
    WO F (⟨some d, .app T sz by_ s x, none⟩ :: r) (L m ρ) H Q := by
  obtain ⟨a', c', o', H', h1, h2, h3, h4⟩ := appH_own ho hy.len hm
  refine WO_cons (.v (.c (.sl a' (n + k) c' o')), H') ?_ ?_
  · simp only [aop, hs, hx]
    cases b with
    | none =>
      have hk := hy.nil rfl
      subst hk
      have : ys = [] := by have := hy.len; simpa using this
      subst this
      simp only [if_true, h1]
    | some b => simp only [hy.rd b rfl, Option.bind_some, h1]
  · simp only [outQ, putT, L_set]
    exact hq a' c' o' H' h2 h3 h4
end
end Go.Proofs.Ytnepeleepmhdaaa.AM
