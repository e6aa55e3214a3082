/- AM, twenty-third text: the functions of a program; the arguments of a law; how a law's row is closed. -/
import Derived.Test.YtnepeleepmhdaaaAM22
import Derived.ProofKit
import Derived.SizedLaws
set_option linter.unusedVariables false
set_option linter.unusedSimpArgs false
namespace Go.Proofs.Ytnepeleepmhdaaa.AM
open Go Go.RowKit

/-- The functions of a list. -/
def funs (l : List (Nat × IFn)) : FuncId → Option Fun := fun f => (l.lookup f).map .code
/-- They are the program's. -/
def OkL (P : Program) (G : Nat → Option Nat) : List (Nat × IFn) → Prop
  | [] => True
  | (f, i) :: r => (∃ fn, P.funcs[f]? = some fn ∧ (fn.name == "runtime.NumGoroutine") = false ∧ compF P G fn = some i) ∧ OkL P G r
theorem OkL.get {P : Program} {G : Nat → Option Nat} : ∀ {l : List (Nat × IFn)}, OkL P G l → ∀ {f : Nat} {i : IFn}, l.lookup f = some i → ∃ fn, P.funcs[f]? = some fn ∧ (fn.name == "runtime.NumGoroutine") = false ∧ compF P G fn = some i
  | [], _, f, i, e => by simp at e
  | (g, j) :: r, h, f, i, e => by
    simp only [List.lookup_cons] at e
    by_cases hfg : f == g
    · simp only [hfg] at e
      have hfg' : f = g := by simpa using hfg
      subst hfg'
      cases e
      exact h.1
    · simp only [hfg] at e
      exact OkL.get h.2 e
theorem OkL.okF {P : Program} {G : Nat → Option Nat} {l : List (Nat × IFn)} (h : OkL P G l) (base : Nat) : OkF ⟨P, G, funs l⟩ base := by
  intro f g e
  simp only [funs] at e
  obtain ⟨i, hi, rfl⟩ := Option.map_eq_some_iff.1 e
  obtain ⟨fn, h1, h2, h3⟩ := h.get hi
  refine ⟨fun args w => ?_, fn, h1, h3⟩
  have hn : fn.name ≠ "runtime.NumGoroutine" := by simpa using h2
  obtain ⟨c, hc, _⟩ := Option.bind_eq_some_iff.1 h3
  simp [callFunc, h1, hn, hc]

section
variable {K : Ctx} {m : Inj} {base : Nat} {H : Heap} {w : World}
/-- A block that nobody writes, added. -/
theorem Rel.see (hR : Rel K m base H w) {cs : List Cell} {loc : Loc} (hlt : loc.blk < base) {C : Array Value} {T : TypeId} {fz : Nat × Nat} (hc : w.heap[loc.blk]? = some (.cells C T fz)) (ha : RAt (upd m H.length loc) (H.length + 1) cs C loc.off) :
    Rel K (upd m H.length loc) base (H ++ [.cells cs true none]) w := by
  have hl : (H ++ [Blk.cells cs true none]).length = H.length + 1 := by simp
  have old : ∀ b, b < H.length → upd m H.length loc b = m b := fun b hb => by simp [upd]; omega
  refine ⟨?_, ?_, ?_, hR.size, ?_⟩
  · intro b x hx
    rw [hl]
    by_cases e : b < H.length
    · rw [List.getElem?_append_left e] at hx
      rw [old b e]
      exact (hR.blk b x hx).later (upd_later _ _ _)
    · have : b = H.length := by
        have := lt_of_get hx
        rw [hl] at this; omega
      subst this
      rw [get_last] at hx
      cases hx
      rw [upd_self]
      exact ⟨C, T, fz, hc, ha, by simp, by simp⟩
  · intro b b' x x' hx hx' hne ho ho'
    have key : ∀ b x, (H ++ [Blk.cells cs true none])[b]? = some x → x.own = true → b < H.length ∧ H[b]? = some x := by
      intro b x hx ho
      by_cases e : b < H.length
      · rw [List.getElem?_append_left e] at hx; exact ⟨e, hx⟩
      · have : b = H.length := by
          have := lt_of_get hx
          rw [hl] at this; omega
        subst this
        rw [get_last] at hx
        cases hx
        simp [Blk.own] at ho
    obtain ⟨h1, h2⟩ := key b x hx ho
    obtain ⟨h3, h4⟩ := key b' x' hx' ho'
    rw [old b h1, old b' h3]
    exact hR.inj b b' x x' h2 h4 hne ho ho'
  · intro b cs' gr' hx
    by_cases e : b < H.length
    · rw [List.getElem?_append_left e] at hx
      rw [old b e]; exact hR.ro b cs' gr' hx
    · have : b = H.length := by
        have := lt_of_get hx
        rw [hl] at this; omega
      subst this
      rw [upd_self]; exact hlt
  · intro g b e
    obtain ⟨h1, h2, h3⟩ := hR.glob g b e
    rw [hl, old b h1]
    exact ⟨by omega, h2, h3⟩
/-- Nothing is seen. -/
theorem Rel.start (K : Ctx) (hG : ∀ g, K.G g = none) (m : Inj) (w : World) : Rel K m w.heap.size [] w :=
  ⟨fun b x e => by simp at e, fun b b' x x' e => by simp at e, fun b cs gr e => by simp at e, Nat.le_refl _, fun g b e => by rw [hG] at e; cases e⟩

/-- A slice of whole numbers, as a row's opening tells it. -/
def IntRow (k : IntKind) (w : World) (a : Option Addr) (len cap : Nat) (zs : List Int) : Prop :=
  (a = none ∧ len = 0 ∧ cap = 0 ∧ zs = []) ∨
  ∃ x, a = some x ∧ len ≤ cap ∧ cap ≤ maxLen ∧ zs.length = cap ∧ (∀ i, i < zs.length → w.cell? (x.add i) = some (.int k (zs.getD i 0))) ∧ ∀ n ∈ zs, (Lit.int k n).wf = true
theorem IntRow.wf {k : IntKind} {w : World} {a : Option Addr} {len cap : Nat} {zs : List Int} (h : IntRow k w a len cap zs) : ∀ n ∈ zs, (Lit.int k n).wf = true := by
  rcases h with ⟨_, _, _, rfl⟩ | ⟨_, _, _, _, _, _, h⟩
  · simp
  · exact h
theorem IntRow.len {k : IntKind} {w : World} {a : Option Addr} {len cap : Nat} {zs : List Int} (h : IntRow k w a len cap zs) : len ≤ zs.length ∧ zs.length ≤ maxLen := by
  rcases h with ⟨_, rfl, rfl, rfl⟩ | ⟨_, _, h1, h2, h3, _, _⟩
  · simp
  · omega
theorem okWide_place {P : Program} {base : Nat} {t e : TypeId} {x : Addr} {len cap : Nat} (ht : P.underlying t = some (.slice e)) (h : Value.okWide P w .any base t (.slice (some x) len cap)) : x.spot = none ∧ ∃ C T fz, w.heap[x.block]? = some (.cells C T fz) := by
  simp only [Value.okWide, ht, Cell.okWide, Cell.ok, World.has] at h
  obtain ⟨_, _, _, hs, row, cells, hsh, _⟩ := h
  refine ⟨hs, ?_⟩
  unfold World.shape? at hsh
  split at hsh
  · exact ⟨_, _, _, by assumption⟩
  · cases hsh
/-- An argument that is a slice of whole numbers. -/
theorem Rel.ints (hR : Rel K m w.heap.size H w) {k : IntKind} {a : Option Addr} {len cap : Nat} {zs : List Int} (h : IntRow k w a len cap zs) (hp : ∀ x, a = some x → x.spot = none ∧ ∃ C T fz, w.heap[x.block]? = some (.cells C T fz)) :
    ∃ m' J a', Rel K m' w.heap.size (H ++ J) w ∧ Later m H.length m' (H ++ J).length ∧ V.R m' (H ++ J).length (.c (.sl a' len cap false)) (.slice a len cap) ∧ Sl (H ++ J) 1 a' len ((zs.take len).map (Cell.int k)) := by
  rcases h with ⟨rfl, rfl, rfl, rfl⟩ | ⟨x, rfl, hl, hm, hz, hc, hw⟩
  · exact ⟨m, [], none, by simpa using hR, by simpa using Later.refl _ _, ⟨rfl, rfl, rfl, rfl⟩, by simpa using Sl.none _ _⟩
  · obtain ⟨hs, C, T, fz, hC⟩ := hp x rfl
    have hlt : x.block < w.heap.size := (Array.getElem?_eq_some_iff.1 hC).1
    have hcell : ∀ i, i < zs.length → C[x.off + i]? = some (.int k (zs.getD i 0)) := by
      intro i hi
      have := hc i hi
      unfold World.cell? Addr.add at this
      by_cases h0 : i = 0
      · subst h0
        rw [if_pos rfl, hC] at this
        simp only [hs, Option.isSome_none, Bool.false_eq_true, if_false] at this
        exact this
      · rw [if_neg h0] at this
        simp only [hC, Option.isSome_none, Bool.false_eq_true, if_false] at this
        exact this
    have hR' := hR.see (cs := zs.map (Cell.int k)) (loc := ⟨x.block, x.off, 0⟩) hlt hC (by
      intro i c e
      rw [List.getElem?_map] at e
      obtain ⟨z, hz', rfl⟩ := Option.map_eq_some_iff.1 e
      have hi := lt_of_getE hz'
      refine ⟨_, hcell i hi, ?_⟩
      rw [List.getD_eq_getElem?_getD, hz']; rfl)
    refine ⟨_, _, some (H.length, 0), hR', by simpa using upd_later _ _ _, ?_, ?_⟩
    · refine ⟨by simp, hl, ⟨x.block, x.off, none⟩, cap, ?_, by simp, .inl (by simp [adr, upd])⟩
      cases x; simp at hs; subst hs; rfl
    · refine ⟨by simp; omega, by simp [okA], fun a' e => ?_⟩
      cases e
      rw [ldn_of (get_last _)]
      simp [sub, List.map_take]
      omega
  where lt_of_getE {l : List Int} {i : Nat} {z : Int} (h : l[i]? = some z) : i < l.length := (List.getElem?_eq_some_iff.1 h).1

/-- A law's call. -/
theorem law_calls {vs : Array Value} {args : List V} {f : FuncId} (hF : OkF K w.heap.size) (hw : WC K.F f args H fun v _ => v = .c (.bool true)) (hR : Rel K m w.heap.size H w) (ha : All2 (V.R m H.length) args vs.toList) :
    Calls K.P f vs w fun e w' => e = .returned (.bool true) ∧ Below w.heap.size w w' := by
  obtain ⟨k, v, H', h, rfl⟩ := hw
  refine (calls_sound hF h hR ha).mono ?_
  rintro e w' ⟨v', m', rfl, hv, _, _, hB⟩
  have : v' = .bool true := hv
  exact ⟨by rw [this], hB⟩
end
end Go.Proofs.Ytnepeleepmhdaaa.AM
