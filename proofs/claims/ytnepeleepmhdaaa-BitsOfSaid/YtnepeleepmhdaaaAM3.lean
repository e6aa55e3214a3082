/- AM, third text: how abstract memory stands to the machine's; a cell read, a cell written, a block made, a block dead. -/
import Derived.Test.YtnepeleepmhdaaaAM2
set_option linter.unusedVariables false
set_option linter.unusedSimpArgs false
namespace Go.Proofs.Ytnepeleepmhdaaa.AM
open Go Go.RowKit

/-- A program, which block holds a package-level variable, and the functions that may be called. -/
structure Ctx where
  P : Program
  G : Nat → Option Nat
  F : FuncId → Option Fun

def lstOf : LSt → LoopState
  | .ready => .ready
  | .busy => .busy
  | .done => .done
  | .exhausted => .exhausted
def exCode : Ex → Option Code
  | .normal => none
  | .exit i => some (.exit i)
  | .ret => some .ret

structure LoopR (K : Ctx) (m : Inj) (n : Nat) (st : LSt) (pd : Option Ex) (r : LRec) (L : Loop) : Prop where
  state : L.state = lstOf st
  pend : L.pending = pd.bind exCode
  pdn : pd ≠ some Ex.normal
  t : All2 (V.R m n) r.t L.tmps.toList
  ps : L.params.toList = r.ps
  assign : comp K.P K.G L.assign = r.assign
  body : comp K.P K.G L.body = r.body
  dlt : r.defers < n
  defers : L.defers = (m r.defers).blk

/-- Cells, from a place of a row on. -/
def RAt (m : Inj) (n : Nat) (cs : List Cell) (C : Array Value) (off : Nat) : Prop :=
  ∀ i c, cs[i]? = some c → ∃ v, C[off + i]? = some v ∧ c.R m n v

def Blk.own : Blk → Bool
  | .cells _ ro _ => !ro
  | .dead => false
  | _ => true

def BlkR (K : Ctx) (m : Inj) (n base : Nat) (loc : Loc) (w : World) : Blk → Prop
  | .cells cs ro gr => ∃ C T fz, w.heap[loc.blk]? = some (.cells C T fz) ∧ RAt m n cs C loc.off ∧ (ro = false → base ≤ loc.blk ∧ fz = (0, 0)) ∧
      (∀ sz, gr = some sz → loc.off + cs.length + loc.extra * sz = C.size)
  | .dead => True
  | .map es => base ≤ loc.blk ∧ ∃ E clk, w.heap[loc.blk]? = some (.map E clk) ∧ All2 (fun (x : Cell × V) (e : MapEntry) => x.1.R m n e.key ∧ x.2.R m n e.val) es E.toList
  | .loop st pd r => base ≤ loc.blk ∧ ∃ L, w.heap[loc.blk]? = some (.loop L) ∧ LoopR K m n st pd r L
  | .defd => base ≤ loc.blk ∧ w.heap[loc.blk]? = some (.deferred (some []))
  | .shut => base ≤ loc.blk ∧ w.heap[loc.blk]? = some (.deferred none)

structure Rel (K : Ctx) (m : Inj) (base : Nat) (H : Heap) (w : World) : Prop where
  blk : ∀ (b : Nat) (x : Blk), H[b]? = some x → BlkR K m H.length base (m b) w x
  inj : ∀ (b b' : Nat) (x x' : Blk), H[b]? = some x → H[b']? = some x' → b ≠ b' → x.own = true → x'.own = true → (m b).blk ≠ (m b').blk
  ro : ∀ (b : Nat) (cs : List Cell) (gr : Option Nat), H[b]? = some (.cells cs true gr) → (m b).blk < base
  size : base ≤ w.heap.size
  glob : ∀ g b, K.G g = some b → b < H.length ∧ (m b).blk = g ∧ (m b).off = 0

theorem RAt.later {m m' : Inj} {n n' : Nat} {cs : List Cell} {C : Array Value} {off : Nat} (h : RAt m n cs C off) (hl : Later m n m' n') : RAt m' n' cs C off :=
  fun i c e => let ⟨v, hv, hr⟩ := h i c e; ⟨v, hv, hr.later hl⟩
theorem LoopR.later {K : Ctx} {m m' : Inj} {n n' : Nat} {st : LSt} {pd : Option Ex} {r : LRec} {L : Loop} (h : LoopR K m n st pd r L) (hl : Later m n m' n') : LoopR K m' n' st pd r L :=
  ⟨h.state, h.pend, h.pdn, h.t.imp fun _ _ hr => hr.later hl, h.ps, h.assign, h.body, Nat.lt_of_lt_of_le h.dlt hl.1, by rw [hl.2 _ h.dlt]; exact h.defers⟩
theorem BlkR.later {K : Ctx} {m m' : Inj} {n n' base : Nat} {loc : Loc} {w : World} {x : Blk} (h : BlkR K m n base loc w x) (hl : Later m n m' n') : BlkR K m' n' base loc w x := by
  cases x with
  | cells cs ro gr => obtain ⟨C, T, fz, h1, h2, h3, h4⟩ := h; exact ⟨C, T, fz, h1, h2.later hl, h3, h4⟩
  | dead => trivial
  | map es => obtain ⟨h0, E, clk, h1, h2⟩ := h; exact ⟨h0, E, clk, h1, h2.imp fun _ _ hr => ⟨hr.1.later hl, hr.2.later hl⟩⟩
  | loop st pd r => obtain ⟨h0, L, h1, h2⟩ := h; exact ⟨h0, L, h1, h2.later hl⟩
  | defd => exact h
  | shut => exact h
/-- Where the block is as it was. -/
theorem BlkR.world {K : Ctx} {m : Inj} {n base : Nat} {loc : Loc} {w w' : World} {x : Blk} (h : BlkR K m n base loc w x) (hw : w'.heap[loc.blk]? = w.heap[loc.blk]?) : BlkR K m n base loc w' x := by
  cases x with
  | cells cs ro gr => obtain ⟨C, T, fz, h1, h2⟩ := h; exact ⟨C, T, fz, hw.trans h1, h2⟩
  | dead => trivial
  | map es => obtain ⟨h0, E, clk, h1, h2⟩ := h; exact ⟨h0, E, clk, hw.trans h1, h2⟩
  | loop st pd r => obtain ⟨h0, L, h1, h2⟩ := h; exact ⟨h0, L, hw.trans h1, h2⟩
  | defd => exact ⟨h.1, hw.trans h.2⟩
  | shut => exact ⟨h.1, hw.trans h.2⟩
theorem BlkR.own_base {K : Ctx} {m : Inj} {n base : Nat} {loc : Loc} {w : World} {x : Blk} (h : BlkR K m n base loc w x) (ho : x.own = true) : base ≤ loc.blk := by
  cases x with
  | cells cs ro gr => obtain ⟨C, T, fz, h1, h2, h3, h4⟩ := h; exact (h3 (by simpa [Blk.own] using ho)).1
  | dead => simp [Blk.own] at ho
  | map es => exact h.1
  | loop st pd r => exact h.1
  | defd => exact h.1
  | shut => exact h.1
theorem BlkR.lt {K : Ctx} {m : Inj} {n base : Nat} {loc : Loc} {w : World} {x : Blk} (h : BlkR K m n base loc w x) (hd : x ≠ .dead) : loc.blk < w.heap.size := by
  have key : ∀ o : Obj, w.heap[loc.blk]? = some o → loc.blk < w.heap.size := fun o e => (Array.getElem?_eq_some_iff.1 e).1
  cases x with
  | cells cs ro gr => obtain ⟨C, T, fz, h1, _⟩ := h; exact key _ h1
  | dead => exact absurd rfl hd
  | map es => obtain ⟨_, E, clk, h1, _⟩ := h; exact key _ h1
  | loop st pd r => obtain ⟨_, L, h1, _⟩ := h; exact key _ h1
  | defd => exact key _ h.2
  | shut => exact key _ h.2

section
variable {K : Ctx} {m : Inj} {base : Nat} {H : Heap} {w : World}

/-- Nothing else than one own block is touched. -/
theorem Rel.turn (hR : Rel K m base H w) {b : Nat} {x y : Blk} (hb : H[b]? = some x) (hx : x.own = true) {w' : World} (hs : w.heap.size ≤ w'.heap.size)
    (hw : ∀ k, k < w.heap.size → k ≠ (m b).blk → w'.heap[k]? = w.heap[k]?) (hy : BlkR K m H.length base (m b) w' y) (ho : y.own = true ∨ y = .dead) :
    Rel K m base (H.set b y) w' := by
  have hlt : b < H.length := (List.getElem?_eq_some_iff.1 hb).1
  have hbase : base ≤ (m b).blk := (hR.blk b x hb).own_base hx
  have old : ∀ b' z, b' ≠ b → H[b']? = some z → BlkR K m H.length base (m b') w' z := by
    intro b' z hne hz
    by_cases hd : z = .dead
    · subst hd; trivial
    refine (hR.blk b' z hz).world (hw _ ((hR.blk b' z hz).lt hd) ?_)
    by_cases hzo : z.own = true
    · exact hR.inj b' b z x hz hb hne hzo hx
    · have : ∃ cs gr, z = .cells cs true gr := by
        cases z with
        | cells cs ro gr => cases ro with | true => exact ⟨cs, gr, rfl⟩ | false => simp [Blk.own] at hzo
        | dead => exact absurd rfl hd
        | _ => simp [Blk.own] at hzo
      obtain ⟨cs, gr, rfl⟩ := this
      have := hR.ro b' cs gr hz
      omega
  refine ⟨?_, ?_, ?_, Nat.le_trans hR.size hs, by rw [List.length_set]; exact hR.glob⟩
  · intro b' z hz
    rw [List.length_set]
    by_cases e : b' = b
    · subst e
      rw [List.getElem?_set_self hlt] at hz
      cases hz; exact hy
    · rw [List.getElem?_set_ne (by omega)] at hz
      exact old b' z e hz
  · intro c c' z z' hz hz' hne hzo hzo'
    have aux : ∀ (c : Nat) (z : Blk), (H.set b y)[c]? = some z → z.own = true → ∃ z₀ : Blk, H[c]? = some z₀ ∧ z₀.own = true := by
      intro c z hz hzo
      by_cases e : c = b
      · subst e; exact ⟨x, hb, hx⟩
      · rw [List.getElem?_set_ne (by omega)] at hz; exact ⟨z, hz, hzo⟩
    obtain ⟨z₀, h1, h2⟩ := aux c z hz hzo
    obtain ⟨z₁, h3, h4⟩ := aux c' z' hz' hzo'
    exact hR.inj c c' z₀ z₁ h1 h3 hne h2 h4
  · intro c cs gr hz
    by_cases e : c = b
    · subst e
      rw [List.getElem?_set_self hlt] at hz
      cases hz
      rcases ho with ho | ho <;> simp [Blk.own] at ho
    · rw [List.getElem?_set_ne (by omega)] at hz
      exact hR.ro c cs gr hz

def upd (m : Inj) (n : Nat) (l : Loc) : Inj := fun b => if b = n then l else m b
theorem upd_self (m : Inj) (n : Nat) (l : Loc) : upd m n l n = l := by simp [upd]
theorem upd_later (m : Inj) (n : Nat) (l : Loc) : Later m n (upd m n l) (n + 1) := ⟨by omega, fun b hb => by simp [upd]; omega⟩

/-- A block more. -/
theorem Rel.push (hR : Rel K m base H w) {y : Blk} {loc : Loc} {w' : World} (hs : w.heap.size ≤ w'.heap.size)
    (hw : ∀ k, k < w.heap.size → w'.heap[k]? = w.heap[k]?) (hy : BlkR K (upd m H.length loc) (H.length + 1) base loc w' y) (ho : y.own = true)
    (hn : ∀ b x, H[b]? = some x → x.own = true → (m b).blk ≠ loc.blk) :
    Rel K (upd m H.length loc) base (H ++ [y]) w' := by
  have hl : Later m H.length (upd m H.length loc) (H.length + 1) := upd_later _ _ _
  have hlen : (H ++ [y]).length = H.length + 1 := by simp
  have split : ∀ b z, (H ++ [y])[b]? = some z → (b < H.length ∧ H[b]? = some z) ∨ (b = H.length ∧ z = y) := by
    intro b z hz
    by_cases h : b < H.length
    · rw [List.getElem?_append_left h] at hz; exact .inl ⟨h, hz⟩
    · have : b < (H ++ [y]).length := (List.getElem?_eq_some_iff.1 hz).1
      have e : b = H.length := by simp at this; omega
      subst e
      rw [List.getElem?_append_right (Nat.le_refl _)] at hz
      simp at hz
      exact .inr ⟨rfl, hz.symm⟩
  refine ⟨?_, ?_, ?_, Nat.le_trans hR.size hs, fun g b e => by obtain ⟨h1, h2⟩ := hR.glob g b e; rw [hlen, hl.2 b h1]; exact ⟨by omega, h2⟩⟩
  · intro b z hz
    rw [hlen]
    rcases split b z hz with ⟨h1, h2⟩ | ⟨rfl, rfl⟩
    · rw [hl.2 b h1]
      by_cases hd : z = .dead
      · subst hd; trivial
      exact ((hR.blk b z h2).later hl).world (hw _ ((hR.blk b z h2).lt hd))
    · rw [upd_self]; exact hy
  · intro b b' z z' hz hz' hne hzo hzo'
    rcases split b z hz with ⟨h1, h2⟩ | ⟨rfl, rfl⟩ <;> rcases split b' z' hz' with ⟨h3, h4⟩ | ⟨rfl, rfl⟩
    · rw [hl.2 b h1, hl.2 b' h3]; exact hR.inj b b' z z' h2 h4 hne hzo hzo'
    · rw [hl.2 b h1, upd_self]; exact hn b z h2 hzo
    · rw [hl.2 b' h3, upd_self]; exact (hn b' z' h4 hzo').symm
    · exact absurd rfl hne
  · intro b cs gr hz
    rcases split b _ hz with ⟨h1, h2⟩ | ⟨rfl, rfl⟩
    · rw [hl.2 b h1]; exact hR.ro b cs gr h2
    · simp [Blk.own] at ho

/-- A new block of the machine's. -/
theorem Rel.alloc (hR : Rel K m base H w) {y : Blk} {o : Obj} (extra : Nat) (hy : BlkR K (upd m H.length ⟨w.heap.size, 0, extra⟩) (H.length + 1) base ⟨w.heap.size, 0, extra⟩ (w.alloc o) y) (ho : y.own = true) :
    Rel K (upd m H.length ⟨w.heap.size, 0, extra⟩) base (H ++ [y]) (w.alloc o) := by
  refine hR.push (by simp) (fun k hk => Below.heap_alloc w o k hk) hy ho fun b x hb hx => ?_
  have : x ≠ .dead := by rintro rfl; simp [Blk.own] at hx
  have := (hR.blk b x hb).lt this
  simp; omega

theorem heap_alloc_new (w : World) (o : Obj) : (w.alloc o).heap[w.heap.size]? = some o := by
  show (w.heap.push o)[w.heap.size]? = _
  simp

/-- A cell is read. -/
theorem Rel.cell (hR : Rel K m base H w) {a : Ad} {c : Cell} (h : H.ld a = some c) : ∃ v, w.cell? (adr m a) = some v ∧ c.R m H.length v := by
  unfold Heap.ld Heap.cells at h
  cases hb : H[a.1]? with
  | none => simp [hb] at h
  | some x =>
    cases x with
    | cells cs ro gr =>
      simp [hb] at h
      obtain ⟨C, T, fz, h1, h2, _⟩ := hR.blk a.1 _ hb
      obtain ⟨v, hv, hr⟩ := h2 a.2 c h
      exact ⟨v, by simp [World.cell?, adr, h1, hv], hr⟩
    | _ => simp [hb] at h

theorem sub_get {cs : List Cell} {o n : Nat} {l : List Cell} (h : sub cs o n = some l) : l.length = n ∧ ∀ i, i < n → l[i]? = cs[o + i]? := by
  unfold sub at h
  split at h
  · cases h
    refine ⟨by simp; omega, fun i hi => ?_⟩
    rw [List.getElem?_take_of_lt hi, List.getElem?_drop]
  · cases h

/-- Cells are read. -/
theorem Rel.cells (hR : Rel K m base H w) {a : Ad} {n : Nat} {l : List Cell} (h : H.ldn a n = some l) :
    l.length = n ∧ ∀ i c, l[i]? = some c → ∃ v, w.cell? (adr m (addA a i)) = some v ∧ c.R m H.length v := by
  unfold Heap.ldn at h
  cases hb : H.cells a.1 with
  | none => simp [hb] at h
  | some cs =>
    simp [hb] at h
    obtain ⟨hlen, hg⟩ := sub_get h
    refine ⟨hlen, fun i c hi => ?_⟩
    have hlt : i < n := by have := (List.getElem?_eq_some_iff.1 hi).1; omega
    refine hR.cell (a := addA a i) (c := c) ?_
    unfold Heap.ld
    rw [show (addA a i).1 = a.1 from rfl, hb, Option.bind_some, show (addA a i).2 = a.2 + i from rfl, ← hg i hlt]
    exact hi

theorem RAt.set {m : Inj} {n : Nat} {cs : List Cell} {C : Array Value} {off o : Nat} {c : Cell} {v : Value} (h : RAt m n cs C off) (hr : c.R m n v) (ho : o < cs.length) :
    RAt m n (cs.set o c) (C.setIfInBounds (off + o) v) off := by
  intro i c' hc
  by_cases e : i = o
  · subst e
    rw [List.getElem?_set_self ho] at hc
    cases hc
    obtain ⟨v', hv', _⟩ := h i cs[i] (List.getElem?_eq_getElem ho)
    have := (Array.getElem?_eq_some_iff.1 hv').1
    exact ⟨v, by simp [Array.getElem?_setIfInBounds, this], hr⟩
  · rw [List.getElem?_set_ne (by omega)] at hc
    obtain ⟨v', hv', hr'⟩ := h i c' hc
    exact ⟨v', by rw [Array.getElem?_setIfInBounds, if_neg (by omega)]; exact hv', hr'⟩

/-- A cell is written. -/
theorem Rel.store (hR : Rel K m base H w) {b o : Nat} {cs : List Cell} {gr : Option Nat} {c : Cell} {v : Value} (hb : H[b]? = some (.cells cs false gr)) (ho : o < cs.length) (hr : c.R m H.length v) :
    (∃ u, w.cell? (adr m (b, o)) = some u) ∧ w.frozen? (adr m (b, o)) = false ∧ Rel K m base (H.set b (.cells (cs.set o c) false gr)) (w.setCell (adr m (b, o)) v) ∧ Below base w (w.setCell (adr m (b, o)) v) := by
  obtain ⟨C, T, fz, h1, h2, h3, h4⟩ := hR.blk b _ hb
  obtain ⟨h3', hfz⟩ := h3 rfl
  clear h3
  subst hfz
  have h3 := h3'
  obtain ⟨u, hu, _⟩ := h2 o _ (List.getElem?_eq_getElem ho)
  refine ⟨⟨u, by simp [World.cell?, adr, h1, hu]⟩, by simp [World.frozen?, adr, h1], ?_, (Below.refl _ _).setCell (by simpa [adr] using h3) _⟩
  refine hR.turn hb rfl (by simp) (fun k _ hk => Below.heap_setCell _ _ _ _ (by simpa [adr] using hk)) ?_ (.inl rfl)
  refine ⟨C.setIfInBounds ((m b).off + o) v, T, (0, 0), ?_, h2.set hr ho, fun _ => ⟨h3, rfl⟩, fun sz hsz => by simp; exact h4 sz hsz⟩
  have hlt := (Array.getElem?_eq_some_iff.1 h1).1
  show (w.heap.modify (m b).blk _)[(m b).blk]? = _
  rw [Array.getElem?_modify, if_pos rfl, h1]
  rfl

end
end Go.Proofs.Ytnepeleepmhdaaa.AM
