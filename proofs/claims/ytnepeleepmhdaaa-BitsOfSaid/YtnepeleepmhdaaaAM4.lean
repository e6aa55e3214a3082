/- AM, fourth text: what an operation of the abstract machine comes to, the machine's operation comes to. -/
import Derived.Test.YtnepeleepmhdaaaAM3
import Derived.Laws.Cells
set_option linter.unusedVariables false
set_option linter.unusedSimpArgs false
namespace Go.Proofs.Ytnepeleepmhdaaa.AM
open Go Go.RowKit

theorem adr_add (m : Inj) (a : Ad) (i : Nat) : (adr m a).add i = adr m (addA a i) := by
  unfold Addr.add
  split
  · rename_i h; subst h; simp [adr, addA]
  · simp [adr, addA, Nat.add_assoc]
theorem addA_addA (a : Ad) (i j : Nat) : addA (addA a i) j = addA a (i + j) := by simp [addA, Nat.add_assoc]
theorem addA_zero (a : Ad) : addA a 0 = a := rfl

section
variable {K : Ctx} {m : Inj} {base : Nat} {H : Heap} {w : World}

theorem All2.mem_left {α β : Type} {R : α → β → Prop} {l : List α} {r : List β} (h : All2 R l r) : ∀ b ∈ r, ∃ a, R a b := by
  induction h with
  | nil => intro b hb; cases hb
  | cons h _ ih => intro b hb; cases hb with
    | head => exact ⟨_, h⟩
    | tail _ hb => exact ih b hb

/-- A row is read. -/
theorem Rel.loads (hR : Rel K m base H w) {a : Ad} {n : Nat} {l : List Cell} (h : H.ldn a n = some l) :
    ∃ vs : Array Value, (∀ w' : World, w'.heap = w.heap → (loadCells (adr m a) n).run K.P w' = .ok vs w') ∧ RL m H.length l vs.toList := by
  obtain ⟨hlen, hc⟩ := hR.cells h
  have hex : ∀ i, ∃ v, i < n → w.cell? (adr m (addA a i)) = some v ∧ ∃ c, l[i]? = some c ∧ c.R m H.length v := by
    intro i
    by_cases hi : i < n
    · have : l[i]? = some (l[i]'(by omega)) := List.getElem?_eq_getElem (by omega)
      obtain ⟨v, h1, h2⟩ := hc i _ this
      exact ⟨v, fun _ => ⟨h1, _, this, h2⟩⟩
    · exact ⟨undef, fun h => absurd h hi⟩
  obtain ⟨f, hf⟩ : ∃ f : Nat → Value, ∀ i, i < n → w.cell? (adr m (addA a i)) = some (f i) ∧ ∃ c, l[i]? = some c ∧ c.R m H.length (f i) :=
    ⟨fun i => (hex i).choose, fun i => (hex i).choose_spec⟩
  refine ⟨_, fun w' hw' => run_loadCells (P := K.P) w' (adr m a) n f fun j hj => by rw [adr_add]; exact (by simp only [World.cell?, hw']; exact (hf j hj).1), ?_⟩
  refine All2.of_get (by simp [hlen]) fun i c hi => ?_
  have hlt : i < n := by have := (List.getElem?_eq_some_iff.1 hi).1; omega
  obtain ⟨_, c', hc', hr⟩ := hf i hlt
  rw [hc'] at hi; cases hi
  exact ⟨f i, by simp [hlt], hr⟩

theorem heap_set_self {H : Heap} {b : Nat} {x : Blk} (h : H[b]? = some x) : H.set b x = H := by
  apply List.ext_getElem?
  intro i
  by_cases e : i = b
  · subst e; rw [List.getElem?_set_self (List.getElem?_eq_some_iff.1 h).1, h]
  · rw [List.getElem?_set_ne (by omega)]

theorem put_length (cs : List Cell) : ∀ (xs : List Cell) (o : Nat), (put cs o xs).length = cs.length := by
  intro xs
  induction xs generalizing cs with
  | nil => intro o; rfl
  | cons x xs ih => intro o; simp [put, ih]

theorem run_store1 {P : Program} {w : World} {a : Addr} {u v : Value} (h : w.cell? a = some u) (hf : w.frozen? a = false) (hv : v.oneCell' = true) : (store a v).run P w = .ok () (w.setCell a v) := by
  rw [run_store P w a v _ hv, h]
  simp [hf]

/-- A row is written. -/
theorem Rel.stores_aux {b o : Nat} {gr : Option Nat} : ∀ (xs : List Cell) (vs : List Value) (i : Nat) (cs : List Cell) (H : Heap) (w : World), Rel K m base H w → H[b]? = some (.cells cs false gr) → o + i + xs.length ≤ cs.length → RL m H.length xs vs →
    ∃ w', (storeCells (adr m (b, o)) vs i).run K.P w = .ok () w' ∧ Rel K m base (H.set b (.cells (put cs (o + i) xs) false gr)) w' ∧ Below base w w' := by
  intro xs
  induction xs with
  | nil =>
    intro vs i cs H w hR hb hl hv
    cases hv
    exact ⟨w, rfl, by rw [put, heap_set_self hb]; exact hR, Below.refl _ _⟩
  | cons x xs ih =>
    intro vs i cs H w hR hb hl hv
    cases hv with
    | @cons _ v _ vs hx hv =>
      simp only [List.length_cons] at hl
      obtain ⟨⟨u, hu⟩, hf, hR', hB⟩ := hR.store (o := o + i) (c := x) (v := v) hb (by omega) hx
      have hlt : b < H.length := (List.getElem?_eq_some_iff.1 hb).1
      obtain ⟨w', h1, h2, h3⟩ := ih vs (i + 1) (cs.set (o + i) x) _ _ hR' (List.getElem?_set_self hlt) (by simp; omega) (by rw [List.length_set]; exact hv)
      refine ⟨w', ?_, ?_, hB.trans h3⟩
      · simp only [storeCells, Sem.run_bind]
        rw [adr_add, show addA (b, o) i = (b, o + i) from rfl, run_store1 hu hf hx.oneCell']
        exact h1
      · rw [List.set_set] at h2
        exact h2
theorem Rel.stores (hR : Rel K m base H w) {a : Ad} {xs : List Cell} {vs : List Value} {H' : Heap} (h : H.st a xs = some H') (hv : RL m H.length xs vs) :
    ∃ w', (storeCells (adr m a) vs).run K.P w = .ok () w' ∧ Rel K m base H' w' ∧ Below base w w' ∧ H'.length = H.length := by
  unfold Heap.st at h
  split at h
  · rename_i cs gr hb
    split at h
    · rename_i hl
      cases h
      obtain ⟨w', h1, h2, h3⟩ := Rel.stores_aux (b := a.1) (o := a.2) xs vs 0 cs H w hR hb (by omega) hv
      exact ⟨w', h1, h2, h3, by simp⟩
    · cases h
  · cases h

/-! ### Results -/
def Good (K : Ctx) (base : Nat) (m : Inj) (H : Heap) (w : World) (r : Result Next) : AN × Heap → Prop
  | (.v x, H') => ∃ m' w', ((∃ v, r = .ok (.value v) w' ∧ x.R m' H'.length v) ∨ (r = .ok .skip w' ∧ x = .undef)) ∧ Rel K m' base H' w' ∧ Later m H.length m' H'.length ∧ Below base w w'
  | (.call f args, H') => H' = H ∧ ∃ vs : Array Value, r = (callFunc f vs).run K.P w ∧ All2 (V.R m H.length) args vs.toList
  | (.yld l args, H') => H' = H ∧ l < H.length ∧ ∃ vs : Array Value, r = (Instr.yield (m l).blk vs).run K.P w ∧ All2 (V.R m H.length) args vs.toList

theorem Good.val (hR : Rel K m base H w) {x : V} {v : Value} (hx : x.R m H.length v) : Good K base m H w (.ok (.value v) w) (.v x, H) :=
  ⟨m, w, .inl ⟨v, rfl, hx⟩, hR, Later.refl _ _, Below.refl _ _⟩

/-- A new block. -/
theorem Rel.fresh (hR : Rel K m base H w) {cs : List Cell} {vs : Array Value} (T : TypeId) (h : RL m H.length cs vs.toList) (gr : Option Nat) :
    Rel K (upd m H.length ⟨w.heap.size, 0, 0⟩) base (H ++ [.cells cs false gr]) (w.alloc (.cells vs T)) := by
  refine hR.alloc 0 ⟨vs, T, (0, 0), heap_alloc_new _ _, ?_, fun _ => ⟨hR.size, rfl⟩, fun sz _ => ?_⟩ rfl
  · intro i c hi
    obtain ⟨v, hv, hr⟩ := h.get hi
    exact ⟨v, by simpa using hv, hr.later (upd_later _ _ _)⟩
  · have := h.length; simp at this; simp [this]
theorem adr_new (m : Inj) (n : Nat) (b e : Nat) : adr (upd m n ⟨b, 0, e⟩) (n, 0) = ⟨b, 0, none⟩ := by simp [adr, upd]

theorem Good.fresh_ptr (hR : Rel K m base H w) {cs : List Cell} {vs : Array Value} (T : TypeId) (h : RL m H.length cs vs.toList) :
    Good K base m H w (.ok (.value (.pointer (some ⟨w.heap.size, 0, none⟩))) (w.alloc (.cells vs T))) (.v (.c (.ptr (some (H.length, 0)))), H ++ [.cells cs false none]) := by
  refine ⟨_, _, .inl ⟨_, rfl, ?_⟩, hR.fresh T h none, by rw [List.length_append]; exact upd_later _ _ _, (Below.refl _ _).alloc hR.size _⟩
  exact ⟨by simp, by rw [ptrV, adr_new]⟩

def Ops (K : Ctx) (m : Inj) (n : Nat) (ρ : X → V) (ρc : Operand → Value) : Prop := ∀ x X, cX K.G x = some X → (ρ X).R m n (ρc x)

theorem run_v {P : Program} {w : World} (s : Sem Value) : (do pure (Next.value (← s)) : Sem Next).run P w = (s.run P w).andThen fun v w' => .ok (.value v) w' := by
  simp
theorem run_u {P : Program} {w : World} (s : Sem Unit) : (do s; pure Next.skip : Sem Next).run P w = (s.run P w).andThen fun _ w' => .ok .skip w' := by
  simp

theorem adOf_R {m : Inj} {n : Nat} {x : V} {v : Value} {a : Ad} (h : adOf x = some a) (hx : x.R m n v) : v = .pointer (some (adr m a)) ∧ a.1 < n := by
  unfold adOf at h
  split at h
  · cases h; exact ⟨hx.2, hx.1⟩
  · cases h

theorem rdOf_spec {P : Program} {T : TypeId} {n : Option Nat} (h : rdOf P T = some n) :
    match n with
    | none => ∃ d, P.underlying T = some d ∧ (∀ fs, d ≠ .struct fs) ∧ (∀ k e, d ≠ .array k e)
    | some n => ∃ d i, P.underlying T = some d ∧ P.info? T = some i ∧ i.size = n ∧ ((∃ fs, d = .struct fs) ∨ ∃ k e, d = .array k e) := by
  unfold rdOf at h
  split at h
  · rename_i fs i h1 h2; cases h; exact ⟨_, i, h1, h2, rfl, .inl ⟨_, rfl⟩⟩
  · rename_i k e i h1 h2; cases h; exact ⟨_, i, h1, h2, rfl, .inr ⟨_, _, rfl⟩⟩
  · rename_i d i h1 h2 h3 h4
    cases h
    exact ⟨d, h3, fun fs e => h1 fs e, fun k e e' => h2 k e e'⟩
  · cases h

theorem run_isAgg_no {P : Program} {T : TypeId} {d : TypeDesc} (h : P.underlying T = some d) (h1 : ∀ fs, d ≠ .struct fs) (h2 : ∀ k e, d ≠ .array k e) (w : World) : (isAgg T).run P w = .ok false w := by
  unfold isAgg
  rw [Sem.run_bind, run_underlying h, Result.andThen_ok]
  cases d <;> first | rfl | exact absurd rfl (h1 _) | exact absurd rfl (h2 _ _)
theorem run_isAgg_yes {P : Program} {T : TypeId} {d : TypeDesc} (h : P.underlying T = some d) (h1 : (∃ fs, d = .struct fs) ∨ ∃ k e, d = .array k e) (w : World) : (isAgg T).run P w = .ok true w := by
  unfold isAgg
  rw [Sem.run_bind, run_underlying h, Result.andThen_ok]
  rcases h1 with ⟨fs, rfl⟩ | ⟨k, e, rfl⟩ <;> rfl
theorem run_size {P : Program} {T : TypeId} {i : TypeInfo} (h : P.info? T = some i) (w : World) : (sizeOf T).run P w = .ok i.size w := by
  simp [sizeOf, typeInfo, h]
theorem run_szOf {P : Program} {T : TypeId} {n : Nat} (h : szOf P T = some n) (w : World) : (sizeOf T).run P w = .ok n w := by
  unfold szOf at h
  cases hi : P.info? T with
  | none => simp [hi] at h
  | some i => simp [hi] at h; subst h; exact run_size hi w
theorem run_zOf {P : Program} {T : TypeId} {z : V} (h : zOf P T = some z) (w : World) : ∃ v, (zeroValue T).run P w = .ok v w ∧ vOf v = some z := by
  unfold zOf at h
  cases hi : P.info? T with
  | none => simp [hi] at h
  | some i =>
    cases hz : i.zero with
    | none => simp [hi, hz] at h
    | some v => simp [hi, hz] at h; exact ⟨v, by simp [zeroValue, typeInfo, hi, hz], h⟩

/-- A variable is read. -/
theorem Rel.loadVar (hR : Rel K m base H w) {T : TypeId} {a : Ad} {n : Option Nat} (hT : rdOf K.P T = some n) {x : V}
    (h : H.rd a n = some x) : ∃ v, (Go.loadVar T (adr m a)).run K.P w = .ok v w ∧ x.R m H.length v := by
  have hs := rdOf_spec hT
  unfold Go.loadVar
  cases n with
  | none =>
    obtain ⟨d, h1, h2, h3⟩ := hs
    cases hc : H.ld a with
    | none => simp [Heap.rd, hc] at h
    | some c =>
      simp [Heap.rd, hc] at h; subst h
      obtain ⟨v, hv, hr⟩ := hR.cell hc
      refine ⟨v, ?_, hr⟩
      rw [Sem.run_bind, run_isAgg_no h1 h2 h3, Result.andThen_ok]
      simp [hv]
  | some n =>
    obtain ⟨d, i, h1, h2, rfl, h4⟩ := hs
    cases hc : H.ldn a i.size with
    | none => simp [Heap.rd, hc] at h
    | some l =>
      simp [Heap.rd, hc] at h; subst h
      obtain ⟨vs, hv, hr⟩ := hR.loads hc
      refine ⟨.agg vs, ?_, vs, rfl, hr⟩
      rw [Sem.run_bind, run_isAgg_yes h1 h4, Result.andThen_ok]
      simp [run_size h2, hv w rfl]

theorem V.R.size {m : Inj} {n : Nat} {x : V} {v : Value} {l : List Cell} (h : x.R m n v) (hc : x.cells = some l) : v.cells.size = l.length := by
  have := (h.cells hc).length
  simp at this
  omega

theorem good_ld (hR : Rel K m base H w) {ρ : X → V} {ρc : Operand → Value} (hρ : Ops K m H.length ρ ρc) {T : TypeId} {x : Operand} {x' : X} {n : Option Nat} (hx : cX K.G x = some x') (hT : rdOf K.P T = some n) {r : AN × Heap}
    (h : aop ρ (.ld n x') H = some r) : Good K base m H w ((do pure (Next.value (← Instr.loadAt T (ρc x))) : Sem Next).run K.P w) r := by
  simp only [aop] at h
  cases ha : adOf (ρ x') with
  | none => simp [ha] at h
  | some a =>
    obtain ⟨hv, ha'⟩ := adOf_R ha (hρ x x' hx)
    rw [ha, Option.bind_some] at h
    cases hy : H.rd a n with
    | none => simp [hy] at h
    | some y =>
    simp [hy] at h; subst h
    obtain ⟨v, h1, h2⟩ := hR.loadVar hT hy
    rw [run_v, hv]
    simp only [Instr.loadAt, Instr.sureAddr, Sem.run_bind, Sem.run_pure, Result.andThen_ok, h1]
    exact Good.val hR h2

theorem good_st (hR : Rel K m base H w) {ρ : X → V} {ρc : Operand → Value} (hρ : Ops K m H.length ρ ρc) {T : TypeId} {a x : Operand} {a' x' : X} {n : Nat} (ha : cX K.G a = some a') (hx : cX K.G x = some x') (hT : szOf K.P T = some n) {r : AN × Heap}
    (h : aop ρ (.st n a' x') H = some r) : Good K base m H w ((do Instr.storeAt T (ρc a) (ρc x); pure Next.skip : Sem Next).run K.P w) r := by
  simp only [aop] at h
  cases hd : adOf (ρ a') with
  | none => simp [hd] at h
  | some d =>
    cases hc : (ρ x').cells with
    | none => simp [hd, hc] at h
    | some cs =>
      simp only [hd, hc, Option.bind_some] at h
      split at h
      · rename_i hn
        cases hs : H.st d cs with
        | none => simp [hs] at h
        | some H' =>
          simp [hs] at h; subst h
          obtain ⟨hv, _⟩ := adOf_R hd (hρ a a' ha)
          have hxR := hρ x x' hx
          obtain ⟨w', h1, h2, h3, h4⟩ := hR.stores hs (hxR.cells hc)
          rw [run_u, hv]
          have : (Instr.storeAt T (.pointer (some (adr m d))) (ρc x)).run K.P w = .ok () w' := by
            simp only [Instr.storeAt, Instr.sureAddr, Sem.run_bind, Sem.run_pure, Result.andThen_ok, storeVar, run_szOf hT, hxR.size hc, hn]
            simp [h1]
          rw [this]
          exact ⟨m, w', .inr ⟨rfl, rfl⟩, h2, by rw [h4]; exact Later.refl _ _, h3⟩
      · cases h

end
end Go.Proofs.Ytnepeleepmhdaaa.AM
