/- AM, ninth text: append. -/
import Derived.Test.YtnepeleepmhdaaaAM8
import Derived.Laws.CopyRow
set_option linter.unusedVariables false
set_option linter.unusedSimpArgs false
namespace Go.Proofs.Ytnepeleepmhdaaa.AM
open Go Go.RowKit

section
variable {K : Ctx} {m : Inj} {base : Nat} {H : Heap} {w : World} {ρ : X → V} {ρc : Operand → Value} {r : AN × Heap}

theorem Rel.world (hR : Rel K m base H w) {w' : World} (h : w'.heap = w.heap) : Rel K m base H w' :=
  ⟨fun b x hb => (hR.blk b x hb).world (by rw [h]), hR.inj, hR.ro, by rw [h]; exact hR.size, hR.glob⟩
theorem Rel.drew (hR : Rel K m base H w) : Rel K m base H w.drew := hR.world rfl

theorem growBy_le {L : Nat} (hL : 256 < L) : ∀ (k c : Nat), c < 2 * L → Builtin.growBy L k c ≤ 2 * L
  | 0, c, h => by simp [Builtin.growBy]; omega
  | k + 1, c, h => by
    simp only [Builtin.growBy]
    split
    · omega
    · rename_i hc
      by_cases h2 : c + (c + 768) / 4 < 2 * L
      · exact growBy_le hL k _ h2
      · cases k with
        | zero => simp [Builtin.growBy]; omega
        | succ k => simp only [Builtin.growBy]; rw [if_pos (by omega)]; omega
theorem nextcap_le {L c : Nat} (h : c < L) : Builtin.nextslicecap L c ≤ 2 * L := by
  unfold Builtin.nextslicecap
  split
  · omega
  · split
    · omega
    · exact growBy_le (by omega) 4 c (by omega)

/-- The cells that are to be appended, or copied. -/
theorem run_first {sz k c : Nat} {b : Option Ad} {o : Bool} {v : Value} {j : Nat} (hR : Rel K m base H w) (hv : (Cell.sl b k c o).R m H.length v) (hj : j ≤ k) {new : List Cell}
    (hn : match b with | none => new = [] | some b => H.ldn b (j * sz) = some new) : ∃ vs : Array Value, (∀ w' : World, w'.heap = w.heap → (Builtin.firstCells sz j v).run K.P w' = .ok vs w') ∧ RL m H.length new vs.toList ∧ new.length = j * sz := by
  cases b with
  | none =>
    obtain ⟨rfl, _, _, rfl⟩ := hv
    simp only [] at hn
    subst hn
    have : j = 0 := by omega
    subst this
    exact ⟨#[], fun _ _ => rfl, .nil, by simp⟩
  | some b =>
    obtain ⟨hl, hkc, A, c', rfl, hc', hA⟩ := hv
    simp only [] at hn
    obtain ⟨vs, h1, h2⟩ := hR.loads hn
    refine ⟨vs, ?_, h2, (hR.cells hn).1⟩
    rcases hA with rfl | h0
    · exact h1
    · have hj0 : j = 0 := by split at hc' <;> omega
      subst hj0
      intro w' hw'
      have h1' := h1 w' hw'
      simp only [Nat.zero_mul] at h1'
      simp only [Builtin.firstCells, Nat.zero_mul]
      have e1 : (loadCells (adr m b) 0).run K.P w' = .ok #[] w' := rfl
      rw [e1] at h1'
      cases h1'
      rfl

theorem zeroCells_size (z : Array Value) (n : Nat) : (Builtin.zeroCells z n).size = n * z.size := by simp [Builtin.zeroCells]


structure AppT (P : Program) (ts : Array TypeId) (e : TypeId) (i : TypeInfo) (z : Value) : Prop where
  sl : ∃ T, ts[0]? = some T ∧ P.underlying T = some (.slice e)
  info : P.info? e = some i
  zero : i.zero = some z
  zsize : z.cells.size = i.size
  pos : 0 < i.size
  more : ∃ T d, ts[1]? = some T ∧ P.underlying T = some d ∧ ∀ k, d ≠ .int k

theorem run_append_room {P : Program} {w w' : World} {ts : Array TypeId} {ty e : TypeId} {i : TypeInfo} {z : Value} (hT : AppT P ts e i z) {A : Option Addr} {n c k : Nat} {x : Value} (hk : Builtin.lenOf x = pure k) (hle : n + k ≤ c) {new : Array Value}
    (hn : (Builtin.firstCells i.size k x).run P w = .ok new w) (hs : (match A with | some a => storeCells (a.add (n * i.size)) new.toList | none => pure () : Sem Unit).run P w = .ok () w') :
    (Builtin.append_ ts ty #[.slice A n c, x]).run P w = .ok (.slice A (n + k) c) w' := by
  obtain ⟨T, hT1, hT2⟩ := hT.sl
  obtain ⟨T2, d2, hT3, hT4, hT5⟩ := hT.more
  have e0 : (#[.slice A n c, x] : Array Value)[0]? = some (.slice A n c) := rfl
  have e1 : (#[.slice A n c, x] : Array Value)[1]? = some x := rfl
  have hm : (match d2 with | .int _ => true | _ => false) = false := by
    cases d2 <;> first | rfl | exact absurd rfl (hT5 _)
  unfold Builtin.append_
  simp only [hT1, e0, e1, hT3, Sem.run_bind, run_underlying hT2, Result.andThen_ok, run_size hT.info, run_underlying hT4, hm, Sem.run_pure, Bool.false_eq_true, if_false, hk]
  rw [if_pos hle]
  simp only [Bool.not_false, if_true, Sem.run_bind, hn, Result.andThen_ok]
  cases A with
  | none =>
    simp only [Sem.run_pure, Result.ok.injEq, true_and] at hs
    subst hs
    simp only [Sem.run_bind, Sem.run_pure, Result.andThen_ok]
  | some a =>
    simp only [] at hs
    simp only [Sem.run_bind, hs, Result.andThen_ok, Sem.run_pure]

theorem run_append_new {P : Program} {w : World} {ts : Array TypeId} {ty e : TypeId} {i : TypeInfo} {z : Value} (hT : AppT P ts e i z) {A : Option Addr} {n c k : Nat} {x : Value} (hk : Builtin.lenOf x = pure k) (hgt : ¬ n + k ≤ c) (hmost : (n + k) * (i.bytes + 1) ≤ most) {old new : Array Value}
    (ho : ∀ w' : World, w'.heap = w.heap → (Builtin.firstCells i.size n (.slice A n c)).run P w' = .ok old w') (hn : ∀ w' : World, w'.heap = w.heap → (Builtin.firstCells i.size k x).run P w' = .ok new w') :
    ∃ cap rest, n + k ≤ cap ∧ rest.size = (cap - (n + k)) * i.size ∧
      (Builtin.append_ ts ty #[.slice A n c, x]).run P w = .ok (.slice (some ⟨w.heap.size, 0, none⟩) (n + k) cap) (w.drew.alloc (.cells (old ++ new ++ rest) e)) := by
  obtain ⟨T, hT1, hT2⟩ := hT.sl
  obtain ⟨T2, d2, hT3, hT4, hT5⟩ := hT.more
  have e0 : (#[.slice A n c, x] : Array Value)[0]? = some (.slice A n c) := rfl
  have e1 : (#[.slice A n c, x] : Array Value)[1]? = some x := rfl
  have hm : (match d2 with | .int _ => true | _ => false) = false := by
    cases d2 <;> first | rfl | exact absurd rfl (hT5 _)
  have hz : ∀ w : World, (zeroValue e).run P w = .ok z w := fun w => by simp [zeroValue, typeInfo, hT.info, hT.zero]
  have hcap := nextcap_le (show c < n + k by omega)
  have hb : ¬ Builtin.nextslicecap (n + k) c * i.bytes > 2 ^ 48 := by
    have h1 : Builtin.nextslicecap (n + k) c * i.bytes ≤ 2 * (n + k) * i.bytes := Nat.mul_le_mul_right _ hcap
    have h2 : (n + k) * i.bytes ≤ (n + k) * (i.bytes + 1) := Nat.mul_le_mul_left _ (by omega)
    have h3 : 2 * (n + k) * i.bytes = 2 * ((n + k) * i.bytes) := by rw [Nat.mul_assoc]
    have h4 : most = 2 ^ 40 := rfl
    omega
  have hmax : ¬ ((n + k : Nat) : Int) > 9223372036854775807 := by
    have h2 : (n + k) * 1 ≤ (n + k) * (i.bytes + 1) := Nat.mul_le_mul_left _ (by omega)
    have h4 : most = 2 ^ 40 := rfl
    omega
  refine ⟨n + k + w.tape w.drawn (.appendCap (n + k) c e) % (2 ^ 63 - (n + k)), Builtin.zeroCells z.cells (n + k + w.tape w.drawn (.appendCap (n + k) c e) % (2 ^ 63 - (n + k)) - (n + k)), by omega, by rw [zeroCells_size, hT.zsize], ?_⟩
  unfold Builtin.append_
  simp only [hT1, e0, e1, hT3, Sem.run_bind, run_underlying hT2, Result.andThen_ok, run_size hT.info, run_underlying hT4, hm, Sem.run_pure, Bool.false_eq_true, if_false, hk]
  rw [if_neg hgt]
  have hinfo : ∀ w : World, (typeInfo e).run P w = .ok i w := fun w => by simp [typeInfo, hT.info]
  have hch : (choose (.appendCap (n + k) c e)).run P w = .ok (n + k + w.tape w.drawn (.appendCap (n + k) c e) % (2 ^ 63 - (n + k))) w.drew := by
    rw [run_choose]; rfl
  simp only [Sem.run_bind, hinfo, Result.andThen_ok, IntKind.max_i64]
  rw [if_neg (by intro h; exact hmax h.1), Sem.run_bind, hinfo, Result.andThen_ok, if_neg hb]
  simp only [Sem.run_bind, hch, Result.andThen_ok, hinfo, run_askRoom, ho w.drew rfl, Bool.not_false, if_true, hn w.drew rfl, hz, run_newRow, Sem.run_pure]
  rfl


/-- Cells of one of the machine's own blocks, written. -/
theorem run_stores_raw {P : Program} {w : World} {g o : Nat} {C : Array Value} {T : TypeId} {vs : List Value} (hg : w.heap[g]? = some (.cells C T (0, 0))) (hl : o + vs.length ≤ C.size) (h1 : ∀ v ∈ vs, v.oneCell' = true) :
    ∃ C' : Array Value, (storeCells ⟨g, o, none⟩ vs).run P w = .ok () (w.setRow g C') ∧ C'.size = C.size ∧ (∀ j, j < o → C'[j]? = C[j]?) ∧ ∀ j, j < vs.length → C'[o + j]? = vs[j]? := by
  refine ⟨(C.toList.take (o + 0) ++ vs ++ C.toList.drop (o + 0 + vs.length)).toArray, run_storeCells_at P g o T vs 0 C w hg (by omega) h1, ?_, ?_, ?_⟩
  · simp; omega
  · intro j hj
    simp only [Nat.add_zero, List.getElem?_toArray]
    rw [List.append_assoc, List.getElem?_append_left (by simp; omega), List.getElem?_take_of_lt hj]
    simp
  · intro j hj
    simp only [Nat.add_zero, List.getElem?_toArray]
    rw [List.append_assoc, List.getElem?_append_right (by simp; omega), List.getElem?_append_left (by simp; omega)]
    congr 1
    simp; omega

theorem Below.setRow {B : Nat} {w : World} {g : Nat} {C : Array Value} (h : B ≤ g) : Below B w (w.setRow g C) :=
  ⟨rfl, rfl, rfl, by simp, fun k hk => setRow_other w g k C (by omega)⟩

theorem RL.oneCells {m : Inj} {n : Nat} {l : List Cell} {vs : List Value} (h : RL m n l vs) : ∀ v ∈ vs, v.oneCell' = true := by
  intro v hv
  obtain ⟨c, hc⟩ := All2.mem_left h v hv
  exact hc.oneCell'

/-- APPEND. -/
theorem good_appH (hR : Rel K m base H w) {ts : Array TypeId} {ty e : TypeId} {i : TypeInfo} {z : Value} (hT : AppT K.P ts e i z) {a : Option Ad} {n c k : Nat} {o : Bool} {s x : Value} (hs : (Cell.sl a n c o).R m H.length s)
    (hk : Builtin.lenOf x = pure k) {new : List Cell} (hlen : new.length = k * i.size) {nw : Array Value} (hnw : ∀ w' : World, w'.heap = w.heap → (Builtin.firstCells i.size k x).run K.P w' = .ok nw w') (hnR : RL m H.length new nw.toList)
    (h : appH H i.size i.bytes a n c o k new = some r) :
    Good K base m H w ((do pure (Next.value (← Builtin.append_ ts ty #[s, x])) : Sem Next).run K.P w) r := by
  rw [run_v]
  unfold appH at h
  by_cases hle : n + k ≤ c
  · rw [if_pos hle] at h
    cases a with
    | none =>
      simp only [] at h
      split at h
      · rename_i hk0
        cases h
        obtain ⟨rfl, rfl, rfl, rfl⟩ := hs
        subst hk0
        rw [run_append_room hT hk (Nat.zero_le _) (hnw w rfl) (w' := w) rfl]
        exact Good.val hR (show (V.c (.sl none _ _ _)).R m H.length _ from ⟨rfl, rfl, rfl, rfl⟩)
      · cases h
    | some a =>
      obtain ⟨hl, hkc, A, c', rfl, hc', hA⟩ := hs
      have hcc : c ≤ c' := by split at hc' <;> omega
      simp only [] at h
      split at h
      · rename_i hk0
        cases h
        subst hk0
        have hnil : nw.toList = [] := by
          have := hnR.length
          simp at hlen
          rw [hlen] at this
          exact List.length_eq_zero_iff.1 this.symm
        rw [run_append_room hT hk (by omega) (hnw w rfl) (w' := w) (by rw [hnil]; rfl)]
        exact Good.val hR (show (V.c (.sl (some a) _ _ _)).R m H.length _ from ⟨hl, hkc, A, c', rfl, hc', hA⟩)
      · rename_i hk0
        cases hst : H.st (addA a (n * i.size)) new with
        | none => simp [hst] at h
        | some H' =>
          simp [hst] at h; subst h
          have hA' : A = adr m a := by
            rcases hA with hA | h0
            · exact hA
            · omega
          obtain ⟨w', h1, h2, h3, h4⟩ := hR.stores hst hnR
          rw [run_append_room hT hk (by omega) (hnw w rfl) (w' := w') (by simp only [hA', adr_add]; exact h1)]
          refine ⟨m, w', .inl ⟨_, rfl, ?_⟩, h2, by rw [h4]; exact Later.refl _ _, h3⟩
          exact ⟨by rw [h4]; exact hl, hle, A, c', rfl, hc', hA⟩
  · rw [if_neg hle] at h
    split at h
    · cases h
    · rename_i hmost
      cases a with
      | none =>
        simp only [] at h
        split at h
        · rename_i h0
          cases h
          obtain ⟨rfl, rfl, rfl, rfl⟩ := hs
          obtain ⟨cap, rest, hcap, hrest, hrun⟩ := run_append_new (ty := ty) (A := none) hT hk hle (by omega) (old := #[]) (new := nw) (fun w' _ => by simp only [Builtin.firstCells]; rfl) hnw
          rw [hrun]
          simp only [Nat.zero_add] at hcap hrest ⊢
          have hnl := hnR.length
          simp at hnl
          refine ⟨upd m H.length ⟨w.drew.heap.size, 0, cap - k⟩, w.drew.alloc (.cells (#[] ++ nw ++ rest) e), .inl ⟨_, rfl, ?_⟩, hR.drew.alloc (cap - k) ?_ rfl, by simpa using upd_later m H.length _, ((Below.refl _ _).drew).alloc hR.size _⟩
          · refine ⟨by simp, Nat.le_refl _, _, _, rfl, ?_, .inl ?_⟩
            · simp [upd]; omega
            · simp [adr, upd]
          · refine ⟨_, _, _, heap_alloc_new _ _, ?_, fun _ => ⟨hR.size, rfl⟩, ?_⟩
            · intro j c' hj
              obtain ⟨v, hv, hr⟩ := hnR.get hj
              refine ⟨v, ?_, hr.later (upd_later _ _ _)⟩
              have hlt : j < nw.size := by simpa using (List.getElem?_eq_some_iff.1 hv).1
              rw [Array.getElem?_append_left (by simp; omega)]
              simpa using hv
            · intro sz hsz
              cases hsz
              simp only [Nat.zero_add, Array.size_append, hrest, ← hnl, hlen]
              simp
        · cases h
      | some a =>
        obtain ⟨hl, hkc, A, c', rfl, hc', hA⟩ := hs
        have hcc : c ≤ c' := by split at hc' <;> omega
        simp only [] at h
        cases hold : H.ldn a (n * i.size) with
        | none => simp [hold] at h
        | some old =>
          simp only [hold, Option.bind_some] at h
          have hsR : (Cell.sl (some a) n c o).R m H.length (.slice (some A) n c') := ⟨hl, hkc, A, c', rfl, hc', hA⟩
          obtain ⟨ow, how, howR, holen⟩ := run_first (j := n) hR hsR (Nat.le_refl _) (new := old) (sz := i.size) hold
          by_cases hin : n + k ≤ c'
          · -- there is room after all
            have ho : o = true := by
              cases o with
              | true => rfl
              | false => simp at hc'; omega
            subst ho
            simp only [if_true] at hc' h
            split at h
            · rename_i cs sz' hb
              split at h
              · rename_i hsz
                cases h
                obtain ⟨rfl, hend⟩ := hsz
                have hA' : A = adr m a := by
                  rcases hA with hA | h0
                  · exact hA
                  · omega
                subst hA'
                obtain ⟨C, T, fz, hg1, hg2, hg3, hg4⟩ := hR.blk a.1 _ hb
                obtain ⟨hg3', hfz⟩ := hg3 rfl
                clear hg3
                subst hfz
                have hg3 := hg3'
                have hg5 := hg4 _ rfl
                have hnl := hnR.length
                simp at hnl
                have hroom : (m a.1).off + a.2 + n * i.size + nw.size ≤ C.size := by
                  rw [← hnl, hlen, ← hg5, ← hend]
                  have h1 : (n + k) * i.size ≤ (c + (m a.1).extra) * i.size := Nat.mul_le_mul_right _ (by omega)
                  rw [Nat.add_mul, Nat.add_mul] at h1
                  omega
                obtain ⟨C', hrun, hC1, hC2, hC3⟩ := run_stores_raw (P := K.P) (o := (m a.1).off + a.2 + n * i.size) (vs := nw.toList) hg1 (by simpa using hroom) hnR.oneCells
                have happ := run_append_room (ty := ty) (A := some (adr m a)) hT hk hin (hnw w rfl) (w' := w.setRow (m a.1).blk C') (by
                  simp only [adr_add]
                  rw [show adr m (addA a (n * i.size)) = ⟨(m a.1).blk, (m a.1).off + a.2 + n * i.size, none⟩ from by simp [adr, addA, Nat.add_assoc]]
                  exact hrun)
                rw [happ]
                have hlt : a.1 < H.length := hl
                have hR1 : Rel K m base (H.set a.1 .dead) (w.setRow (m a.1).blk C') :=
                  hR.turn hb rfl (by simp) (fun q _ hq => setRow_other w _ q C' hq) trivial (.inr rfl)
                have hsz0 : 0 < i.size := hT.pos
                have hR2 := hR1.push (y := .cells (old ++ new) false (some i.size)) (loc := ⟨(m a.1).blk, (m a.1).off + a.2, c' - (n + k)⟩) (w' := w.setRow (m a.1).blk C') (Nat.le_refl _) (fun _ _ => rfl) (by
                  refine ⟨C', T, (0, 0), setRow_heap w _ C C' T _ hg1, ?_, fun _ => ⟨hg3, rfl⟩, ?_⟩
                  · intro j cc hj
                    rw [List.length_set] at *
                    by_cases hjn : j < n * i.size
                    · rw [List.getElem?_append_left (by omega)] at hj
                      obtain ⟨hol, hoc⟩ := hR.cells hold
                      obtain ⟨v, hv, hr⟩ := hoc j cc hj
                      refine ⟨v, ?_, hr.later (upd_later _ _ _)⟩
                      show C'[(m a.1).off + a.2 + j]? = _
                      rw [hC2 _ (by omega)]
                      simpa [World.cell?, adr, addA, hg1, Nat.add_assoc] using hv
                    · rw [List.getElem?_append_right (by omega)] at hj
                      obtain ⟨v, hv, hr⟩ := hnR.get hj
                      refine ⟨v, ?_, hr.later (upd_later _ _ _)⟩
                      have hlt' : j - old.length < nw.toList.length := (List.getElem?_eq_some_iff.1 hv).1
                      show C'[(m a.1).off + a.2 + j]? = _
                      rw [← hv, ← hC3 _ hlt']
                      congr 1
                      omega
                  · intro sz hsz
                    cases hsz
                    simp only [List.length_append, hlen, holen, hC1]
                    rw [← hg5, ← hend]
                    have h1 : (c + (m a.1).extra) * i.size = (n + k + (c' - (n + k))) * i.size := by congr 1; omega
                    rw [Nat.add_mul, Nat.add_mul, Nat.add_mul] at h1
                    omega) rfl (by
                  intro b x hbx hxo
                  by_cases hba : b = a.1
                  · subst hba
                    rw [List.getElem?_set_self hlt] at hbx
                    cases hbx
                    simp [Blk.own] at hxo
                  · rw [List.getElem?_set_ne (by omega)] at hbx
                    exact hR.inj b a.1 _ _ hbx hb hba hxo rfl)
                rw [List.length_set] at hR2
                refine ⟨_, _, .inl ⟨_, rfl, ?_⟩, hR2, by simpa using upd_later m H.length _, Below.setRow hg3⟩
                refine ⟨by simp, Nat.le_refl _, _, _, rfl, ?_, .inl ?_⟩
                · simp [upd]; omega
                · simp [adr, upd]
              · cases h
            · cases h
          · -- a new block
            obtain ⟨cap, rest, hcap, hrest, hrun⟩ := run_append_new (ty := ty) hT hk hin (by omega) (old := ow) (new := nw) how hnw
            rw [hrun]
            have hnl := hnR.length
            have hol := howR.length
            simp at hnl hol
            have mk : ∀ (H1 : Heap), H1.length = H.length → Rel K m base H1 w → Good K base m H w (.ok (.value (.slice (some ⟨w.heap.size, 0, none⟩) (n + k) cap)) (w.drew.alloc (.cells (ow ++ nw ++ rest) e)))
                (.v (.c (.sl (some (H.length, 0)) (n + k) (n + k) true)), H1 ++ [.cells (old ++ new) false (some i.size)]) := by
              intro H1 hlen1 hR1
              have hR2 := hR1.drew.alloc (y := .cells (old ++ new) false (some i.size)) (o := .cells (ow ++ nw ++ rest) e) (cap - (n + k)) (by
                refine ⟨_, _, _, heap_alloc_new _ _, ?_, fun _ => ⟨hR.size, rfl⟩, ?_⟩
                · intro j cc hj
                  rw [hlen1]
                  obtain ⟨v, hv, hr⟩ := (howR.append hnR).get hj
                  refine ⟨v, ?_, hr.later (upd_later _ _ _)⟩
                  have hlt : j < ow.size + nw.size := by simpa using (List.getElem?_eq_some_iff.1 hv).1
                  rw [Array.getElem?_append_left (by simp; omega)]
                  rw [← Array.toList_append, Array.getElem?_toList] at hv
                  simpa using hv
                · intro sz hsz
                  cases hsz
                  simp only [Nat.zero_add, Array.size_append, hrest, ← hnl, ← hol, List.length_append]) rfl
              rw [hlen1] at hR2
              refine ⟨_, _, .inl ⟨_, rfl, ?_⟩, hR2, by simpa [hlen1] using upd_later m H.length _, ((Below.refl _ _).drew).alloc hR.size _⟩
              refine ⟨by simp [hlen1], Nat.le_refl _, _, _, rfl, ?_, .inl ?_⟩
              · simp [upd]; omega
              · simp [adr, upd]
            cases o with
            | false =>
              simp only [Bool.false_eq_true, if_false] at h
              cases h
              exact mk H rfl hR
            | true =>
              simp only [if_true] at h
              split at h
              · rename_i cs sz' hb
                split at h
                · cases h
                  exact mk (H.set a.1 .dead) (by simp) (hR.turn hb rfl (Nat.le_refl _) (fun _ _ _ => rfl) trivial (.inr rfl))
                · cases h
              · cases h

end
end Go.Proofs.Ytnepeleepmhdaaa.AM
