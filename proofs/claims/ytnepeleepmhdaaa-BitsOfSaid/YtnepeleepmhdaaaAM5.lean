/- AM, fifth text: more operations: making, literals, numbers. -/
import Derived.Test.YtnepeleepmhdaaaAM4
set_option linter.unusedVariables false
set_option linter.unusedSimpArgs false
namespace Go.Proofs.Ytnepeleepmhdaaa.AM
open Go Go.RowKit

section
variable {K : Ctx} {m : Inj} {base : Nat} {H : Heap} {w : World} {ρ : X → V} {ρc : Operand → Value} {r : AN × Heap}

theorem good_mv (hR : Rel K m base H w) (hρ : Ops K m H.length ρ ρc) {x : Operand} {x' : X} (hx : cX K.G x = some x') (h : aop ρ (.mv x') H = some r) :
    Good K base m H w (.ok (.value (ρc x)) w) r := by
  simp only [aop, Option.some.injEq] at h
  subst h
  exact Good.val hR (hρ x x' hx)

theorem V.R_bool {m : Inj} {n : Nat} {b : Bool} {v : Value} (h : (V.c (.bool b)).R m n v) : v = .bool b := h
theorem V.R_int {m : Inj} {n : Nat} {k : IntKind} {i : Int} {v : Value} (h : (V.c (.int k i)).R m n v) : v = .int k i := h

theorem good_pick (hR : Rel K m base H w) (hρ : Ops K m H.length ρ ρc) {c a b : Operand} {c' a' b' : X} (hc : cX K.G c = some c') (ha : cX K.G a = some a') (hb : cX K.G b = some b') (h : aop ρ (.pick c' a' b') H = some r) :
    Good K base m H w ((do pure (Next.value (if ← asBool (ρc c) then ρc a else ρc b)) : Sem Next).run K.P w) r := by
  simp only [aop] at h
  split at h
  · rename_i t ht
    cases h
    have hv := hρ c c' hc
    rw [ht] at hv
    rw [V.R_bool hv]
    simp only [asBool, Sem.run_bind, Sem.run_pure, Result.andThen_ok]
    cases t
    · exact Good.val hR (hρ b b' hb)
    · exact Good.val hR (hρ a a' ha)
  · cases h

theorem run_newVar (P : Program) (w : World) (T : TypeId) (v : Value) : (newVar T v).run P w = .ok ⟨w.heap.size, 0, none⟩ (w.alloc (.cells v.cells T)) := by
  simp [newVar, newRow]
theorem run_newRow (P : Program) (w : World) (T : TypeId) (cs : Array Value) : (newRow T cs).run P w = .ok ⟨w.heap.size, 0, none⟩ (w.alloc (.cells cs T)) := by
  simp [newRow]

theorem good_new (hR : Rel K m base H w) {T : TypeId} {z : V} (hz : zOf K.P T = some z) (h : aop ρ (.new T z) H = some r) :
    Good K base m H w ((do pure (Next.value (← Instr.alloc T true (.tuple #[]))) : Sem Next).run K.P w) r := by
  simp only [aop] at h
  cases hc : z.cells with
  | none => simp [hc] at h
  | some cs =>
    simp [hc] at h; subst h
    obtain ⟨v, h1, h2⟩ := run_zOf hz w
    rw [run_v]
    simp only [Instr.alloc, Sem.run_bind, h1, Result.andThen_ok, run_newVar, Sem.run_pure]
    exact Good.fresh_ptr hR T ((vOf_R h2 m H.length).cells hc)

theorem good_box (hR : Rel K m base H w) (hρ : Ops K m H.length ρ ρc) {T : TypeId} {x : Operand} {x' : X} (hx : cX K.G x = some x') (h : aop ρ (.box T x') H = some r) :
    Good K base m H w ((do pure (Next.value (← Instr.box T (ρc x))) : Sem Next).run K.P w) r := by
  simp only [aop] at h
  cases hc : (ρ x').cells with
  | none => simp [hc] at h
  | some cs =>
    simp [hc] at h; subst h
    rw [run_v]
    simp only [Instr.box, Sem.run_bind, Result.andThen_ok, run_newVar, Sem.run_pure]
    exact Good.fresh_ptr hR T ((hρ x x' hx).cells hc)

/-! ### Literals -/
theorem RL_put {m : Inj} {n : Nat} : ∀ {xs : List Cell} {vs : List Value} (_ : RL m n xs vs) (o : Nat) {cs : List Cell} {C : Array Value}, RL m n cs C.toList →
    RL m n (put cs o xs) ((vs.zipIdx o).foldl (fun cs (c, j) => cs.setIfInBounds j c) C).toList := by
  intro xs vs h
  induction h with
  | nil => intro o cs C hC; exact hC
  | cons hx _ ih =>
    intro o cs C hC
    simp only [put, List.zipIdx_cons, List.foldl_cons]
    refine ih (o + 1) ?_
    rw [Array.toList_setIfInBounds]
    exact hC.set hx

theorem foldl_shift (vs : List Value) (o s : Nat) (C : Array Value) :
    (vs.zipIdx s).foldl (fun cs (c, j) => cs.setIfInBounds (o + j) c) C = (vs.zipIdx (o + s)).foldl (fun cs (c, j) => cs.setIfInBounds j c) C := by
  induction vs generalizing s C with
  | nil => rfl
  | cons v vs ih =>
    simp only [List.zipIdx_cons, List.foldl_cons]
    rw [ih (s + 1)]
    rfl

theorem fill_R {m : Inj} {n : Nat} {place : Nat → Option (Nat × Nat)} : ∀ (ps : List (Nat × Value)) (qs : List (Nat × Nat × V)), All2 (fun (p : Nat × Value) (q : Nat × Nat × V) => place p.1 = some (q.1, q.2.1) ∧ q.2.2.R m n p.2) ps qs →
    ∀ (cs : List Cell) (C : Array Value) (l : List Cell), RL m n cs C.toList → fillB cs qs = some l → ∃ D, Instr.fill place C ps = some D ∧ RL m n l D.toList := by
  intro ps qs h
  induction h with
  | nil => intro cs C l hC hl; simp [fillB] at hl; subst hl; exact ⟨C, rfl, hC⟩
  | @cons p q ps qs hp _ ih =>
    intro cs C l hC hl
    obtain ⟨hp1, hp2⟩ := hp
    obtain ⟨i, v⟩ := p
    obtain ⟨o, s, x⟩ := q
    simp only [fillB] at hl
    split at hl
    · rename_i xs hxs
      split at hl
      · rename_i hlen
        have hv := hp2.cells hxs
        have hsz := hp2.size hxs
        have hCl := hC.length
        simp at hCl hsz
        have := hlen.1
        obtain ⟨D, h1, h2⟩ := ih (put cs o xs) ((v.cells.toList.zipIdx o).foldl (fun cs (c, j) => cs.setIfInBounds j c) C) l (RL_put hv o hC) hl
        refine ⟨D, ?_, h2⟩
        simp only [Instr.fill, hp1]
        rw [if_neg (by simp; omega)]
        rw [← h1, ← Array.foldl_toList, Array.toList_zipIdx]
        congr 1
        exact (foldl_shift _ _ 0 _)
      · cases hl
    · cases hl

theorem places_R {m : Inj} {n : Nat} (hρ : Ops K m n ρ ρc) {at_ : Nat → Option (Nat × Nat)} : ∀ {ps : List (Nat × Operand)} {qs : List (Nat × Nat × X)}, places K.P K.G at_ ps = some qs →
    All2 (fun (p : Nat × Value) (q : Nat × Nat × V) => at_ p.1 = some (q.1, q.2.1) ∧ q.2.2.R m n p.2) (ps.map fun p => (p.1, ρc p.2)) (qs.map fun q => (q.1, q.2.1, ρ q.2.2)) := by
  intro ps
  induction ps with
  | nil => intro qs h; simp [places] at h; subst h; exact .nil
  | cons p ps ih =>
    intro qs h
    obtain ⟨i, x⟩ := p
    simp only [places] at h
    cases h1 : at_ i with
    | none => simp [h1] at h
    | some q =>
      cases h2 : cX K.G x with
      | none => simp [h1, h2] at h
      | some y =>
        cases h3 : places K.P K.G at_ ps with
        | none => simp [h1, h2, h3] at h
        | some qs' => simp [h1, h2, h3] at h; subst h; exact .cons ⟨h1, hρ x y h2⟩ (ih h3)

theorem fields_mapM {P : Program} {w : World} (fs : List Field) (h : ∀ f ∈ fs, ∃ i, P.info? f.type = some i) :
    (fs.mapM fun f => do pure (f.offset, ← sizeOf f.type) : Sem (List (Nat × Nat))).run P w = .ok (fs.map fun f => (f.offset, (szOf P f.type).getD 0)) w := by
  induction fs with
  | nil => simp
  | cons f fs ih =>
    obtain ⟨i, hi⟩ := h f (by simp)
    rw [List.mapM_cons]
    simp only [Sem.run_bind, run_size hi, Result.andThen_ok, Sem.run_pure, ih (fun f hf => h f (by simp [hf]))]
    simp [szOf, hi]

theorem good_build_struct (hR : Rel K m base H w) (hρ : Ops K m H.length ρ ρc) {T : TypeId} {fs : Array Field} (hu : K.P.underlying T = some (.struct fs)) (hfs : fs.toList.all (fun f => (K.P.info? f.type).isSome) = true)
    {z : V} (hz : zOf K.P T = some z) {zc : List Cell} (hzc : z.cells = some zc) {ps : Array (Nat × Operand)} {qs : List (Nat × Nat × X)} (hp : places K.P K.G (fieldsAt K.P fs) ps.toList = some qs) (h : aop ρ (.build zc qs) H = some r) :
    Good K base m H w ((do pure (Next.value (← Instr.build T (ps.map fun (i, x) => (i, ρc x)))) : Sem Next).run K.P w) r := by
  simp only [aop] at h
  cases hf : fillB zc (qs.map fun p => (p.1, p.2.1, ρ p.2.2)) with
  | none => simp [hf] at h
  | some cs =>
    simp [hf] at h; subst h
    obtain ⟨v, h1, h2⟩ := run_zOf hz w
    have hzR := (vOf_R h2 m H.length).cells hzc
    have hpl := places_R hρ hp
    have hmap : (fs.mapM fun f => do pure (f.offset, ← sizeOf f.type) : Sem (Array (Nat × Nat))).run K.P w = .ok (fs.map fun f => (f.offset, (szOf K.P f.type).getD 0)) w := by
      have := fields_mapM (P := K.P) (w := w) fs.toList (fun f hf => by
        have := List.all_eq_true.1 hfs f hf
        exact Option.isSome_iff_exists.1 this)
      rw [Array.mapM_eq_mapM_toList]
      simp only [Sem.run_map, this, Result.andThen_ok]
      simp [← Array.toList_map]
    have hplace : ∀ i p, fieldsAt K.P fs i = some p → ((fs.map fun f => (f.offset, (szOf K.P f.type).getD 0))[i]? : Option (Nat × Nat)) = some p := by
      intro i p hp
      unfold fieldsAt at hp
      cases hi : fs[i]? with
      | none => simp [hi] at hp
      | some f =>
        cases hs : szOf K.P f.type with
        | none => simp [hi, hs] at hp
        | some n => simp [hi, hs] at hp; subst hp; simp [hi, hs]
    obtain ⟨D, h3, h4⟩ := fill_R (place := ((fs.map fun f => (f.offset, (szOf K.P f.type).getD 0))[·]?)) _ _ (hpl.imp fun p q hh => ⟨hplace _ _ hh.1, hh.2⟩) zc v.cells cs hzR hf
    rw [run_v]
    have : (Instr.build T (ps.map fun (i, x) => (i, ρc x))).run K.P w = .ok (.agg D) w := by
      unfold Instr.build
      simp only [Sem.run_bind, h1, Result.andThen_ok, run_underlying hu, hmap, Sem.run_map]
      have e : (ps.map fun (i, x) => (i, ρc x)).toList = ps.toList.map fun p => (p.1, ρc p.2) := by simp
      rw [e, h3]
      rfl
    rw [this]
    exact Good.val hR ⟨D, rfl, h4⟩

theorem good_build_array (hR : Rel K m base H w) (hρ : Ops K m H.length ρ ρc) {T e : TypeId} {k n : Nat} (hu : K.P.underlying T = some (.array k e)) (hn : szOf K.P e = some n)
    {z : V} (hz : zOf K.P T = some z) {zc : List Cell} (hzc : z.cells = some zc) {ps : Array (Nat × Operand)} {qs : List (Nat × Nat × X)} (hp : places K.P K.G (fun i => some (i * n, n)) ps.toList = some qs) (h : aop ρ (.build zc qs) H = some r) :
    Good K base m H w ((do pure (Next.value (← Instr.build T (ps.map fun (i, x) => (i, ρc x)))) : Sem Next).run K.P w) r := by
  simp only [aop] at h
  cases hf : fillB zc (qs.map fun p => (p.1, p.2.1, ρ p.2.2)) with
  | none => simp [hf] at h
  | some cs =>
    simp [hf] at h; subst h
    obtain ⟨v, h1, h2⟩ := run_zOf hz w
    have hzR := (vOf_R h2 m H.length).cells hzc
    have hpl := places_R hρ hp
    obtain ⟨D, h3, h4⟩ := fill_R (place := fun i => some (i * n, n)) _ _ hpl zc v.cells cs hzR hf
    rw [run_v]
    have : (Instr.build T (ps.map fun (i, x) => (i, ρc x))).run K.P w = .ok (.agg D) w := by
      unfold Instr.build
      simp only [Sem.run_bind, h1, Result.andThen_ok, run_underlying hu, run_szOf hn]
      have e : (ps.map fun (i, x) => (i, ρc x)).toList = ps.toList.map fun p => (p.1, ρc p.2) := by simp
      rw [e, h3]
      rfl
    rw [this]
    exact Good.val hR ⟨D, rfl, h4⟩

theorem grows_length (z : List Cell) (n : Nat) : (grows z n).length = n * z.length := by
  simp [grows]
theorem grows_get (z : List Cell) : ∀ (n i : Nat), i < n * z.length → (grows z n)[i]? = z[i % z.length]?
  | 0, i, h => by simp at h
  | n + 1, i, h => by
    have e : grows z (n + 1) = z ++ grows z n := by simp [grows, List.replicate_succ]
    rw [e]
    by_cases hi : i < z.length
    · rw [List.getElem?_append_left hi, Nat.mod_eq_of_lt hi]
    · rw [List.getElem?_append_right (by omega), grows_get z n (i - z.length) (by rw [Nat.add_mul] at h; omega)]
      congr 1
      rw [← Nat.mod_eq_sub_mod (by omega)]

theorem getD_bang {α : Type} [Inhabited α] (a : Array α) (i : Nat) (v : α) (h : a.toList[i]? = some v) : a[i]! = v := by
  simp at h
  simp [getElem!_def, h]

theorem RL_grows {m : Inj} {n : Nat} {z : List Cell} {zero : Array Value} (hz : RL m n z zero.toList) (k : Nat) :
    RL m n (grows z k) ((Array.range (k * z.length)).map (fun i => zero[i % zero.size]!)).toList := by
  have hl := hz.length
  simp at hl
  refine All2.of_get (by simp [grows_length]) fun i c hi => ?_
  have hlt : i < k * z.length := by have := (List.getElem?_eq_some_iff.1 hi).1; rwa [grows_length] at this
  rw [grows_get z k i hlt] at hi
  obtain ⟨v, hv, hr⟩ := hz.get hi
  refine ⟨v, ?_, hr⟩
  simp only [Array.toList_map, Array.toList_range, List.getElem?_map, List.getElem?_range hlt, Option.map_some]
  rw [← hl, getD_bang _ _ _ hv]

theorem Good.fresh_sl (hR : Rel K m base H w) {cs : List Cell} {vs : Array Value} (T : TypeId) (h : RL m H.length cs vs.toList) (n c : Nat) (hnc : n ≤ c) :
    Good K base m H w (.ok (.value (.slice (some ⟨w.heap.size, 0, none⟩) n c)) (w.alloc (.cells vs T))) (.v (.c (.sl (some (H.length, 0)) n c false)), H ++ [.cells cs false none]) := by
  refine ⟨_, _, .inl ⟨_, rfl, ?_⟩, hR.fresh T h none, by rw [List.length_append]; exact upd_later _ _ _, (Below.refl _ _).alloc hR.size _⟩
  exact ⟨by simp, hnc, _, _, rfl, by simp, .inl (by rw [adr_new])⟩

theorem good_bsl (hR : Rel K m base H w) (hρ : Ops K m H.length ρ ρc) {T e : TypeId} {len n : Nat} (hu : K.P.underlying T = some (.slice e)) (hn : szOf K.P e = some n)
    {z : V} (hz : zOf K.P e = some z) {zc : List Cell} (hzc : z.cells = some zc) (hlen : zc.length = n ∧ len * n ≤ 2 ^ 24) {ps : Array (Nat × Operand)} {qs : List (Nat × Nat × X)} (hp : places K.P K.G (fun i => some (i * n, n)) ps.toList = some qs)
    (h : aop ρ (.bsl e len (grows zc len) qs) H = some r) :
    Good K base m H w ((do pure (Next.value (← Instr.buildSlice T len (ps.map fun (i, x) => (i, ρc x)))) : Sem Next).run K.P w) r := by
  simp only [aop] at h
  cases hf : fillB (grows zc len) (qs.map fun p => (p.1, p.2.1, ρ p.2.2)) with
  | none => simp [hf] at h
  | some cs =>
    simp [hf] at h; subst h
    obtain ⟨v, h1, h2⟩ := run_zOf hz w
    have hzR := (vOf_R h2 m H.length).cells hzc
    have hpl := places_R hρ hp
    obtain ⟨hl1, hl2⟩ := hlen
    subst hl1
    have e' : (ps.map fun (i, x) => (i, ρc x)).toList = ps.toList.map fun p => (p.1, ρc p.2) := by simp
    obtain ⟨D, h4, this⟩ : ∃ D : Array Value, RL m H.length cs D.toList ∧ (Instr.buildSlice T len (ps.map fun (i, x) => (i, ρc x))).run K.P w = .ok (.slice (some ⟨w.heap.size, 0, none⟩) len len) (w.alloc (.cells D e)) := by
      by_cases h0 : len * zc.length = 0
      · have hZ2 : RL m H.length (grows zc len) ((Array.range (len * zc.length)).map (fun i => (#[] : Array Value)[i % (#[] : Array Value).size]!)).toList := by
          have : (grows zc len).length = 0 := by rw [grows_length]; exact h0
          rw [List.length_eq_zero_iff.1 this, h0]
          exact (show RL m H.length [] ((Array.range 0).map _).toList from by simpa using All2.nil)
        obtain ⟨D, h3, h4⟩ := fill_R (place := fun i => some (i * zc.length, zc.length)) _ _ hpl (grows zc len) _ cs hZ2 hf
        refine ⟨D, h4, ?_⟩
        unfold Instr.buildSlice
        simp only [Sem.run_bind, run_underlying hu, Result.andThen_ok, run_szOf hn]
        rw [if_neg (by omega), if_pos h0, e']
        simp only [Sem.run_bind, Sem.run_pure, Result.andThen_ok]
        rw [h3]
        simp [run_newRow]
      · obtain ⟨D, h3, h4⟩ := fill_R (place := fun i => some (i * zc.length, zc.length)) _ _ hpl (grows zc len) _ cs (RL_grows hzR len) hf
        refine ⟨D, h4, ?_⟩
        unfold Instr.buildSlice
        simp only [Sem.run_bind, run_underlying hu, Result.andThen_ok, run_szOf hn]
        rw [if_neg (by omega), if_neg h0, e']
        simp only [Sem.run_bind, Sem.run_pure, Result.andThen_ok, h1]
        rw [h3]
        simp [run_newRow]
    rw [run_v, this]
    exact Good.fresh_sl hR e h4 len len (Nat.le_refl _)

end
end Go.Proofs.Ytnepeleepmhdaaa.AM
