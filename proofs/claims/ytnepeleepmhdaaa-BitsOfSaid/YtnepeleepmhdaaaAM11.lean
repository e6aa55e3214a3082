/- AM, eleventh text: bytes to a string, maps, max and min. -/
import Derived.Test.YtnepeleepmhdaaaAM10
set_option linter.unusedVariables false
set_option linter.unusedSimpArgs false
namespace Go.Proofs.Ytnepeleepmhdaaa.AM
open Go Go.RowKit

section
variable {K : Ctx} {m : Inj} {base : Nat} {H : Heap} {w : World} {ρ : X → V} {ρc : Operand → Value} {r : AN × Heap}

theorem good_b2s (hR : Rel K m base H w) (hρ : Ops K m H.length ρ ρc) {s d e : TypeId} (hs : K.P.underlying s = some (.slice e)) (hd : K.P.underlying d = some .string) (he : K.P.underlying e = some (.int .u8)) {x : Operand} {x' : X} (hx : cX K.G x = some x')
    (h : aop ρ (.b2s x') H = some r) : Good K base m H w ((do pure (Next.value (← convert s d (ρc x))) : Sem Next).run K.P w) r := by
  simp only [aop] at h
  have hxR := hρ x x' hx
  rw [run_v]
  have conv : ∀ p k c', ρc x = .slice p k c' → (convert s d (ρc x)).run K.P w = (Conv.bytesToString (.slice p k c')).run K.P w := by
    intro p k c' hv
    rw [hv]
    simp only [convert, Sem.run_bind, run_underlying hs, run_underlying hd, Result.andThen_ok]
    cases p <;> simp only [Sem.run_bind, run_underlying he, Result.andThen_ok]
  split at h
  · rename_i c o h1
    cases h
    rw [h1] at hxR
    obtain ⟨_, _, _, hv⟩ := hxR
    rw [conv _ _ _ hv]
    exact Good.val hR (show (V.c (.str _)).R m H.length _ from rfl)
  · rename_i a k c o h1
    rw [h1] at hxR
    cases hl : H.ldn a k with
    | none => simp [hl] at h
    | some cs =>
      cases hb : bytesOf cs with
      | none => simp [hl, hb] at h
      | some l =>
        simp [hl, hb] at h; subst h
        have hxR' : (Cell.sl (some a) k c o).R m H.length (ρc x) := hxR
        obtain ⟨vs, hn1, hn2, hn3⟩ := run_first (sz := 1) (j := k) hR hxR' (Nat.le_refl _) (new := cs) (by rw [Nat.mul_one]; exact hl)
        obtain ⟨_, _, A, c', hv, _, _⟩ := hxR'
        rw [conv _ _ _ hv]
        have hload : (loadCells A k).run K.P w = .ok vs w := by
          have := hn1 w rfl
          rw [hv] at this
          simpa [Builtin.firstCells] using this
        have : (Conv.bytesToString (.slice (some A) k c')).run K.P w = .ok (.string (ByteArray.empty ++ ⟨l.toArray⟩)) w := by
          unfold Conv.bytesToString
          simp only [Sem.run_bind, hload, Result.andThen_ok]
          have := forIn_bytes (P := K.P) (w := w) vs.toList l ByteArray.empty (bytesOf_R hn2 hb)
          rw [← Array.forIn_toList]
          exact Eq.trans (congrArg (fun r : Result ByteArray => r.andThen fun a w' => Sem.run K.P (pure (Value.string a)) w') this) rfl
        rw [this]
        have e : ByteArray.empty ++ (⟨l.toArray⟩ : ByteArray) = ⟨l.toArray⟩ := by apply ByteArray.ext; simp
        rw [e]
        exact Good.val hR (show (V.c (.str _)).R m H.length _ from rfl)
  · cases h

/-! ### Maps -/
def KK.fits : KK → TypeDesc → Prop
  | .int, d => ∃ k, d = .int k
  | .bool, d => d = .bool
  | .str, d => d = .string
theorem keyT_spec {P : Program} {T : TypeId} {kk : KK} (h : keyT P T = some kk) : ∃ d, P.underlying T = some d ∧ kk.fits d := by
  unfold keyT at h
  split at h <;> first | (cases h; done) | (cases h; rename_i e; exact ⟨_, e, _, rfl⟩) | (cases h; rename_i e; exact ⟨_, e, rfl⟩)

/-- What a search finds. -/
def FoundR (m : Inj) (n : Nat) (f : Option (Option (Nat × Value))) : Option V → Prop
  | none => f = some none
  | some v => ∃ j u, f = some (some (j, u)) ∧ v.R m n u

theorem findE_R {kk : KK} {d : TypeDesc} (hd : kk.fits d) {k : Cell} (hk : kk.ok k = true) {n : Nat} {kv : Value} (hkR : k.R m n kv) : ∀ {es : List (Cell × V)} {E : List MapEntry} {e : Option V} (i : Nat),
    All2 (fun (x : Cell × V) (e : MapEntry) => x.1.R m n e.key ∧ x.2.R m n e.val) es E → findE k es = some e → FoundR m n (Instr.findNow d kv E i) e := by
  intro es
  induction es with
  | nil =>
    intro E e i hE h
    cases hE
    simp [findE] at h; subst h
    rfl
  | cons x es ih =>
    intro E e i hE h
    obtain ⟨k', v⟩ := x
    cases hE with
    | @cons _ en _ E hx hE =>
      obtain ⟨hx1, hx2⟩ := hx
      simp only [] at hx1 hx2
      have step : ∀ b : Bool, Instr.sameNow d kv en.key = some b → (if b = true then e = some v else findE k es = some e) → FoundR m n (Instr.findNow d kv (en :: E) i) e := by
        intro b hb he
        cases b with
        | true =>
          simp only [if_true] at he
          subst he
          exact ⟨i, en.val, by simp only [Instr.findNow, hb], hx2⟩
        | false =>
          simp only [Bool.false_eq_true, if_false] at he
          have := ih (i + 1) hE he
          simp only [Instr.findNow, hb]
          exact this
      unfold findE at h
      split at h
      · rename_i p a q b
        have e1 : kv = .int p a := hkR
        have e2 : en.key = .int q b := hx1
        cases kk <;> simp [KK.ok] at hk
        obtain ⟨kd, rfl⟩ := hd
        split at h
        · rename_i hpq
          refine step (a == b) (by simp [Instr.sameNow, e1, e2, hpq]) ?_
          split at h <;> simp_all
        · cases h
      · rename_i a b
        have e1 : kv = .string a := hkR
        have e2 : en.key = .string b := hx1
        cases kk <;> simp [KK.ok] at hk
        cases hd
        refine step (a == b) (by simp [Instr.sameNow, e1, e2]) ?_
        split at h <;> simp_all
      · rename_i a b
        have e1 : kv = .bool a := hkR
        have e2 : en.key = .bool b := hx1
        cases kk <;> simp [KK.ok] at hk
        cases hd
        refine step (a == b) (by simp [Instr.sameNow, e1, e2]) ?_
        split at h <;> simp_all
      · cases h

theorem run_checkKey {P : Program} {w : World} {kk : KK} {d : TypeDesc} (hd : kk.fits d) {T : TypeId} (hT : P.underlying T = some d) (b : Bool) (n : Nat) (v : Value) : (Instr.checkKey b (n + 1) T v).run P w = .ok () w := by
  unfold Instr.checkKey
  rw [Sem.run_bind, run_underlying hT, Result.andThen_ok]
  cases kk with
  | int => obtain ⟨k, rfl⟩ := hd; rfl
  | bool => cases hd; rfl
  | str => cases hd; rfl

theorem good_mkmap (hR : Rel K m base H w) (hρ : Ops K m H.length ρ ρc) {T : TypeId} {x : Option Operand} {x' : Option X} (hx : (x = none ∧ x' = none) ∨ ((∃ a b, K.P.underlying T = some (.map a b)) ∧ ∃ y y', x = some y ∧ x' = some y' ∧ cX K.G y = some y')) (h : aop ρ (.mkmap x') H = some r) :
    Good K base m H w ((do pure (Next.value (← Instr.makeMap T (x.map ρc))) : Sem Next).run K.P w) r := by
  have key : r = (.v (.c (.map (some H.length))), H ++ [.map []]) ∧ (Instr.makeMap T (x.map ρc)).run K.P w = .ok (.map (some w.heap.size)) (w.alloc (.map #[] 0)) := by
    rcases hx with ⟨rfl, rfl⟩ | ⟨⟨a, b, hu⟩, y, y', rfl, rfl, hy⟩
    · simp only [aop, Option.some.injEq] at h
      exact ⟨h.symm, by simp [Instr.makeMap]⟩
    · simp only [aop] at h
      cases hi : asI (ρ y') with
      | none => simp [hi] at h
      | some i =>
        simp [hi] at h
        obtain ⟨k, hk⟩ := asI_R hi (hρ y y' hy)
        exact ⟨h.symm, by simp [Instr.makeMap, run_underlying hu, asInt, asIntOf, hk]⟩
  obtain ⟨rfl, hrun⟩ := key
  rw [run_v, hrun]
  refine ⟨_, _, .inl ⟨_, rfl, ?_⟩, hR.alloc (y := .map []) 0 ⟨hR.size, #[], 0, heap_alloc_new _ _, .nil⟩ rfl, by simpa using upd_later m H.length _, (Below.refl _ _).alloc hR.size _⟩
  exact ⟨by simp, by simp [upd]⟩

theorem run_getObj {P : Program} {w : World} {r : Nat} {o : Obj} (h : w.heap[r]? = some o) (hc : ∀ C T fz, o ≠ .cells C T fz) : (getObj r).run P w = .ok o w := by
  simp only [getObj, Sem.run, h]
  first | done | (cases o <;> first | rfl | exact absurd rfl (hc _ _ _))
theorem run_setObj {P : Program} {w : World} {r : Nat} {o o' : Obj} (h : w.heap[r]? = some o) (hc : ∀ C T fz, o ≠ .cells C T fz) : (setObj r o').run P w = .ok () { w with heap := w.heap.setIfInBounds r o' } := by
  simp only [setObj, Sem.run, h]
  first | done | (cases o <;> first | rfl | exact absurd rfl (hc _ _ _))

/-- A block that holds no cells is turned. -/
theorem Rel.turnObj (hR : Rel K m base H w) {b : Nat} {x y : Blk} {o o' : Obj} (hb : H[b]? = some x) (hx : x.own = true) (ho : w.heap[(m b).blk]? = some o) (hy : BlkR K m H.length base (m b) { w with heap := w.heap.setIfInBounds (m b).blk o' } y) (hyo : y.own = true) :
    Rel K m base (H.set b y) { w with heap := w.heap.setIfInBounds (m b).blk o' } ∧ Below base w { w with heap := w.heap.setIfInBounds (m b).blk o' } := by
  have hbase := (hR.blk b x hb).own_base hx
  refine ⟨hR.turn hb hx (by simp) (fun k _ hk => ?_) hy (.inl hyo), ⟨rfl, rfl, rfl, by simp, fun k hk => ?_⟩⟩
  · simp only [Array.getElem?_setIfInBounds]; rw [if_neg (by omega)]
  · simp only [Array.getElem?_setIfInBounds]; rw [if_neg (by omega)]
theorem set_self {w : World} {g : Nat} {o o' : Obj} (h : w.heap[g]? = some o) : (w.heap.setIfInBounds g o')[g]? = some o' := by
  have := (Array.getElem?_eq_some_iff.1 h).1
  simp [Array.getElem?_setIfInBounds, this]

theorem good_ins (hR : Rel K m base H w) (hρ : Ops K m H.length ρ ρc) {T kt et : TypeId} (hu : K.P.underlying T = some (.map kt et)) {kk : KK} (hkt : keyT K.P kt = some kk) {a k v : Operand} {a' k' v' : X} (ha : cX K.G a = some a') (hk : cX K.G k = some k') (hv : cX K.G v = some v')
    (h : aop ρ (.ins kk a' k' v') H = some r) : Good K base m H w ((do Instr.mapUpdate T (ρc a) (ρc k) (ρc v); pure Next.skip : Sem Next).run K.P w) r := by
  simp only [aop] at h
  have haR := hρ a a' ha
  have hkR := hρ k k' hk
  have hvR := hρ v v' hv
  rw [run_u]
  split at h
  · rename_i g kc h1 h2
    rw [h1] at haR
    rw [h2] at hkR
    obtain ⟨hgl, hav⟩ := haR
    have hkR' : kc.R m H.length (ρc k) := hkR
    split at h
    · rename_i es hes
      split at h
      · rename_i hok
        split at h
        · rename_i hfe
          cases h
          obtain ⟨d, hd1, hd2⟩ := keyT_spec hkt
          obtain ⟨hbase, E, clk, hE1, hE2⟩ := hR.blk g _ hes
          have hfn := findE_R hd2 hok hkR' (e := none) 0 hE2 hfe
          have hfn : Instr.findNow d (ρc k) E.toList 0 = some none := hfn
          have hnc : ∀ C T fz, Obj.map E clk ≠ .cells C T fz := by intros; simp
          obtain ⟨hR', hB⟩ := hR.turnObj (y := .map (es ++ [(kc, ρ v')])) (o' := .map (E.push { key := ρc k, val := ρc v, born := clk }) (clk + 1)) hes rfl hE1 ⟨hbase, _, _, set_self hE1, by
            rw [Array.toList_push]
            exact hE2.append (.cons ⟨hkR', hvR⟩ .nil)⟩ rfl
          have : (Instr.mapUpdate T (ρc a) (ρc k) (ρc v)).run K.P w = .ok () { w with heap := w.heap.setIfInBounds (m g).blk (.map (E.push { key := ρc k, val := ρc v, born := clk }) (clk + 1)) } := by
            unfold Instr.mapUpdate
            rw [hav]
            simp only [Sem.run_bind, run_underlying hu, Result.andThen_ok, run_getObj hE1 hnc]
            rw [show (10000 : Nat) = 9999 + 1 from rfl, run_checkKey hd2 hd1]
            simp only [Result.andThen_ok, Instr.findKey, Sem.run_bind, run_underlying hd1, hfn, Sem.run_pure]
            exact run_setObj hE1 hnc
          rw [this]
          exact ⟨m, _, .inr ⟨rfl, rfl⟩, hR', by simpa using Later.refl _ _, hB⟩
        · cases h
      · cases h
    · cases h
  · cases h

theorem good_look (hR : Rel K m base H w) (hρ : Ops K m H.length ρ ρc) {T kt et : TypeId} (hu : K.P.underlying T = some (.map kt et)) {kk : KK} (hkt : keyT K.P kt = some kk) {z : V} (hz : zOf K.P et = some z) {ok : Bool} {a k : Operand} {a' k' : X} (ha : cX K.G a = some a') (hk : cX K.G k = some k')
    (h : aop ρ (.look kk z ok a' k') H = some r) : Good K base m H w ((do pure (Next.value (← Instr.lookup T (ρc a) (ρc k) ok)) : Sem Next).run K.P w) r := by
  simp only [aop] at h
  have haR := hρ a a' ha
  have hkR := hρ k k' hk
  rw [run_v]
  split at h
  · rename_i g kc h1 h2
    rw [h1] at haR
    rw [h2] at hkR
    obtain ⟨hgl, hav⟩ := haR
    have hkR' : kc.R m H.length (ρc k) := hkR
    split at h
    · rename_i es hes
      split at h
      · rename_i hok
        cases hfe : findE kc es with
        | none => simp [hfe] at h
        | some e =>
          simp only [hfe, Option.bind_some] at h
          obtain ⟨d, hd1, hd2⟩ := keyT_spec hkt
          obtain ⟨hbase, E, clk, hE1, hE2⟩ := hR.blk g _ hes
          have hfn := findE_R hd2 hok hkR' (e := e) 0 hE2 hfe
          have hnc : ∀ C T fz, Obj.map E clk ≠ .cells C T fz := by intros; simp
          obtain ⟨zv, hz1, hz2⟩ := run_zOf hz w
          have key : ∃ u, (e.getD z).R m H.length u ∧ (Instr.lookup T (ρc a) (ρc k) ok).run K.P w = .ok (if ok = true then .tuple #[u, .bool e.isSome] else u) w := by
            cases e with
            | none =>
              have hfn : Instr.findNow d (ρc k) E.toList 0 = some none := hfn
              refine ⟨zv, vOf_R hz2 _ _, ?_⟩
              unfold Instr.lookup
              rw [hav]
              simp only [Sem.run_bind, run_underlying hu, Result.andThen_ok, run_getObj hE1 hnc, Sem.run_pure]
              rw [show (10000 : Nat) = 9999 + 1 from rfl, run_checkKey hd2 hd1]
              simp only [Result.andThen_ok, Instr.findKey, Sem.run_bind, run_underlying hd1, hfn, Sem.run_pure, hz1]
              rfl
            | some v =>
              obtain ⟨j, u, hfn, hu'⟩ := hfn
              refine ⟨u, hu', ?_⟩
              unfold Instr.lookup
              rw [hav]
              simp only [Sem.run_bind, run_underlying hu, Result.andThen_ok, run_getObj hE1 hnc, Sem.run_pure]
              rw [show (10000 : Nat) = 9999 + 1 from rfl, run_checkKey hd2 hd1]
              simp only [Result.andThen_ok, Instr.findKey, Sem.run_bind, run_underlying hd1, hfn, Sem.run_pure]
              rfl
          obtain ⟨u, hu1, hu2⟩ := key
          rw [hu2]
          cases ok with
          | false =>
            simp only [Bool.false_eq_true, if_false, Option.some.injEq] at h
            subst h
            exact Good.val hR hu1
          | true =>
            simp only [if_true] at h
            cases hp : (e.getD z).pc with
            | none => simp [hp] at h
            | some p =>
              simp [hp] at h; subst h
              have hpR : p.R m H.length u := by
                cases hv : e.getD z with
                | c x => rw [hv] at hu1 hp; simp [V.pc] at hp; subst hp; exact hu1
                | agg x => rw [hv] at hu1 hp; simp [V.pc] at hp; subst hp; exact hu1
                | tup x => rw [hv] at hp; simp [V.pc] at hp
              exact Good.val hR ⟨#[u, .bool e.isSome], rfl, .cons hpR (.cons rfl .nil)⟩
      · cases h
    · cases h
  · cases h

/-! ### max and min -/
theorem maxI_R {n : Nat} {f : Int → Int → Int} {g : Value → Value → Sem Value} (hg : ∀ k a b, g (.int k a) (.int k b) = pure (.int k (f a b))) {x : V} {ys : List V} {xv : Value} {yvs : List Value} (hx : x.R m n xv) (hy : All2 (V.R m n) ys yvs) {v : V} (h : maxI x ys f = some v) (P : Program) (w : World) :
    ∃ u, (yvs.foldlM g xv).run P w = .ok u w ∧ v.R m n u := by
  unfold maxI at h
  split at h
  · rename_i k a
    cases hx
    induction hy generalizing a with
    | nil => simp at h; subst h; exact ⟨_, rfl, rfl⟩
    | @cons y yv ys yvs hy1 _ ih =>
      simp only [List.foldlM_cons] at h
      cases y with
      | c c =>
        cases c with
        | int k' b =>
          by_cases hkk : k = k'
          · subst hkk
            simp only [if_true, Option.bind_eq_bind, Option.bind_some] at h
            obtain ⟨u, h1, h2⟩ := ih _ h
            refine ⟨u, ?_, h2⟩
            have : yv = .int k b := hy1
            rw [List.foldlM_cons, this, hg]
            simpa using h1
          · simp [hkk] at h
        | _ => simp at h
      | _ => simp at h
  · cases h

theorem good_mx (hR : Rel K m base H w) (hρ : Ops K m H.length ρ ρc) {ts : Array TypeId} {ty : TypeId} {cn : Array Bool} {x : Operand} {ys : List Operand} {x' : X} {ys' : List X} (hx : cX K.G x = some x') (hy : cXs K.G ys = some ys') {args : Array Value} (ha : args.toList = ρc x :: ys.map ρc)
    (h : aop ρ (.mx x' ys') H = some r) : Good K base m H w ((builtin .max ts ty cn args).run K.P w) r := by
  simp only [aop] at h
  cases hm : maxI (ρ x') (ys'.map ρ) fun a b => if b > a then b else a with
  | none => simp [hm] at h
  | some v =>
    simp [hm] at h; subst h
    obtain ⟨u, h1, h2⟩ := maxI_R (g := Builtin.max2) (fun k a b => rfl) (hρ x x' hx) (cXs_R hρ hy) hm K.P w
    unfold builtin
    simp only []
    rw [run_v]
    have : (Builtin.max_ ts ty args).run K.P w = .ok u w := by unfold Builtin.max_; rw [ha]; exact h1
    rw [this]
    exact Good.val hR h2
theorem good_mn (hR : Rel K m base H w) (hρ : Ops K m H.length ρ ρc) {ts : Array TypeId} {ty : TypeId} {cn : Array Bool} {x : Operand} {ys : List Operand} {x' : X} {ys' : List X} (hx : cX K.G x = some x') (hy : cXs K.G ys = some ys') {args : Array Value} (ha : args.toList = ρc x :: ys.map ρc)
    (h : aop ρ (.mn x' ys') H = some r) : Good K base m H w ((builtin .min ts ty cn args).run K.P w) r := by
  simp only [aop] at h
  cases hm : maxI (ρ x') (ys'.map ρ) fun a b => if b < a then b else a with
  | none => simp [hm] at h
  | some v =>
    simp [hm] at h; subst h
    obtain ⟨u, h1, h2⟩ := maxI_R (g := Builtin.min2) (fun k a b => rfl) (hρ x x' hx) (cXs_R hρ hy) hm K.P w
    unfold builtin
    simp only []
    rw [run_v]
    have : (Builtin.min_ ts ty args).run K.P w = .ok u w := by unfold Builtin.min_; rw [ha]; exact h1
    rw [this]
    exact Good.val hR h2

end
end Go.Proofs.Ytnepeleepmhdaaa.AM
