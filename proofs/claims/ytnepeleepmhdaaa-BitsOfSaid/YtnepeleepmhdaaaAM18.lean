/- AM, eighteenth text: code. -/
import Derived.Test.YtnepeleepmhdaaaAM17
import Derived.RangeFuncRecord
set_option linter.unusedVariables false
set_option linter.unusedSimpArgs false
namespace Go.Proofs.Ytnepeleepmhdaaa.AM
open Go Go.RowKit

/-- A loop, by what is left. -/
theorem wpIn_loop_n {F : Fence} {n : Nat} {P : Program} {Q : Exit → Act → World → Prop} {a : Act} {w : World} {c : Code} (I : Nat → Act → World → Prop) {j₀ : Nat} (h₀ : I j₀ a w)
    (round : ∀ j a w, I j a w → c.wpIn F n P (Exit.then (fun a' w' => ∃ j', j' < j ∧ I j' a' w') Q) a w) : (Code.loop c).wpIn F n P Q a w := by
  intro b k cs hro hb hr
  have key : ∀ j a w, I j a w →
      ∃ e a' w', Q e a' w' ∧ ArrivesIn (Machine.fenced P F) P (lone (b.atR a (.code c :: .inLoop c :: k)) cs w) b k cs e a' w' := by
    intro j
    induction j using Nat.strongRecOn with
    | _ j ih =>
      intro a w hI
      obtain ⟨e, a₁, w₁, hq, harr⟩ := round j a w hI b (.inLoop c :: k) cs hro hb hr
      cases e with
      | normal =>
        obtain ⟨j', hlt, hI₁⟩ := hq
        obtain ⟨e₂, a₂, w₂, hq₂, harr₂⟩ := ih j' hlt a₁ w₁ hI₁
        exact ⟨e₂, a₂, w₂, hq₂, .of_steps (StepsIn.trans harr (.one (fenced_calm hb hr rfl) stepR_inLoop)) harr₂⟩
      | exit id => exact ⟨_, a₁, w₁, hq, .pass (x := .inLoop c) rfl (fun _ _ => .inl (by simp)) harr⟩
      | goto l => exact ⟨_, a₁, w₁, hq, .pass (x := .inLoop c) rfl (fun _ _ => .inl (by simp)) harr⟩
      | ret => exact ⟨_, a₁, w₁, hq, .pass (x := .inLoop c) rfl (fun _ _ => .inl (by simp)) harr⟩
      | panic ch => exact ⟨_, a₁, w₁, hq, .pass (x := .inLoop c) rfl (fun _ _ => .inl (by simp)) harr⟩
      | outgrown => exact ⟨_, a₁, w₁, hq, .pass (x := .inLoop c) rfl (fun _ _ => .inl (by simp)) harr⟩
  obtain ⟨e, a', w', hq, harr⟩ := key _ a w h₀
  exact ⟨e, a', w', hq, .of_steps (.one (fenced_calm hb hr rfl) stepR_loop) harr⟩

section
variable {K : Ctx} {base : Nat}

theorem SRel.post {m : Inj} {s : St} {a : Act} {w : World} (h : SRel K base m s.t s.ds s.H a w) {e : Ex} : Post K base m s.H.length w e s (exitOf e) a w :=
  ⟨rfl, m, h, Later.refl _ _, Below.refl _ _⟩

theorem fen_later {m m' : Inj} {n n' : Nat} (h : Later m n m' n') {rd : Option Nat} (hrd : ∀ l, rd = some l → l < n) : fen m' rd = fen m rd := by
  cases rd with
  | none => rfl
  | some l => simp [fen, fenr, h.2 l (hrd l rfl)]

theorem comp_ex (P : Program) (G : Nat → Option Nat) {e : Ex} (he : e ≠ .normal) : ∃ c, exCode e = some c ∧ comp P G c = exOf e := by
  cases e with
  | normal => exact absurd rfl he
  | exit i => exact ⟨_, rfl, rfl⟩
  | ret => exact ⟨_, rfl, rfl⟩

/-- The statement 'for .. := range f', behind the record's laying. -/
theorem range_sound (hF : OkF K base) {rec : Rec} (hrec : SoundR K base rec) {rd : Option Nat} {f : X} {g : Operand} (hf : cX K.G g = some f) {t : List V} {ds : List Nat} {l : Nat} {H : Heap} {e : Ex} {s' : St} (h : stepR.runRange K.F rec rd f t ds l H = some (e, s'))
    {m0 m : Inj} {n0 : Nat} {w0 w : World} {a : Act} (hS : SRel K base m t ds H a w) (hL : Later m0 n0 m H.length) (hB : Below base w0 w) (hrd : ∀ q, rd = some q → q < n0) (hl : l < H.length) (k : Nat) :
    ∃ d w₁' gf args w₂, (resolve a.eval (rangeCall g (m l).blk) 0).run K.P w = .ok d w₁' ∧ (invoke d.target d.args).run K.P w₁' = .ok (.enter gf args) w₂ ∧
      CallsIn (fen m0 rd) (k - 1) K.P gf args w₂ (rangePost (fen m0 rd) k K.P (m l).blk (Post K base m0 n0 w0 e s') a) := by
  unfold stepR.runRange at h
  split at h
  · rename_i gf fs cs hg
    have hfR := hS.ops g f hf
    rw [hg] at hfR
    obtain ⟨l1, l2, hv⟩ := hfR
    obtain ⟨⟨v, H1⟩, hcall, h⟩ := bind_some h
    have hargs : All2 (V.R m H.length) (fs.map pV ++ [V.c (.yld l)] ++ cs.map pV) ((fs.map (ptrV m)).toArray ++ #[Value.func (Fn.yield (m l).blk) #[] #[]] ++ (cs.map (ptrV m)).toArray).toList := by
      simp only [Array.toList_append]
      exact All2.append (All2.append (ptrs_V l1) (.cons ⟨hl, rfl⟩ .nil)) (ptrs_V l2)
    obtain ⟨h1, h2⟩ := call_sound hF hrec gf _ H v H1 hcall m w _ (k - 1) hS.rel hargs
    refine ⟨{ target := .fn (.func gf) (cs.map (ptrV m)).toArray, args := (fs.map (ptrV m)).toArray ++ #[.func (.yield (m l).blk) #[] #[]] }, w, gf, _, w, ?_, ?_, (show CallsIn (fen m0 rd) _ _ _ _ _ _ from h2).mono ?_⟩
    · simp only [resolve, hv, Deferred.ofValue, Sem.run_pure]
      simp [Act.eval]
    · simp only [invoke]
      exact h1
    · rintro e' w1 ⟨v', m1, rfl, hvR, hR1, hL1, hB1⟩
      have hml : m1 l = m l := hL1.2 l hl
      have hS1 : SRel K base m1 t ds H1 a w1 := by
        have := hS.put hR1 hL1 hvR none
        simpa [putT, Act.put] using this
      simp only [] at h
      have hnc : ∀ (L : Loop) C T fz, Obj.loop L ≠ .cells C T fz := by intros; simp
      split at h
      · cases h
      · rename_i st pd r hb hloop
        obtain ⟨hb1, L, hb2, hb3⟩ := hR1.blk l _ hloop
        obtain ⟨hR2, hB2⟩ := hR1.turnObj (y := .loop .exhausted pd r) (o' := .loop { L with state := .exhausted }) hloop rfl hb2 ⟨hb1, _, set_self hb2, ⟨rfl, hb3.pend, hb3.pdn, hb3.t, hb3.ps, hb3.assign, hb3.body, hb3.dlt, hb3.defers⟩⟩ rfl
        have hst : L.state ≠ .busy := by
          rw [hb3.state]
          cases st with
          | busy => first | exact (hb _ _ rfl).elim | exact (hb rfl).elim | exact hb.elim | exact absurd hloop (hb _ _)
          | _ => simp [lstOf]
        have hend : (Instr.endLoop (m l).blk).run K.P w1 = .ok (pd.bind exCode) { w1 with heap := w1.heap.setIfInBounds (m1 l).blk (.loop { L with state := .exhausted }) } := by
          unfold Instr.endLoop Instr.getLoop
          rw [← hml]
          simp only [Sem.run_bind, run_getObj hb2 (hnc L), Result.andThen_ok, Sem.run_pure]
          rw [if_neg (by simpa using hst)]
          simp only [Sem.run_bind, run_setObj hb2 (hnc L), Result.andThen_ok, Sem.run_pure, hb3.pend]
        have hS2 : SRel K base m1 t ds (H1.set l (.loop .exhausted pd r)) a { w1 with heap := w1.heap.setIfInBounds (m1 l).blk (.loop { L with state := .exhausted }) } :=
          ⟨hR2, by rw [List.length_set]; exact hS1.t, by rw [List.length_set]; exact hS1.ds⟩
        have hL2 : Later m0 n0 m1 (H1.set l (.loop .exhausted pd r)).length := by rw [List.length_set]; exact hL.trans hL1
        refine ⟨pd.bind exCode, _, hend, ?_⟩
        cases pd with
        | none =>
          simp only [Option.some.injEq, Prod.mk.injEq] at h
          obtain ⟨rfl, rfl⟩ := h
          exact ⟨rfl, m1, hS2, hL2, (hB.trans hB1).trans hB2⟩
        | some e1 =>
          obtain ⟨c, hc1, hc2⟩ := comp_ex K.P K.G (e := e1) (fun q => hb3.pdn (by rw [q]))
          simp only [Option.bind_some, hc1]
          simp only [← hc2] at h
          have hw := hrec c rd _ e s' h m1 a _ k hS2 (fun q hq => Nat.lt_of_lt_of_le (hrd q hq) hL2.1)
          rw [fen_later hL2 hrd] at hw
          exact wpIn_mono hw fun e' a' w' hp => Post.trans hL2 ((hB.trans hB1).trans hB2) hp
      · cases h
  · cases h

theorem run_sound (hF : OkF K base) : ∀ k, SoundR K base (run K.F k) := by
  intro k
  induction k using Nat.strongRecOn with
  | _ k ih =>
    cases k with
    | zero => intro c rd s e s' h; simp [run] at h
    | succ k =>
      have ihk := ih k (Nat.lt_succ_self k)
      intro c rd s e s' h m a w n hS hrd
      have hcall := fun f args H v H' hc => call_sound hF ihk f args H v H' hc
      have hround := fun l args H v H' hc => round_sound ihk l args H v H' hc
      change stepR K.F (run K.F k) rd (comp K.P K.G c) s = some (e, s') at h
      cases c with
      | skip =>
        simp only [comp, stepR, Option.some.injEq, Prod.mk.injEq] at h
        obtain ⟨rfl, rfl⟩ := h
        exact wpIn_skip hS.post
      | region id ops draw =>
        simp only [comp] at h
        split at h
        · simp [stepR] at h
        · rename_i hd
          simp only [stepR] at h
          obtain ⟨⟨t', H'⟩, ho, h⟩ := map_some' h
          cases h
          cases draw with
          | false =>
            refine wpIn_region (ops_sound hcall hround (List.range ops.size) (by simp) s.t s.H t' H' ?_ m a w hS (Later.refl _ _) (Below.refl _ _))
            have e : ops.toList.map (cOper K.P K.G ops) = (List.range ops.size).map fun i => cOper K.P K.G ops (ops.getD i default) := by
              apply List.ext_getElem?
              intro i
              simp only [List.getElem?_map]
              by_cases hi : i < ops.size
              · rw [List.getElem?_range hi, Array.getElem?_toList, Array.getElem?_eq_getElem hi]
                simp [hi]
              · rw [List.getElem?_eq_none (by simp; omega), List.getElem?_eq_none (by simp; omega)]
                rfl
            rw [← e]
            exact ho
          | true =>
            have hok : drawOk K.P K.G ops = true := by simpa using hd
            refine wpIn_region_draw fun q => ?_
            obtain ⟨h1, h2⟩ := schedule_ok (F := K.F) (rec := run K.F k) hok q
            have hS' : SRel K base m s.t s.ds s.H a w.drew := ⟨hS.rel.drew, hS.t, hS.ds⟩
            exact ops_sound hcall hround _ h1 s.t s.H t' H' (h2 s.t s.H _ ho) m a w.drew hS' (Later.refl _ _) ((Below.refl _ _).drew)
      | seq x y =>
        simp only [comp, stepR] at h
        obtain ⟨⟨e1, s1⟩, h1, h⟩ := bind_some h
        refine wpIn_seq (wpIn_mono (ihk x rd s e1 s1 h1 m a w n hS hrd) ?_)
        rintro e' a1 w1 ⟨rfl, m1, hS1, hL1, hB1⟩
        cases e1 with
        | normal =>
          have hw := ihk y rd s1 e s' h m1 a1 w1 n hS1 (fun q hq => Nat.lt_of_lt_of_le (hrd q hq) hL1.1)
          rw [fen_later hL1 hrd] at hw
          exact wpIn_mono hw fun e' a' w' hp => Post.trans hL1 hB1 hp
        | exit i =>
          simp only [Option.some.injEq, Prod.mk.injEq] at h
          obtain ⟨rfl, rfl⟩ := h
          exact ⟨rfl, m1, hS1, hL1, hB1⟩
        | ret =>
          simp only [Option.some.injEq, Prod.mk.injEq] at h
          obtain ⟨rfl, rfl⟩ := h
          exact ⟨rfl, m1, hS1, hL1, hB1⟩
      | cond c x y =>
        simp only [comp] at h
        cases hc : cX K.G c with
        | none => rw [hc] at h; simp [stepR] at h
        | some c' =>
          rw [hc] at h
          simp only [stepR] at h
          split at h
          · rename_i b hb
            have hcR := hS.ops c c' hc
            rw [hb] at hcR
            refine wpIn_cond (t := b) hcR ?_
            cases b with
            | true => exact ihk x rd s e s' h m a w n hS hrd
            | false => exact ihk y rd s e s' h m a w n hS hrd
          · cases h
      | block id b =>
        simp only [comp, stepR] at h
        obtain ⟨⟨e1, s1⟩, h1, h⟩ := map_some' h
        cases h
        refine wpIn_block (wpIn_mono (ihk b rd s e1 s1 h1 m a w n hS hrd) ?_)
        rintro e' a1 w1 ⟨rfl, m1, hS1, hL1, hB1⟩
        cases e1 with
        | normal => exact ⟨rfl, m1, hS1, hL1, hB1⟩
        | ret => exact ⟨rfl, m1, hS1, hL1, hB1⟩
        | exit i =>
          simp only [exitOf, Exit.inBlock]
          by_cases hi : i = id
          · subst hi
            simp only [if_true]
            exact ⟨rfl, m1, hS1, hL1, hB1⟩
          · have : ¬ (Ex.exit i = Ex.exit id) := fun q => hi (by cases q; rfl)
            simp only [hi, this, if_false]
            exact ⟨rfl, m1, hS1, hL1, hB1⟩
      | loop b =>
        refine wpIn_loop_n (fun j a1 w1 => ∃ s1 m1, j ≤ k + 1 ∧ run K.F j rd (comp K.P K.G (.loop b)) s1 = some (e, s') ∧ SRel K base m1 s1.t s1.ds s1.H a1 w1 ∧ Later m s.H.length m1 s1.H.length ∧ Below base w w1)
          (j₀ := k + 1) ⟨s, m, Nat.le_refl _, h, hS, Later.refl _ _, Below.refl _ _⟩ ?_
        rintro j a1 w1 ⟨s1, m1, hj, hrun, hS1, hL1, hB1⟩
        cases j with
        | zero => simp [run] at hrun
        | succ j =>
          change stepR K.F (run K.F j) rd (comp K.P K.G (.loop b)) s1 = some (e, s') at hrun
          simp only [comp, stepR] at hrun
          obtain ⟨⟨e2, s2⟩, h2, hrun⟩ := bind_some hrun
          have hw := ih j (by omega) b rd s1 e2 s2 h2 m1 a1 w1 n hS1 (fun q hq => Nat.lt_of_lt_of_le (hrd q hq) hL1.1)
          rw [fen_later hL1 hrd] at hw
          refine wpIn_mono hw ?_
          rintro e' a2 w2 ⟨rfl, m2, hS2, hL2, hB2⟩
          cases e2 with
          | normal => exact ⟨j, Nat.lt_succ_self j, s2, m2, by omega, hrun, hS2, hL1.trans hL2, hB1.trans hB2⟩
          | exit i =>
            simp only [Option.some.injEq, Prod.mk.injEq] at hrun
            obtain ⟨rfl, rfl⟩ := hrun
            exact ⟨rfl, m2, hS2, hL1.trans hL2, hB1.trans hB2⟩
          | ret =>
            simp only [Option.some.injEq, Prod.mk.injEq] at hrun
            obtain ⟨rfl, rfl⟩ := hrun
            exact ⟨rfl, m2, hS2, hL1.trans hL2, hB1.trans hB2⟩
      | rangeFunc g ps assign body =>
        simp only [comp] at h
        cases hc : cX K.G g with
        | none => rw [hc] at h; simp [stepR] at h
        | some f =>
          rw [hc] at h
          simp only [stepR] at h
          refine wpIn_rangeFunc fun fn _ => ?_
          cases rd with
          | none =>
            simp only [] at h
            -- the block for what rounds put off, and the loop's record
            have hR1 := hS.rel.alloc (y := .defd) (o := .deferred (some [])) 0 ⟨hS.rel.size, heap_alloc_new _ _⟩ rfl
            have hl1 : (s.H ++ [Blk.defd]).length = s.H.length + 1 := by simp
            generalize hm1 : upd m s.H.length ⟨w.heap.size, 0, 0⟩ = m1 at hR1
            have hLa : Later m s.H.length m1 (s.H.length + 1) := by rw [← hm1]; exact upd_later _ _ _
            have hm1b : (m1 s.H.length).blk = w.heap.size := by rw [← hm1]; simp [upd]
            have hR2 := hR1.alloc (y := .loop .ready none ⟨s.t, ps.toList, comp K.P K.G assign, comp K.P K.G body, s.H.length⟩) (o := .loop { state := .ready, pending := none, fn, tmps := a.tmps, params := ps, assign, body, defers := w.heap.size }) 0
              ⟨hR1.size, _, heap_alloc_new _ _, ⟨rfl, rfl, by simp, (hS.t.imp fun _ _ hr => (hr.later hLa).later (by rw [hl1]; exact upd_later _ _ _)), rfl, rfl, rfl, by simp; omega, by simp [upd, hm1b]⟩⟩ rfl
            rw [hl1] at hR2
            generalize hm2 : upd m1 (s.H.length + 1) ⟨(w.alloc (.deferred (some []))).heap.size, 0, 0⟩ = m2 at hR2
            have hLb : Later m1 (s.H.length + 1) m2 (s.H.length + 1 + 1) := by rw [← hm2]; exact upd_later _ _ _
            have hm2b : (m2 (s.H.length + 1)).blk = w.heap.size + 1 := by rw [← hm2]; simp [upd]
            have hHH : s.H ++ [Blk.defd] ++ [.loop .ready none ⟨s.t, ps.toList, comp K.P K.G assign, comp K.P K.G body, s.H.length⟩] = s.H ++ [.defd, .loop .ready none ⟨s.t, ps.toList, comp K.P K.G assign, comp K.P K.G body, s.H.length⟩] := by simp
            rw [hHH] at hR2
            have hlen2 : (s.H ++ [Blk.defd, .loop .ready none ⟨s.t, ps.toList, comp K.P K.G assign, comp K.P K.G body, s.H.length⟩]).length = s.H.length + 1 + 1 := by simp
            have hLab : Later m s.H.length m2 (s.H.length + 1 + 1) := hLa.trans hLb
            have hD : (m2 s.H.length).blk = w.heap.size := by rw [hLb.2 _ (by omega)]; exact hm1b
            have hS2 : SRel K base m2 s.t (s.H.length :: s.ds) (s.H ++ [.defd, .loop .ready none ⟨s.t, ps.toList, comp K.P K.G assign, comp K.P K.G body, s.H.length⟩]) { a with defers := [{ target := .collected w.heap.size, args := #[] }] ++ a.defers }
                ((w.alloc (.deferred (some []))).alloc (.loop { state := .ready, pending := none, fn, tmps := a.tmps, params := ps, assign, body, defers := w.heap.size })) := by
              refine ⟨hR2, by rw [hlen2]; exact hS.t.imp fun _ _ hr => hr.later hLab, .cons ⟨by rw [hlen2]; omega, by rw [hD]⟩ ?_⟩
              rw [hlen2]
              exact hS.ds.imp fun D d hd => ⟨by omega, by rw [hLab.2 _ hd.1]; exact hd.2⟩
            have hBB : Below base w ((w.alloc (.deferred (some []))).alloc (.loop { state := .ready, pending := none, fn, tmps := a.tmps, params := ps, assign, body, defers := w.heap.size })) :=
              ((Below.refl _ _).alloc hS.rel.size _).alloc (by have := hS.rel.size; simp; omega) _
            obtain ⟨d, w₁', gf, args, w₂, r1, r2, r3⟩ := range_sound hF ihk hc h hS2 (by rw [hlen2]; exact hLab) hBB (by simp) (by rw [hlen2]; omega) n
            rw [hm2b] at r1 r3
            exact ⟨w.heap.size + 1, _, _, d, w₁', gf, args, w₂, run_enterLoop_outer fn a.tmps ps assign body, r1, fun _ _ => trivial, r2, (fun hdd => absurd hdd (by simp [fen, fenr, Fence.wide])), r3⟩
          | some l₀ =>
            simp only [] at h
            split at h
            · rename_i st₀ pd₀ r₀ hl₀
              obtain ⟨hq1, L₀, hq2, hq3⟩ := hS.rel.blk l₀ _ hl₀
              have hl₀' := hrd l₀ rfl
              have hR1 := hS.rel.alloc (y := .loop .ready none ⟨s.t, ps.toList, comp K.P K.G assign, comp K.P K.G body, r₀.defers⟩) (o := .loop { state := .ready, pending := none, fn, tmps := a.tmps, params := ps, assign, body, defers := (m r₀.defers).blk }) 0
                ⟨hS.rel.size, _, heap_alloc_new _ _, ⟨rfl, rfl, by simp, (hS.t.imp fun _ _ hr => hr.later (upd_later _ _ _)), rfl, rfl, rfl, Nat.lt_succ_of_lt hq3.dlt, by have := hq3.dlt; simp only [upd]; rw [if_neg (by omega)]⟩⟩ rfl
              have hl1 : (s.H ++ [Blk.loop .ready none ⟨s.t, ps.toList, comp K.P K.G assign, comp K.P K.G body, r₀.defers⟩]).length = s.H.length + 1 := by simp
              generalize hm1 : upd m s.H.length ⟨w.heap.size, 0, 0⟩ = m1 at hR1
              have hLa : Later m s.H.length m1 (s.H.length + 1) := by rw [← hm1]; exact upd_later _ _ _
              have hm1b : (m1 s.H.length).blk = w.heap.size := by rw [← hm1]; simp [upd]
              have hS2 : SRel K base m1 s.t s.ds (s.H ++ [Blk.loop .ready none ⟨s.t, ps.toList, comp K.P K.G assign, comp K.P K.G body, r₀.defers⟩]) { a with defers := [] ++ a.defers } (w.alloc (.loop { state := .ready, pending := none, fn, tmps := a.tmps, params := ps, assign, body, defers := (m r₀.defers).blk })) := by
                refine ⟨hR1, by rw [hl1]; exact hS.t.imp fun _ _ hr => hr.later hLa, ?_⟩
                rw [hl1]
                exact hS.ds.imp fun D d hd => ⟨by omega, by rw [hLa.2 _ hd.1]; exact hd.2⟩
              have hBB : Below base w (w.alloc (.loop { state := .ready, pending := none, fn, tmps := a.tmps, params := ps, assign, body, defers := (m r₀.defers).blk })) := (Below.refl _ _).alloc hS.rel.size _
              obtain ⟨d, w₁', gf, args, w₂, r1, r2, r3⟩ := range_sound hF ihk hc h hS2 (by rw [hl1]; exact hLa) hBB hrd (by rw [hl1]; omega) n
              rw [hm1b] at r1 r3
              have hnc : ∀ (L : Loop) C T fz, Obj.loop L ≠ .cells C T fz := by intros; simp
              have henter : (Instr.enterLoop fn a.tmps ps assign body (some (m l₀).blk)).run K.P w = .ok (w.heap.size, []) (w.alloc (.loop { state := .ready, pending := none, fn, tmps := a.tmps, params := ps, assign, body, defers := (m r₀.defers).blk })) := by
                unfold Instr.enterLoop Instr.getLoop
                simp only [Sem.run_bind, run_getObj hq2 (hnc L₀), Result.andThen_ok, Sem.run_pure, run_newObj, hq3.defers]
                rfl
              exact ⟨w.heap.size, _, _, d, w₁', gf, args, w₂, henter, r1, fun _ _ => trivial, r2, (fun hdd => absurd hdd (by simp [fen, fenr, Fence.wide])), r3⟩
            · cases h
      | exit id =>
        simp only [comp, stepR, Option.some.injEq, Prod.mk.injEq] at h
        obtain ⟨rfl, rfl⟩ := h
        exact wpIn_exit hS.post
      | ret =>
        simp only [comp, stepR, Option.some.injEq, Prod.mk.injEq] at h
        obtain ⟨rfl, rfl⟩ := h
        exact wpIn_ret hS.post
      | scope b => simp [comp, stepR] at h
      | label l =>
        simp only [comp, stepR, Option.some.injEq, Prod.mk.injEq] at h
        obtain ⟨rfl, rfl⟩ := h
        exact wpIn_label hS.post
      | goto l => simp [comp, stepR] at h
      | refuse q => simp [comp, stepR] at h

/-- **A CALL OF THE MACHINE's COMES TO WHAT THE ABSTRACT MACHINE's COMES TO.** -/
theorem calls_sound (hF : OkF K base) {k : Nat} {f : FuncId} {args : List V} {H : Heap} {v : V} {H' : Heap} (h : callR K.F (run K.F k) f args H = some (v, H')) {m : Inj} {w : World} {vs : Array Value} (hR : Rel K m base H w) (ha : All2 (V.R m H.length) args vs.toList) :
    Calls K.P f vs w (CPost K base m H.length w v H') :=
  callsIn_wide.1 (call_sound hF (run_sound hF k) f args H v H' h m w vs 0 hR ha).2

end
end Go.Proofs.Ytnepeleepmhdaaa.AM
