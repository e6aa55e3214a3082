/- AM, seventeenth text: calls, rounds, code: what the abstract machine comes to, the machine comes to. -/
import Derived.Test.YtnepeleepmhdaaaAM16
set_option linter.unusedVariables false
set_option linter.unusedSimpArgs false
namespace Go.Proofs.Ytnepeleepmhdaaa.AM
open Go Go.RowKit

section
variable {K : Ctx} {base : Nat}

/-! ### Results -/
theorem res_run {m : Inj} {H : Heap} {w : World} (hR : Rel K m base H w) {t : List V} {tmps : Array Value} (ht : All2 (V.R m H.length) t tmps.toList) : ∀ (rs : List ResultVar) (res : List (Nat × Option (Option Nat))) (vs : List V), cRes K.P rs = some res → res.mapM (resV t H) = some vs →
    ∃ us : List Value, (rs.mapM (fun | .tmp i => pure (tmps.getD i undef) | .cell a T => do loadVar T (← asAddr (tmps.getD a undef))) : Sem (List Value)).run K.P w = .ok us w ∧ All2 (V.R m H.length) vs us := by
  have slot : ∀ i, ((t[i]?).getD V.undef).R m H.length (tmps.getD i undef) := by
    intro i
    cases hi : t[i]? with
    | none =>
      have := ht.get_none hi
      simp at this
      rw [Option.getD_none, Array.getD_eq_getD_getElem?, Array.getElem?_eq_none this]
      exact V.R_undef _ _
    | some v =>
      obtain ⟨v', h1, h2⟩ := ht.get hi
      simp at h1
      rw [Option.getD_some, Array.getD_eq_getD_getElem?, h1]
      exact h2
  intro rs
  induction rs with
  | nil => intro res vs h hv; simp [cRes] at h; subst h; simp at hv; subst hv; exact ⟨[], by simp, .nil⟩
  | cons r rs ih =>
    intro res vs h hv
    cases r with
    | tmp i =>
      obtain ⟨res', h1, rfl⟩ := map_some' h
      rw [List.mapM_cons] at hv
      obtain ⟨v, hv1, hv⟩ := bind_some hv
      obtain ⟨vs', hv2, hv⟩ := bind_some hv
      cases hv
      obtain ⟨us, hu1, hu2⟩ := ih res' vs' h1 hv2
      simp only [resV, Option.some.injEq] at hv1
      subst hv1
      refine ⟨tmps.getD i undef :: us, ?_, .cons (slot i) hu2⟩
      rw [List.mapM_cons]
      simp only [Sem.run_bind, Sem.run_pure, Result.andThen_ok, hu1]
    | cell a T =>
      simp only [cRes] at h
      obtain ⟨n, hn, h⟩ := bind_some h
      obtain ⟨res', h1, rfl⟩ := map_some' h
      rw [List.mapM_cons] at hv
      obtain ⟨v, hv1, hv⟩ := bind_some hv
      obtain ⟨vs', hv2, hv⟩ := bind_some hv
      cases hv
      obtain ⟨us, hu1, hu2⟩ := ih res' vs' h1 hv2
      simp only [resV] at hv1
      obtain ⟨d, hd, hv1⟩ := bind_some hv1
      obtain ⟨e, _⟩ := adOf_R hd (slot a)
      obtain ⟨u, hu3, hu4⟩ := hR.loadVar hn hv1
      refine ⟨u :: us, ?_, .cons hu4 hu2⟩
      rw [List.mapM_cons, Sem.run_bind]
      have key : (do loadVar T (← asAddr (tmps.getD a undef)) : Sem Value).run K.P w = .ok u w := by
        simp only [Sem.run_bind, e, asAddr, Sem.run_pure, Result.andThen_ok, hu3]
      refine (congrArg (fun r : Result Value => r.andThen _) key).trans ?_
      simp only [Result.andThen_ok, Sem.run_bind, hu1, Sem.run_pure]

theorem pcs_R {m : Inj} {n : Nat} : ∀ {vs : List V} {us : List Value} {ps : List Pc}, vs.mapM V.pc = some ps → All2 (V.R m n) vs us → All2 (Pc.R m n) ps us := by
  intro vs
  induction vs with
  | nil => intro us ps h hv; cases hv; simp at h; subst h; exact .nil
  | cons v vs ih =>
    intro us ps h hv
    cases hv with
    | @cons _ u _ us hx hv =>
      rw [List.mapM_cons] at h
      obtain ⟨p, h1, h⟩ := bind_some h
      obtain ⟨ps', h2, h⟩ := bind_some h
      cases h
      refine .cons ?_ (ih h2 hv)
      cases v with
      | c x => simp [V.pc] at h1; subst h1; exact hx
      | agg l => simp [V.pc] at h1; subst h1; exact hx
      | tup l => simp [V.pc] at h1

theorem results_run {m : Inj} {H : Heap} {w : World} (hR : Rel K m base H w) {t : List V} {tmps : Array Value} (ht : All2 (V.R m H.length) t tmps.toList) {fn : Func} {res : List (Nat × Option (Option Nat))} (hc : cRes K.P fn.results.toList = some res) {v : V} (h : resOf t H res = some v) :
    ∃ u, (results fn tmps).run K.P w = .ok u w ∧ v.R m H.length u := by
  obtain ⟨vs, hvs, h⟩ := bind_some h
  obtain ⟨us, hu1, hu2⟩ := res_run hR ht fn.results.toList res vs hc hvs
  have hrun : (results fn tmps).run K.P w = .ok (if h : us.toArray.size = 1 then us.toArray[0] else .tuple us.toArray) w := by
    unfold results
    rw [Array.mapM_eq_mapM_toList]
    simp only [Sem.run_bind, Sem.run_map, Sem.run_pure]
    exact Eq.trans (congrArg (fun r : Result (List Value) => (r.andThen fun a w' => Result.ok a.toArray w').andThen fun a w' => Result.ok (if h : a.size = 1 then a[0] else Value.tuple a) w') hu1) rfl
  rw [hrun]
  have hlen := hu2.length
  match vs, h with
  | [], h =>
    cases hu2
    simp at h
    subst h
    exact ⟨.tuple #[], rfl, #[], rfl, .nil⟩
  | [v'], h =>
    cases hu2 with
    | cons hx hn =>
      cases hn
      simp at h
      subst h
      exact ⟨_, rfl, hx⟩
  | v1 :: v2 :: vs', h =>
    obtain ⟨ps, h1, h2⟩ := map_some' h
    subst h2
    have : ¬ us.toArray.size = 1 := by simp at hlen ⊢; omega
    rw [dif_neg this]
    exact ⟨_, rfl, us.toArray, rfl, pcs_R h1 hu2⟩

/-- A function leaves: the blocks for what its loops' rounds have put off are shut; its results are read. -/
theorem leaves_sound {fn : Func} {res : List (Nat × Option (Option Nat))} (hc : cRes K.P fn.results.toList = some res) {t : List V} {tmps : Array Value} {v : V} {H' : Heap} {k : Nat} {m0 : Inj} {n0 : Nat} {w0 : World} : ∀ (ds : List Nat) (ls : List Deferred) (H : Heap) (m : Inj) (w : World), Rel K m base H w → All2 (V.R m H.length) t tmps.toList →
    All2 (fun (D : Nat) (d : Deferred) => D < H.length ∧ d = { target := .collected (m D).blk, args := #[] }) ds ls → shutAll ds H = some H' → resOf t H' res = some v → Later m0 n0 m H.length → Below base w0 w →
    LeavesInM Fence.wide k K.P fn tmps (CPost K base m0 n0 w0 v H') ls .returning w := by
  intro ds
  induction ds with
  | nil =>
    intro ls H m w hR ht hds hs hr hL hB
    cases hds
    simp [shutAll] at hs
    subst hs
    obtain ⟨u, hu1, hu2⟩ := results_run hR ht hc hr
    exact ⟨u, hu1, u, m, rfl, hu2, hR, hL, hB⟩
  | cons D ds ih =>
    intro ls H m w hR ht hds hs hr hL hB
    cases hds with
    | @cons _ d _ ls hd hds =>
      obtain ⟨hDl, rfl⟩ := hd
      simp only [shutAll] at hs
      split at hs
      · rename_i hD
        obtain ⟨hb1, hb2⟩ := hR.blk D _ hD
        have hnc : ∀ C T fz, Obj.deferred (some []) ≠ .cells C T fz := by intros; simp
        obtain ⟨hR', hB'⟩ := hR.turnObj (y := .shut) (o' := .deferred none) hD rfl hb2 ⟨hb1, set_self hb2⟩ rfl
        refine ⟨by simp, .inl ⟨_, _, rfl, ?_, ih ls _ m _ hR' (by rw [List.length_set]; exact ht) (by rw [List.length_set]; exact hds) hs hr (by rw [List.length_set]; exact hL) (hB.trans hB')⟩⟩
        unfold Instr.takeDeferred
        simp only [Sem.run_bind, run_getObj hb2 hnc, Result.andThen_ok, run_setObj hb2 hnc, Sem.run_pure]
      · cases hs

theorem undefs_R (m : Inj) (n k : Nat) : All2 (V.R m n) (List.replicate k V.undef) (List.replicate k undef) := All2.replicate (V.R_undef _ _) k

/-- A CALL. -/
theorem call_sound (hF : OkF K base) {rec : Rec} (hrec : SoundR K base rec) (f : FuncId) (args : List V) (H : Heap) (v : V) (H' : Heap) (h : callR K.F rec f args H = some (v, H')) (m : Inj) (w : World) (vs : Array Value) (k : Nat) (hR : Rel K m base H w) (ha : All2 (V.R m H.length) args vs.toList) :
    (callFunc f vs).run K.P w = .ok (.enter f vs) w ∧ CallsIn Fence.wide k K.P f vs w (CPost K base m H.length w v H') := by
  unfold callR at h
  cases hf : K.F f with
  | none => simp [hf] at h
  | some g =>
    obtain ⟨h1, h2⟩ := hF f g hf
    refine ⟨h1 vs w, ?_⟩
    rw [hf] at h
    cases g with
    | ext g => exact h2 args H v H' h m w vs k hR ha
    | code i =>
      obtain ⟨fn, hfn, hcomp⟩ := h2
      simp only [] at h
      unfold compF at hcomp
      obtain ⟨c, hb, hcomp⟩ := bind_some hcomp
      obtain ⟨res, hres, rfl⟩ := map_some' hcomp
      obtain ⟨⟨e, s'⟩, hbody, h⟩ := bind_some h
      simp only [] at hbody h
      have hlen := ha.length
      simp at hlen
      have hS : SRel K base m (args ++ List.replicate (fn.ntmps - args.length) V.undef) [] H { tmps := vs ++ Array.replicate (fn.ntmps - vs.size) undef, defers := [] } w :=
        ⟨hR, by rw [Array.toList_append, Array.toList_replicate, hlen]; exact ha.append (undefs_R _ _ _), .nil⟩
      have hw := hrec c none _ e s' hbody m _ w k hS (fun l hl => by cases hl)
      refine callsIn_of_wp_marks hfn hb trivial (wpIn_mono hw ?_)
      rintro e' a' w' ⟨rfl, m', hS', hL, hB⟩
      have fin : (shutAll s'.ds s'.H).bind (fun H' => (resOf s'.t H' res).map fun v => (v, H')) = some (v, H') → LeavesInM Fence.wide k K.P fn a'.tmps (CPost K base m H.length w v H') a'.defers .returning w' := by
        intro h
        obtain ⟨H2, hs, h⟩ := bind_some h
        obtain ⟨v2, hv, h⟩ := map_some' h
        cases h
        exact leaves_sound hres s'.ds a'.defers s'.H m' w' hS'.rel hS'.t hS'.ds hs hv hL hB
      cases e with
      | normal => exact fin h
      | ret => exact fin h
      | exit i => cases h

theorem zip_fold {m : Inj} {n : Nat} : ∀ (ps : List Nat) {args : List V} {vs : List Value}, All2 (V.R m n) args vs → ∀ {t : List V} {tmps : Array Value}, All2 (V.R m n) t tmps.toList →
    All2 (V.R m n) ((ps.zip args).foldl (fun t p => t.set p.1 p.2) t) ((ps.zip vs).foldl (fun (tmps : Array Value) p => tmps.setIfInBounds p.1 p.2) tmps).toList := by
  intro ps
  induction ps with
  | nil => intro args vs _ t tmps ht; exact ht
  | cons p ps ih =>
    intro args vs ha t tmps ht
    cases ha with
    | nil => exact ht
    | cons hx ha =>
      simp only [List.zip_cons_cons, List.foldl_cons]
      exact ih ha (by rw [Array.toList_setIfInBounds]; exact ht.set hx)

theorem Post.trans {m m1 : Inj} {n n1 : Nat} {w w1 : World} {e : Ex} {s : St} (hL : Later m n m1 n1) (hB : Below base w w1) {e' : Exit} {a' : Act} {w' : World} (h : Post K base m1 n1 w1 e s e' a' w') : Post K base m n w e s e' a' w' := by
  obtain ⟨h1, m', h2, h3, h4⟩ := h
  exact ⟨h1, m', h2, hL.trans h3, hB.trans h4⟩

/-- A ROUND. -/
theorem round_sound {rec : Rec} (hrec : SoundR K base rec) (l : Nat) (args : List V) (H : Heap) (v : V) (H' : Heap) (h : roundR rec l args H = some (v, H')) (m : Inj) (w : World) (vs : Array Value) (k : Nat) (hR : Rel K m base H w) (hl : l < H.length) (ha : All2 (V.R m H.length) args vs.toList) :
    ∃ f tmps assign body, (Instr.yield (m l).blk vs).run K.P w = .ok (.round (m l).blk f tmps assign body) w ∧ RoundIn Fence.wide k K.P (m l).blk f tmps assign body w (CPost K base m H.length w v H') := by
  unfold roundR at h
  split at h
  · rename_i pd r hloop
    obtain ⟨hb1, L, hb2, hb3⟩ := hR.blk l _ hloop
    have hnc : ∀ (L : Loop) C T fz, Obj.loop L ≠ .cells C T fz := by intros; simp
    split at h
    · rename_i hlen
      obtain ⟨⟨e1, s1⟩, hq1, h⟩ := bind_some h
      simp only [] at h
      split at h
      · rename_i _ pd1 r1 hloop1
        obtain ⟨⟨e2, s2⟩, hq2, h⟩ := bind_some h
        simp only [] at h hq2
        have hsz : vs.size = L.params.size := by
          have h1 := ha.length
          have h2 := hb3.ps
          simp at h1
          rw [← h1, hlen, ← h2]
          simp
        refine ⟨L.fn, (L.params.zip vs).foldl (fun tmps (t, a) => tmps.setIfInBounds t a) L.tmps, L.assign, L.body, ?_, ?_⟩
        · unfold Instr.yield Instr.getLoop
          simp only [Sem.run_bind, run_getObj hb2 (hnc L), Result.andThen_ok, Sem.run_pure]
          rw [if_neg (by simpa using hsz)]
          rfl
        · refine roundIn_of_wpIn trivial ?_
          have hS1 : SRel K base m ((r.ps.zip args).foldl (fun t p => t.set p.1 p.2) r.t) [] H { tmps := (L.params.zip vs).foldl (fun tmps (t, a) => tmps.setIfInBounds t a) L.tmps, defers := [] } w := by
            refine ⟨hR, ?_, .nil⟩
            have := zip_fold r.ps ha hb3.t
            rw [← Array.foldl_toList, Array.toList_zip, hb3.ps]
            exact this
          have hw1 := hrec L.assign (some l) _ .normal s1 (by rw [hb3.assign]; exact hq1) m _ w k hS1 (fun q hq => by cases hq; exact hl)
          refine wpIn_mono (show L.assign.wpIn (fen m (some l)) k K.P _ _ w from hw1) ?_
          rintro e' a1 w1 ⟨rfl, m1, hS1', hL1, hB1⟩
          -- the round begins
          obtain ⟨hc1, L1, hc2, hc3⟩ := hS1'.rel.blk l _ hloop1
          have hml : m1 l = m l := hL1.2 l hl
          obtain ⟨hR2, hB2⟩ := hS1'.rel.turnObj (y := .loop .busy pd1 r1) (o' := .loop { L1 with state := .busy }) hloop1 rfl hc2 ⟨hc1, _, set_self hc2, ⟨rfl, hc3.pend, hc3.pdn, hc3.t, hc3.ps, hc3.assign, hc3.body, hc3.dlt, hc3.defers⟩⟩ rfl
          refine ⟨{ w1 with heap := w1.heap.setIfInBounds (m1 l).blk (.loop { L1 with state := .busy }) }, ?_, ?_⟩
          · show (Instr.beginRound (m l).blk).run K.P w1 = .ok () { w1 with heap := w1.heap.setIfInBounds (m1 l).blk (.loop { L1 with state := .busy }) }
            unfold Instr.beginRound Instr.getLoop
            rw [← hml]
            simp only [Sem.run_bind, run_getObj hc2 (hnc L1), Result.andThen_ok, Sem.run_pure, run_setObj hc2 (hnc L1)]
            rw [hc3.state]
            rfl
          · have hS2 : SRel K base m1 s1.t s1.ds (s1.H.set l (.loop .busy pd1 r1)) a1 { w1 with heap := w1.heap.setIfInBounds (m1 l).blk (.loop { L1 with state := .busy }) } :=
              ⟨hR2, by rw [List.length_set]; exact hS1'.t, by rw [List.length_set]; exact hS1'.ds⟩
            have hll : l < s1.H.length := (List.getElem?_eq_some_iff.1 hloop1).1
            have hw2 := hrec L.body (some l) _ e2 s2 (by rw [hb3.body]; exact hq2) m1 _ _ k hS2 (fun q hq => by cases hq; rw [List.length_set]; exact hll)
            have hfen : fen m1 (some l) = Fence.wide.inRound (m l).blk := by simp [fen, fenr, Fence.inRound, hml]
            rw [hfen] at hw2
            refine wpIn_mono hw2 ?_
            rintro e' a2 w2 ⟨rfl, m2, hS2', hL2, hB3⟩
            simp only [List.length_set] at hL2
            split at h
            · rename_i pd2 r2 hloop2
              obtain ⟨hd1, L2, hd2, hd3⟩ := hS2'.rel.blk l _ hloop2
              have hml2 : m2 l = m l := (hL2.2 l hll).trans hml
              have fin : ∀ (st : LSt) (pd' : Option Ex) (j : Option Code) (b : Bool), pd' ≠ some .normal → j = pd'.bind exCode → lstOf st = (if j.isNone then LoopState.ready else .done) → b = j.isNone → v = .c (.bool b) → H' = s2.H.set l (.loop st pd' r2) →
                  ∃ u w', (Instr.endRound (m l).blk j).run K.P w2 = .ok u w' ∧ CPost K base m H.length w v H' (.returned u) w' := by
                intro st pd' j b hpd hj hst hb hv hH'
                obtain ⟨hR3, hB4⟩ := hS2'.rel.turnObj (y := .loop st pd' r2) (o' := .loop { L2 with state := if j.isNone then .ready else .done, pending := j }) hloop2 rfl hd2
                  ⟨hd1, _, set_self hd2, ⟨hst.symm, hj, hpd, hd3.t, hd3.ps, hd3.assign, hd3.body, hd3.dlt, hd3.defers⟩⟩ rfl
                refine ⟨.bool j.isNone, _, ?_, .bool j.isNone, m2, rfl, ?_, by rw [hH']; exact hR3, ?_, ((hB1.trans hB2).trans hB3).trans hB4⟩
                · show (Instr.endRound (m l).blk j).run K.P w2 = .ok (.bool j.isNone) { w2 with heap := w2.heap.setIfInBounds (m2 l).blk (.loop { L2 with state := if j.isNone then .ready else .done, pending := j }) }
                  unfold Instr.endRound Instr.getLoop
                  rw [← hml2]
                  simp only [Sem.run_bind, run_getObj hd2 (hnc L2), Result.andThen_ok, Sem.run_pure, run_setObj hd2 (hnc L2)]
                · rw [hv, hb]; exact (rfl : (V.c (.bool j.isNone)).R m2 H'.length (.bool j.isNone))
                · rw [hH', List.length_set]; exact hL1.trans hL2
              cases e2 with
              | normal =>
                simp only [Option.some.injEq, Prod.mk.injEq] at h
                exact fin .ready none none true (by simp) rfl rfl rfl h.1.symm h.2.symm
              | ret =>
                simp only [Option.some.injEq, Prod.mk.injEq] at h
                exact fin .done (some .ret) (some .ret) false (by simp) rfl rfl rfl h.1.symm h.2.symm
              | exit i =>
                simp only [Option.some.injEq, Prod.mk.injEq] at h
                exact fin .done (some (.exit i)) (some (.exit i)) false (by simp) rfl rfl rfl h.1.symm h.2.symm
            · cases h
      · cases h
    · cases h
  · cases h

end
end Go.Proofs.Ytnepeleepmhdaaa.AM
