/- AM, fifteenth text: regions, whose operations go one behind the other. -/
import Derived.Test.YtnepeleepmhdaaaAM14
set_option linter.unusedVariables false
set_option linter.unusedSimpArgs false
namespace Go.Proofs.Ytnepeleepmhdaaa.AM
open Go Go.RowKit

/-- The fence: everything may be met; in which round of which loop. -/
def fenr (ro : Option Nat) : Fence := { Fence.wide with round := ro }
abbrev fen (m : Inj) (rd : Option Nat) : Fence := fenr (rd.map fun l => (m l).blk)

def exitOf : Ex → Exit
  | .normal => .normal
  | .exit i => .exit i
  | .ret => .ret

structure SRel (K : Ctx) (base : Nat) (m : Inj) (t : List V) (ds : List Nat) (H : Heap) (a : Act) (w : World) : Prop where
  rel : Rel K m base H w
  t : All2 (V.R m H.length) t a.tmps.toList
  ds : All2 (fun (D : Nat) (d : Deferred) => D < H.length ∧ d = { target := .collected (m D).blk, args := #[] }) ds a.defers

/-- What code comes to, here and there. -/
def Post (K : Ctx) (base : Nat) (m : Inj) (n : Nat) (w : World) (e : Ex) (s : St) : Exit → Act → World → Prop :=
  fun e' a' w' => e' = exitOf e ∧ ∃ m', SRel K base m' s.t s.ds s.H a' w' ∧ Later m n m' s.H.length ∧ Below base w w'
/-- What a call comes to. -/
def CPost (K : Ctx) (base : Nat) (m : Inj) (n : Nat) (w : World) (v : V) (H' : Heap) : Ending → World → Prop :=
  fun e w' => ∃ v' m', e = .returned v' ∧ v.R m' H'.length v' ∧ Rel K m' base H' w' ∧ Later m n m' H'.length ∧ Below base w w'

def SoundR (K : Ctx) (base : Nat) (rec : Rec) : Prop :=
  ∀ (c : Code) (rd : Option Nat) (s : St) (e : Ex) (s' : St), rec rd (comp K.P K.G c) s = some (e, s') →
    ∀ (m : Inj) (a : Act) (w : World) (k : Nat), SRel K base m s.t s.ds s.H a w → (∀ l, rd = some l → l < s.H.length) →
      c.wpIn (fen m rd) k K.P (Post K base m s.H.length w e s') a w

/-- The functions are the program's. -/
def OkF (K : Ctx) (base : Nat) : Prop :=
  ∀ f g, K.F f = some g → (∀ args w, (callFunc f args).run K.P w = .ok (.enter f args) w) ∧
    match g with
    | .code i => ∃ fn, K.P.funcs[f]? = some fn ∧ compF K.P K.G fn = some i
    | .ext g => ∀ (args : List V) (H : Heap) (v : V) (H' : Heap), g args H = some (v, H') → ∀ (m : Inj) (w : World) (vs : Array Value) (k : Nat), Rel K m base H w → All2 (V.R m H.length) args vs.toList →
        CallsIn Fence.wide k K.P f vs w (CPost K base m H.length w v H')

theorem SRel.ops {K : Ctx} {base : Nat} {m : Inj} {t : List V} {ds : List Nat} {H : Heap} {a : Act} {w : World} (h : SRel K base m t ds H a w) : Ops K m H.length (X.ev t) a.eval := by
  intro x X hx
  cases x with
  | tmp i =>
    simp only [cX, Option.some.injEq] at hx
    subst hx
    simp only [X.ev, Act.eval]
    cases ht : t[i]? with
    | none =>
      have := h.t.get_none ht
      simp at this
      rw [Option.getD_none, Array.getD_eq_getD_getElem?, Array.getElem?_eq_none this]
      exact V.R_undef _ _
    | some v =>
      obtain ⟨v', h1, h2⟩ := h.t.get ht
      simp at h1
      rw [Option.getD_some, Array.getD_eq_getD_getElem?, h1]
      exact h2
  | const v => obtain ⟨y, hy, rfl⟩ := map_some' hx; exact vOf_R hy _ _
  | global g =>
    obtain ⟨b, hb, rfl⟩ := map_some' hx
    obtain ⟨h1, h2, h3⟩ := h.rel.glob g b hb
    exact ⟨h1, by simp [Act.eval, ptrV, adr, h2, h3]⟩
  | func f => simp only [cX, Option.some.injEq] at hx; subst hx; exact ⟨by simp, by simp, rfl⟩

theorem SRel.put {K : Ctx} {base : Nat} {m m' : Inj} {t : List V} {ds : List Nat} {H H' : Heap} {a : Act} {w w' : World} (h : SRel K base m t ds H a w) (hR : Rel K m' base H' w') (hl : Later m H.length m' H'.length) {v : V} {v' : Value} (hv : v.R m' H'.length v') (d : Option Nat) :
    SRel K base m' (putT t d v) ds H' (a.put d v') w' := by
  have ht := h.t.imp fun _ _ hr => hr.later hl
  have hds : All2 (fun (D : Nat) (d : Deferred) => D < H'.length ∧ d = { target := .collected (m' D).blk, args := #[] }) ds a.defers :=
    h.ds.imp fun D d hd => ⟨Nat.lt_of_lt_of_le hd.1 hl.1, by rw [hl.2 _ hd.1]; exact hd.2⟩
  cases d with
  | none => exact ⟨hR, ht, hds⟩
  | some d => exact ⟨hR, by simp only [putT, Act.put, Array.toList_setIfInBounds]; exact ht.set hv, hds⟩

theorem wanted_R {K : Ctx} {base : Nat} {m : Inj} {t : List V} {ds : List Nat} {H : Heap} {a : Act} {w : World} (h : SRel K base m t ds H a w) {ops : Array Oper} {o : Oper} {g : Option (Nat × Bool)} (hg : cGuard ops o.guard = some g) :
    Region.wanted o (yielded ops a.tmps) = wanted t g := by
  unfold Region.wanted
  cases hgd : o.guard with
  | none => rw [hgd] at hg; simp [cGuard] at hg; subst hg; rfl
  | some p =>
    obtain ⟨j, b⟩ := p
    rw [hgd] at hg
    obtain ⟨d, hd, rfl⟩ := map_some' hg
    simp only [wanted, yielded, hd, Option.bind_some]
    cases ht : t[d]? with
    | none =>
      have := h.t.get_none ht
      simp at this
      rw [Array.getElem?_eq_none this]
      rfl
    | some v =>
      obtain ⟨v', h1, h2⟩ := h.t.get ht
      simp at h1
      rw [h1]
      have nb : (∀ b', v ≠ .c (.bool b')) → ∀ b', v' ≠ .bool b' := by
        intro hne b' e
        subst e
        cases v with
        | c x =>
          have hx : x.R m H.length (.bool b') := h2
          cases x with
          | bool q => exact hne q rfl
          | ptr q => obtain ⟨_, e, _⟩ := ptr_R hx; cases e
          | sl q _ _ _ => obtain ⟨_, _, e, _⟩ := sl_R hx; cases e
          | map q => obtain ⟨_, e, _⟩ := map_R hx; cases e
          | fn _ _ _ => obtain ⟨_, _, e⟩ := hx; cases e
          | yld _ => obtain ⟨_, e⟩ := hx; cases e
          | _ => cases hx
        | agg l => obtain ⟨_, e, _⟩ := h2; cases e
        | tup l => obtain ⟨_, e, _⟩ := h2; cases e
      by_cases hb : ∃ b', v = .c (.bool b')
      · obtain ⟨b', rfl⟩ := hb
        have : v' = .bool b' := h2
        subst this
        rfl
      · have h3 := nb fun b' e => hb ⟨b', e⟩
        have h4 : ∀ b', v ≠ .c (.bool b') := fun b' e => hb ⟨b', e⟩
        have e2 : (match some v with | some (.c (.bool b')) => b' == b | _ => false) = false := by
          cases v with
          | c x => cases x <;> first | rfl | exact absurd rfl (h4 _)
          | agg l => rfl
          | tup l => rfl
        refine Eq.trans ?_ e2.symm
        cases v' <;> first | rfl | exact absurd rfl (h3 _)

theorem cOp_defer {P : Program} {G : Nat → Option Nat} {o : Oper} {io : IOp} (h : cOp P G o.op = some io) : ∀ c, o.op ≠ .defer c := by
  intro c e
  rw [e] at h
  simp [cOp] at h

/-- A REGION's OPERATIONS, IN AN ORDER. -/
theorem ops_sound {K : Ctx} {base : Nat} {rec : Rec} (hcall : ∀ f args H v H', callR K.F rec f args H = some (v, H') → ∀ (m : Inj) (w : World) (vs : Array Value) (k : Nat), Rel K m base H w → All2 (V.R m H.length) args vs.toList →
      (callFunc f vs).run K.P w = .ok (.enter f vs) w ∧ CallsIn Fence.wide k K.P f vs w (CPost K base m H.length w v H'))
    (hround : ∀ l args H v H', roundR rec l args H = some (v, H') → ∀ (m : Inj) (w : World) (vs : Array Value) (k : Nat), Rel K m base H w → l < H.length → All2 (V.R m H.length) args vs.toList →
      ∃ f tmps assign body, (Instr.yield (m l).blk vs).run K.P w = .ok (.round (m l).blk f tmps assign body) w ∧ RoundIn Fence.wide k K.P (m l).blk f tmps assign body w (CPost K base m H.length w v H'))
    {ops : Array Oper} {ro : Option Nat} {m0 : Inj} {n0 : Nat} {w0 : World} {ds : List Nat} {k : Nat} : ∀ (l : List Nat), (∀ i ∈ l, i < ops.size) → ∀ (t : List V) (H : Heap) (t' : List V) (H' : Heap), opsR K.F rec (l.map fun i => cOper K.P K.G ops (ops.getD i default)) t H = some (t', H') →
      ∀ (m : Inj) (a : Act) (w : World), SRel K base m t ds H a w → Later m0 n0 m H.length → Below base w0 w →
        wpOpsIn (fenr ro) k K.P ops (Post K base m0 n0 w0 .normal ⟨t', ds, H'⟩) l a w := by
  intro l
  induction l with
  | nil =>
    intro _ t H t' H' h m a w hS hL hB
    simp [opsR] at h
    obtain ⟨rfl, rfl⟩ := h
    exact ⟨rfl, m, hS, hL, hB⟩
  | cons i l ih =>
    intro hi t H t' H' h m a w hS hL hB
    have hio : ops[i]? = some (ops.getD i default) := by
      have := hi i (by simp)
      rw [Array.getD_eq_getD_getElem?, Array.getElem?_eq_getElem this]; rfl
    have ih' := ih fun j hj => hi j (by simp [hj])
    simp only [wpOpsIn, hio]
    simp only [List.map_cons, opsR] at h
    generalize ops.getD i default = o at h hio
    have hfn : ∀ f, (fenr ro).fn f := fun f => trivial
    cases hg : cGuard ops o.guard with
    | none =>
      have e : cOper K.P K.G ops o = ⟨none, .bad, none⟩ := by simp [cOper, hg]
      rw [e] at h
      simp [wanted, aop] at h
    | some g =>
      have e : cOper K.P K.G ops o = ⟨o.dst, (cOp K.P K.G o.op).getD .bad, g⟩ := by simp [cOper, hg]
      rw [e] at h
      simp only [] at h
      rw [wanted_R hS hg]
      by_cases hw : wanted t g = true
      · rw [if_pos hw] at h
        rw [if_pos hw]
        cases hc : cOp K.P K.G o.op with
        | none => simp [hc, aop] at h
        | some io =>
          rw [hc, Option.getD_some] at h
          obtain ⟨r, hr, hh⟩ := bind_some h
          clear h
          have hgood := good_op hS.rel hS.ops hc hr
          refine ⟨fun f _ => hfn f, ?_⟩
          rw [Oper.semAt_eq _ _ _ (cOp_defer hc)]
          obtain ⟨an, H1⟩ := r
          cases an with
          | v x =>
            simp only [] at hh
            obtain ⟨m', w', hval, hR', hL', hB'⟩ := hgood
            rcases hval with ⟨v, hv, hxR⟩ | ⟨hv, hx⟩
            · rw [hv]
              exact ih' _ _ _ _ hh m' _ w' (hS.put hR' hL' hxR o.dst) (hL.trans hL') (hB.trans hB')
            · rw [hv]
              subst hx
              exact ih' _ _ _ _ hh m' _ w' (hS.put hR' hL' (V.R_undef _ _) o.dst) (hL.trans hL') (hB.trans hB')
          | call f args =>
            simp only [] at hh
            obtain ⟨rfl, vs, hv, hargs⟩ := hgood
            obtain ⟨q, hq, hh⟩ := bind_some hh
            obtain ⟨h1, h2⟩ := hcall f args _ q.1 q.2 hq m w vs (k - 1) hS.rel hargs
            rw [hv, h1]
            refine ⟨(fun hdd => absurd hdd (by simp [fenr, Fence.wide])), (show CallsIn (fenr ro) _ _ _ _ _ _ from h2).mono ?_⟩
            rintro e' w' ⟨v', m', rfl, hvR, hR', hL', hB'⟩
            exact ih' _ _ _ _ hh m' _ w' (hS.put hR' hL' hvR o.dst) (hL.trans hL') (hB.trans hB')
          | yld l' args =>
            simp only [] at hh
            obtain ⟨rfl, hl', vs, hv, hargs⟩ := hgood
            obtain ⟨q, hq, hh⟩ := bind_some hh
            obtain ⟨f, tmps, assign, body, h1, h2⟩ := hround l' args _ q.1 q.2 hq m w vs (k - 1) hS.rel hl' hargs
            rw [hv, h1]
            refine ⟨(fun hdd => absurd hdd (by simp [fenr, Fence.wide])), (show RoundIn (fenr ro) _ _ _ _ _ _ _ _ _ from h2).mono ?_⟩
            rintro e' w' ⟨v', m', rfl, hvR, hR', hL', hB'⟩
            exact ih' _ _ _ _ hh m' _ w' (hS.put hR' hL' hvR o.dst) (hL.trans hL') (hB.trans hB')
      · rw [if_neg hw] at h
        rw [if_neg hw]
        exact ⟨fun f _ => hfn f, ih' _ _ _ _ h m _ w (hS.put hS.rel (Later.refl _ _) (V.R_undef _ _) o.dst) hL hB⟩

end Go.Proofs.Ytnepeleepmhdaaa.AM
