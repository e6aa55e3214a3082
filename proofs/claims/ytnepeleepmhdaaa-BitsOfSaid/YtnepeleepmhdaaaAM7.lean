/- AM, seventh text: places, slices, parts, calls. -/
import Derived.Test.YtnepeleepmhdaaaAM6
set_option linter.unusedVariables false
set_option linter.unusedSimpArgs false
namespace Go.Proofs.Ytnepeleepmhdaaa.AM
open Go Go.RowKit

section
variable {K : Ctx} {m : Inj} {base : Nat} {H : Heap} {w : World} {ρ : X → V} {ρc : Operand → Value} {r : AN × Heap}

theorem good_fa (hR : Rel K m base H w) (hρ : Ops K m H.length ρ ρc) {T : TypeId} {fs : Array Field} (hu : K.P.underlying T = some (.struct fs)) {i : Nat} {f : Field} (hf : fs[i]? = some f) {n : Nat} (hn : szOf K.P f.type = some n) (h0 : n ≠ 0)
    {x : Operand} {x' : X} (hx : cX K.G x = some x') (h : aop ρ (.fa f.offset x') H = some r) :
    Good K base m H w ((do pure (Next.value (← Instr.fieldAt T (ρc x) i)) : Sem Next).run K.P w) r := by
  simp only [aop] at h
  cases ha : adOf (ρ x') with
  | none => simp [ha] at h
  | some a =>
    simp [ha] at h; subst h
    obtain ⟨hv, hl⟩ := adOf_R ha (hρ x x' hx)
    rw [run_v, hv]
    have : (Instr.fieldAt T (.pointer (some (adr m a))) i).run K.P w = .ok (ptrV m (addA a f.offset)) w := by
      unfold Instr.fieldAt
      simp only [Sem.run_bind, run_underlying hu, Result.andThen_ok, hf, Instr.sureAddr, Sem.run_pure, fieldPlace, run_szOf hn]
      rw [if_neg h0, adr_add]
      rfl
    rw [this]
    exact Good.val hR (show (V.c (.ptr _)).R m H.length _ from ⟨hl, rfl⟩)

theorem run_part {P : Program} {T : TypeId} {n : Option Nat} (hT : rdOf P T = some n) {m : Inj} {k : Nat} {cs : List Cell} {C : Array Value} (hC : RL m k cs C.toList) {off : Nat} {x : V}
    (h : prd cs off n = some x) (w : World) : ∃ v, (part T C off).run P w = .ok v w ∧ x.R m k v := by
  have hs := rdOf_spec hT
  unfold part
  cases n with
  | none =>
    obtain ⟨d, h1, h2, h3⟩ := hs
    cases hc : cs[off]? with
    | none => simp [prd, hc] at h
    | some c =>
      simp [prd, hc] at h; subst h
      obtain ⟨v, hv, hr⟩ := hC.get hc
      simp at hv
      refine ⟨v, ?_, hr⟩
      rw [Sem.run_bind, run_isAgg_no h1 h2 h3, Result.andThen_ok]
      simp [hv]
  | some n =>
    obtain ⟨d, i, h1, h2, rfl, h4⟩ := hs
    cases hc : sub cs off i.size with
    | none => simp [prd, hc] at h
    | some l =>
      simp [prd, hc] at h; subst h
      refine ⟨.agg (C.extract off (off + i.size)), ?_, _, rfl, ?_⟩
      · rw [Sem.run_bind, run_isAgg_yes h1 h4, Result.andThen_ok]
        simp [run_size h2]
      · unfold sub at hc
        split at hc
        · cases hc
          rw [Array.toList_extract, List.extract_eq_take_drop]
          have := (hC.drop off).take i.size
          simpa using this
        · cases hc

theorem good_fld (hR : Rel K m base H w) (hρ : Ops K m H.length ρ ρc) {T : TypeId} {fs : Array Field} (hu : K.P.underlying T = some (.struct fs)) {i : Nat} {f : Field} (hf : fs[i]? = some f) {n : Option Nat} (hn : rdOf K.P f.type = some n)
    {x : Operand} {x' : X} (hx : cX K.G x = some x') (h : aop ρ (.fld f.offset n x') H = some r) :
    Good K base m H w ((do pure (Next.value (← Instr.field T (ρc x) i)) : Sem Next).run K.P w) r := by
  simp only [aop] at h
  have hxR := hρ x x' hx
  split at h
  · rename_i cs hcs
    rw [hcs] at hxR
    obtain ⟨C, hC1, hC2⟩ := hxR
    cases hy : prd cs f.offset n with
    | none => simp [hy] at h
    | some y =>
    simp [hy] at h; subst h
    obtain ⟨v, h1, h2⟩ := run_part hn hC2 hy w
    rw [run_v, hC1]
    have : (Instr.field T (.agg C) i).run K.P w = .ok v w := by
      unfold Instr.field
      simp only [Sem.run_bind, run_underlying hu, Result.andThen_ok, hf, asAgg, Sem.run_pure, h1]
    rw [this]
    exact Good.val hR h2
  · cases h

theorem asI_R {m : Inj} {n : Nat} {x : V} {v : Value} {i : Int} (h : asI x = some i) (hx : x.R m n v) : ∃ k, v = .int k i := by
  unfold asI at h
  split at h
  · cases h; exact ⟨_, hx⟩
  · cases h

theorem good_iaS (hR : Rel K m base H w) (hρ : Ops K m H.length ρ ρc) {T e : TypeId} (hu : K.P.underlying T = some (.slice e)) {n : Nat} (hn : szOf K.P e = some n)
    {x i : Operand} {x' i' : X} (hx : cX K.G x = some x') (hi : cX K.G i = some i') (h : aop ρ (.iaS n x' i') H = some r) :
    Good K base m H w ((do pure (Next.value (← Instr.indexAt T (ρc x) (ρc i))) : Sem Next).run K.P w) r := by
  simp only [aop] at h
  have hxR := hρ x x' hx
  split at h
  · rename_i a k c o ha
    rw [ha] at hxR
    obtain ⟨hl, hkc, A, c', hv, hc', hA⟩ := hxR
    cases hii : asI (ρ i') with
    | none => simp [hii] at h
    | some j =>
      simp only [hii, Option.bind_some] at h
      split at h
      · rename_i hj
        cases h
        obtain ⟨ki, hiv⟩ := asI_R hii (hρ i i' hi)
        have hA' : A = adr m a := by
          rcases hA with hA | h0
          · exact hA
          · exfalso
            have : c = 0 := by split at hc' <;> omega
            omega
        rw [run_v, hv, hiv]
        have : (Instr.indexAt T (.slice (some A) k c') (.int ki j)).run K.P w = .ok (ptrV m (addA a (j.toNat * n))) w := by
          unfold Instr.indexAt
          simp only [asIntOf, Sem.run_bind, Sem.run_pure, Result.andThen_ok, run_underlying hu]
          rw [if_pos hj]
          simp only [Sem.run_bind, run_szOf hn, Result.andThen_ok, Sem.run_pure, hA', adr_add]
          rfl
        rw [this]
        exact Good.val hR (show (V.c (.ptr _)).R m H.length _ from ⟨hl, rfl⟩)
      · cases h
  · cases h

theorem good_iaA (hR : Rel K m base H w) (hρ : Ops K m H.length ρ ρc) {T e : TypeId} {k : Nat} (hu : K.P.underlying T = some (.array k e)) {n : Nat} (hn : szOf K.P e = some n)
    {x i : Operand} {x' i' : X} (hx : cX K.G x = some x') (hi : cX K.G i = some i') (h : aop ρ (.iaA k n x' i') H = some r) :
    Good K base m H w ((do pure (Next.value (← Instr.indexAt T (ρc x) (ρc i))) : Sem Next).run K.P w) r := by
  simp only [aop] at h
  cases ha : adOf (ρ x') with
  | none => simp [ha] at h
  | some a =>
    obtain ⟨hv, hl⟩ := adOf_R ha (hρ x x' hx)
    cases hii : asI (ρ i') with
    | none => simp [ha, hii] at h
    | some j =>
      simp only [ha, hii, Option.bind_some] at h
      split at h
      · rename_i hj
        cases h
        obtain ⟨ki, hiv⟩ := asI_R hii (hρ i i' hi)
        rw [run_v, hv, hiv]
        have : (Instr.indexAt T (.pointer (some (adr m a))) (.int ki j)).run K.P w = .ok (ptrV m (addA a (j.toNat * n))) w := by
          unfold Instr.indexAt
          simp only [asIntOf, Sem.run_bind, Sem.run_pure, Result.andThen_ok, run_underlying hu, Instr.sureAddr]
          rw [if_pos hj]
          simp only [Sem.run_bind, run_szOf hn, Result.andThen_ok, Sem.run_pure, adr_add]
          rfl
        rw [this]
        exact Good.val hR (show (V.c (.ptr _)).R m H.length _ from ⟨hl, rfl⟩)
      · cases h

theorem good_ix (hR : Rel K m base H w) (hρ : Ops K m H.length ρ ρc) {T e : TypeId} {k : Nat} (hu : K.P.underlying T = some (.array k e)) {n : Nat} (hn : szOf K.P e = some n) {rd : Option Nat} (hrd : rdOf K.P e = some rd)
    {x i : Operand} {x' i' : X} (hx : cX K.G x = some x') (hi : cX K.G i = some i') (h : aop ρ (.ix k n rd x' i') H = some r) :
    Good K base m H w ((do pure (Next.value (← Instr.index T (ρc x) (ρc i))) : Sem Next).run K.P w) r := by
  simp only [aop] at h
  have hxR := hρ x x' hx
  split at h
  · rename_i cs hcs
    rw [hcs] at hxR
    obtain ⟨C, hC1, hC2⟩ := hxR
    cases hii : asI (ρ i') with
    | none => simp [hii] at h
    | some j =>
      simp only [hii, Option.bind_some] at h
      split at h
      · rename_i hj
        obtain ⟨ki, hiv⟩ := asI_R hii (hρ i i' hi)
        cases hy : prd cs (j.toNat * n) rd with
        | none => simp [hy] at h
        | some y =>
        simp [hy] at h; subst h
        obtain ⟨v, h1, h2⟩ := run_part hrd hC2 hy w
        rw [run_v, hC1, hiv]
        have : (Instr.index T (.agg C) (.int ki j)).run K.P w = .ok v w := by
          unfold Instr.index
          simp only [asIntOf, Sem.run_bind, Sem.run_pure, Result.andThen_ok, run_underlying hu]
          rw [if_pos hj]
          simp only [Sem.run_bind, run_szOf hn, Result.andThen_ok, h1]
        rw [this]
        exact Good.val hR h2
      · cases h
  · cases h

theorem good_ixT (hR : Rel K m base H w) (hρ : Ops K m H.length ρ ρc) {T : TypeId} (hu : K.P.underlying T = some .string)
    {x i : Operand} {x' i' : X} (hx : cX K.G x = some x') (hi : cX K.G i = some i') (h : aop ρ (.ixT x' i') H = some r) :
    Good K base m H w ((do pure (Next.value (← Instr.index T (ρc x) (ρc i))) : Sem Next).run K.P w) r := by
  simp only [aop] at h
  have hxR := hρ x x' hx
  split at h
  · rename_i s hs
    rw [hs] at hxR
    have hxv : ρc x = .string s := hxR
    cases hii : asI (ρ i') with
    | none => simp [hii] at h
    | some j =>
      simp only [hii, Option.bind_some] at h
      split at h
      · rename_i hj
        obtain ⟨ki, hiv⟩ := asI_R hii (hρ i i' hi)
        cases hb : s.data[j.toNat]? with
        | none => simp [hb] at h
        | some b =>
          simp [hb] at h; subst h
          rw [run_v, hxv, hiv]
          have hsb : s[j.toNat]? = some b := by
            obtain ⟨hlt, he⟩ := Array.getElem?_eq_some_iff.1 hb
            have hlt' : j.toNat < s.size := hlt
            rw [getElem?_pos s j.toNat hlt']
            exact congrArg some he
          have : (Instr.index T (.string s) (.int ki j)).run K.P w = .ok (.int .u8 b.toNat) w := by
            unfold Instr.index
            simp only [asIntOf, Sem.run_bind, Sem.run_pure, Result.andThen_ok, run_underlying hu]
            rw [if_pos hj, hsb]
            rfl
          rw [this]
          exact Good.val hR (show (V.c (.int _ _)).R m H.length _ from rfl)
      · cases h
  · cases h

theorem good_ext (hR : Rel K m base H w) (hρ : Ops K m H.length ρ ρc) {i : Nat} {x : Operand} {x' : X} (hx : cX K.G x = some x') (h : aop ρ (.ext x' i) H = some r) :
    Good K base m H w ((do pure (Next.value (← Instr.extract (ρc x) i)) : Sem Next).run K.P w) r := by
  simp only [aop] at h
  have hxR := hρ x x' hx
  split at h
  · rename_i l hl
    rw [hl] at hxR
    obtain ⟨C, hC1, hC2⟩ := hxR
    cases hc : l[i]? with
    | none => simp [hc] at h
    | some p =>
      simp [hc] at h; subst h
      obtain ⟨v, hv, hr⟩ := hC2.get hc
      simp at hv
      rw [run_v, hC1]
      simp only [Instr.extract, hv, Sem.run_pure, Result.andThen_ok]
      exact Good.val hR (Pc.R_v.2 hr)
  · cases h

theorem good_nilck (hR : Rel K m base H w) (hρ : Ops K m H.length ρ ρc) {x : Operand} {x' : X} (hx : cX K.G x = some x') (h : aop ρ (.nilck x') H = some r) {o : Oper} (ho : o.op = .nilCheck x) :
    Good K base m H w ((execOp ρc o).run K.P w) r := by
  simp only [aop] at h
  have hxR := hρ x x' hx
  split at h
  · rename_i a ha
    cases h
    rw [ha] at hxR
    have hv : ρc x = ptrV m a := hxR.2
    have : (execOp ρc o).run K.P w = .ok (.value (ptrV m a)) w := by
      simp only [execOp, ho, hv, ptrV, Sem.run_pure]
    rw [this]
    exact Good.val hR (show (V.c (.ptr _)).R m H.length _ from ⟨hxR.1, rfl⟩)
  · rename_i f g k ha
    cases h
    rw [ha] at hxR
    obtain ⟨h1, h2, h3⟩ := hxR
    have : (execOp ρc o).run K.P w = .ok (.value (ρc x)) w := by
      simp only [execOp, ho, h3, Sem.run_pure]
    rw [this]
    exact Good.val hR (show (V.c (.fn _ _ _)).R m H.length _ from ⟨h1, h2, h3⟩)
  · cases h

theorem cXs_R {n : Nat} (hρ : Ops K m n ρ ρc) : ∀ {xs : List Operand} {ys : List X}, cXs K.G xs = some ys → All2 (V.R m n) (ys.map ρ) (xs.map ρc) := by
  intro xs
  induction xs with
  | nil => intro ys h; simp [cXs] at h; subst h; exact .nil
  | cons x xs ih =>
    intro ys h
    simp only [cXs] at h
    cases h1 : cX K.G x with
    | none => simp [h1] at h
    | some y =>
      cases h2 : cXs K.G xs with
      | none => simp [h1, h2] at h
      | some l => simp [h1, h2] at h; subst h; exact .cons (hρ x y h1) (ih h2)

theorem adsOf_R {n : Nat} : ∀ {l : List V} {as : List Ad} {vs : List Value}, adsOf l = some as → All2 (V.R m n) l vs → vs = as.map (ptrV m) ∧ ∀ a ∈ as, a.1 < n := by
  intro l
  induction l with
  | nil => intro as vs h hv; simp [adsOf] at h; subst h; cases hv; exact ⟨rfl, by simp⟩
  | cons x l ih =>
    intro as vs h hv
    cases hv with
    | @cons _ v _ vs hx hv =>
      simp only [adsOf, List.mapM_cons] at h
      cases h1 : adOf x with
      | none => simp [h1] at h
      | some a =>
        cases h2 : l.mapM adOf with
        | none => simp [h1, h2] at h
        | some as' =>
          simp [h1, h2] at h; subst h
          obtain ⟨e, hl⟩ := adOf_R h1 hx
          obtain ⟨e', hl'⟩ := ih h2 hv
          subst e e'
          exact ⟨rfl, by intro b hb; cases hb with | head => exact hl | tail _ hb => exact hl' b hb⟩

theorem good_mkfn (hR : Rel K m base H w) (hρ : Ops K m H.length ρ ρc) {f : FuncId} {fs cs : Array Operand} {fs' cs' : List X} (hf : cXs K.G fs.toList = some fs') (hc : cXs K.G cs.toList = some cs') (h : aop ρ (.mkfn f fs' cs') H = some r) :
    Good K base m H w ((do pure (Next.value (← Instr.makeFunc (.func f) (fs.map ρc) (cs.map ρc))) : Sem Next).run K.P w) r := by
  simp only [aop] at h
  cases h1 : adsOf (fs'.map ρ) with
  | none => simp [h1] at h
  | some a =>
    cases h2 : adsOf (cs'.map ρ) with
    | none => simp [h1, h2] at h
    | some b =>
      simp [h1, h2] at h; subst h
      obtain ⟨e1, l1⟩ := adsOf_R h1 (cXs_R hρ hf)
      obtain ⟨e2, l2⟩ := adsOf_R h2 (cXs_R hρ hc)
      rw [run_v]
      simp only [Instr.makeFunc, Sem.run_pure, Result.andThen_ok]
      refine Good.val hR (show (V.c (.fn _ _ _)).R m H.length _ from ⟨l1, l2, ?_⟩)
      rw [← e1, ← e2, ← Array.toList_map, ← Array.toList_map, Array.toArray_toList, Array.toArray_toList]

theorem ptrs_V {n : Nat} {l : List Ad} (h : ∀ a ∈ l, a.1 < n) : All2 (V.R m n) (l.map pV) (l.map (ptrV m)) := by
  induction l with
  | nil => exact .nil
  | cons a l ih => exact .cons ⟨h a (by simp), rfl⟩ (ih fun b hb => h b (by simp [hb]))

theorem good_call (hR : Rel K m base H w) (hρ : Ops K m H.length ρ ρc) {f : Operand} {args : Array Operand} {ts : Array TypeId} {ty : TypeId} {f' : X} {args' : List X} (hf : cX K.G f = some f') (ha : cXs K.G args.toList = some args') (h : aop ρ (.call f' args') H = some r) :
    Good K base m H w ((do let d ← resolve ρc { callee := .value f, args, argTypes := ts } ty; invoke d.target d.args : Sem Next).run K.P w) r := by
  simp only [aop] at h
  have hfR := hρ f f' hf
  have haR := cXs_R hρ ha
  split at h
  · rename_i g fs cs hg
    cases h
    rw [hg] at hfR
    obtain ⟨l1, l2, e⟩ := hfR
    refine ⟨rfl, (fs.map (ptrV m)).toArray ++ args.map ρc ++ (cs.map (ptrV m)).toArray, ?_, ?_⟩
    · simp only [resolve, e, Deferred.ofValue, Sem.run_bind, Sem.run_pure, Result.andThen_ok, invoke]
    · simp only [Array.toList_append]
      refine All2.append (All2.append (ptrs_V l1) ?_) (ptrs_V l2)
      simpa using haR
  · rename_i l hl
    cases h
    rw [hl] at hfR
    obtain ⟨l1, e⟩ := hfR
    refine ⟨rfl, l1, args.map ρc, ?_, by simpa using haR⟩
    simp only [resolve, e, Deferred.ofValue, Sem.run_bind, Sem.run_pure, Result.andThen_ok, invoke]
    simp
  · cases h

theorem good_len (hR : Rel K m base H w) (hρ : Ops K m H.length ρ ρc) {ts : Array TypeId} {T ty : TypeId} {d : TypeDesc} {cn : Array Bool} (hT : ts[0]? = some T) (hu : K.P.underlying T = some d) {str : Bool} (hd : (str = true ∧ d = .string) ∨ (str = false ∧ ∃ e, d = .slice e))
    {x : Operand} {x' : X} (hx : cX K.G x = some x') (h : aop ρ (.len str x') H = some r) :
    Good K base m H w ((builtin .len ts ty cn #[ρc x]).run K.P w) r := by
  simp only [aop] at h
  have hxR := hρ x x' hx
  have e0 : (#[ρc x] : Array Value)[0]? = some (ρc x) := rfl
  unfold builtin
  simp only []
  split at h
  · rename_i s hs
    cases h
    rw [hs] at hxR
    have hv : ρc x = .string s := hxR
    obtain ⟨_, rfl⟩ | ⟨h0, _⟩ := hd
    · rw [run_v]
      simp only [Builtin.len_, hT, e0]
      simp only [Sem.run_bind, run_underlying hu, Result.andThen_ok, hv, Sem.run_pure]
      exact Good.val hR (show (V.c (.int _ _)).R m H.length _ from rfl)
    · cases h0
  · rename_i a n c o hs
    cases h
    rw [hs] at hxR
    obtain ⟨p, c', hv, _, _⟩ := sl_R hxR
    obtain ⟨h0, _⟩ | ⟨_, e, rfl⟩ := hd
    · cases h0
    · rw [run_v]
      simp only [Builtin.len_, hT, e0]
      simp only [Sem.run_bind, run_underlying hu, Result.andThen_ok, hv, Sem.run_pure]
      exact Good.val hR (show (V.c (.int _ _)).R m H.length _ from rfl)
  · cases h

end
end Go.Proofs.Ytnepeleepmhdaaa.AM
