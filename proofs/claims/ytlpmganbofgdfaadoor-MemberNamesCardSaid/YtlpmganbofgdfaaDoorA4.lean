/- The abstract machine, part 4: what it is, and that what it comes to is what the program comes to. -/
import Derived.Test.YtlpmganbofgdfaaDoorA3
set_option linter.unusedVariables false
set_option linter.unusedSimpArgs false
set_option linter.unusedSectionVars false

/- AM: a long run that is worked out piece by piece; what is left lying is swept between. -/

namespace Go.Proofs.YtlpmganbofgdfaaDoor.AM
open Go

def Cell.refs : Cell → List Nat
  | .ptr (some a) => [a.1]
  | .sl (some a) _ _ _ => [a.1]
  | .map (some r) => [r]
  | .fn _ a b => a.map (·.1) ++ b.map (·.1)
  | .yld l => [l]
  | _ => []
def Pc.refs : Pc → List Nat
  | .c x => x.refs
  | .agg l => l.flatMap Cell.refs
def V.refs : V → List Nat
  | .c x => x.refs
  | .agg l => l.flatMap Cell.refs
  | .tup l => l.flatMap Pc.refs
def Blk.live : Blk → Bool
  | .cells .. | .map _ | .defd => true
  | _ => false
def Blk.refs : Blk → List Nat
  | .cells cs _ _ => cs.flatMap Cell.refs
  | .map es => es.flatMap fun e => e.1.refs ++ e.2.refs
  | _ => []
def liveAt (H : Heap) (b : Nat) : Bool := match H[b]? with
  | some x => x.live
  | none => false
def closedB (t : List V) (H : Heap) : Bool := t.all (fun v => v.refs.all (liveAt H)) && H.all fun x => !x.live || x.refs.all (liveAt H)
def blkSame : Blk → Blk → Bool
  | .cells a ro g, .cells b ro' g' => decide (a = b) && ro == ro' && g == g'
  | .map a, .map b => decide (a = b)
  | .defd, .defd => true
  | _, _ => false
theorem blkSame_eq {a b : Blk} (h : blkSame a b = true) : a = b := by
  cases a <;> cases b <;> simp_all [blkSame]
/-- One memory is a part of the other one. -/
def heapSub : Heap → Heap → Bool
  | a :: r, b :: s => (!b.live || blkSame a b) && heapSub r s
  | _, [] => true
  | [], _ :: _ => false
theorem heapSub_get : ∀ {K H : Heap}, heapSub K H = true → ∀ {b : Nat} {x : Blk}, H[b]? = some x → x.live = true → K[b]? = some x
  | a :: r, c :: s, h, b, x, e, l => by
    simp only [heapSub, Bool.and_eq_true] at h
    cases b with
    | zero => simp at e; subst e; simp only [l, Bool.not_true, Bool.false_or] at h; simp [blkSame_eq h.1]
    | succ b => simp at e; simpa using heapSub_get h.2 e l
  | [], _ :: _, h, _, _, _, _ => by cases h
  | _, [], _, b, x, e, _ => by simp at e
section
variable {p : BJ}
theorem ad_refs {l : List Ad} (h : ∀ r ∈ l.map (·.1), p r r) : All2 (AdJ p) l l := All2.same fun a ha => ⟨h _ (List.mem_map_of_mem ha), rfl⟩
theorem CJ.refs {c : Cell} (h : ∀ r ∈ c.refs, p r r) : CJ p c c := by
  cases c with
  | bool => exact .bool _
  | int => exact .int _ _
  | str => exact .str _
  | ptr a => cases a with
    | none => exact .ptrN
    | some a => exact .ptr ⟨h _ (by simp [Cell.refs]), rfl⟩
  | sl a n c o => cases a with
    | none => exact .slN _ _ _
    | some a => exact .sl ⟨h _ (by simp [Cell.refs]), rfl⟩ _ _ _
  | map r => cases r with
    | none => exact .mapN
    | some r => exact .map (h _ (by simp [Cell.refs]))
  | fn f a b => exact .fn f (ad_refs fun r hr => h r (by simp only [Cell.refs, List.mem_append]; exact .inl hr)) (ad_refs fun r hr => h r (by simp only [Cell.refs, List.mem_append]; exact .inr hr))
  | yld l => exact .yld (h _ (by simp [Cell.refs]))
  | nilFn => exact .nilFn
  | nilIface => exact .nilIface
theorem cs_refs {l : List Cell} (h : ∀ r ∈ l.flatMap Cell.refs, p r r) : All2 (CJ p) l l := All2.same fun c hc => CJ.refs fun r hr => h r (List.mem_flatMap.2 ⟨c, hc, hr⟩)
theorem PJ.refs {c : Pc} (h : ∀ r ∈ c.refs, p r r) : PJ p c c := by
  cases c with
  | c x => exact .c (CJ.refs h)
  | agg l => exact .agg (cs_refs h)
theorem VJ.refs {v : V} (h : ∀ r ∈ v.refs, p r r) : VJ p v v := by
  cases v with
  | c x => exact .c (CJ.refs h)
  | agg l => exact .agg (cs_refs h)
  | tup l => exact .tup (All2.same fun c hc => PJ.refs fun r hr => h r (List.mem_flatMap.2 ⟨c, hc, hr⟩))
/-- What is live stands for itself. -/
def liveJ (H : Heap) : BJ := fun b b' => b = b' ∧ liveAt H b = true
theorem clean_J {t : List V} {K H : Heap} (h : closedB t H = true) (hs : heapSub K H = true) : All2 (VJ (liveJ H)) t t ∧ HJ (liveJ H) K H := by
  simp only [closedB, Bool.and_eq_true, List.all_eq_true] at h
  refine ⟨All2.same fun v hv => VJ.refs fun r hr => ⟨rfl, h.1 v hv r hr⟩, ⟨?_, fun b b' c c' k j => by rw [k.1, j.1]⟩⟩
  rintro b b' ⟨rfl, hb⟩
  simp only [liveAt] at hb
  cases hx : H[b]? with
  | none => rw [hx] at hb; cases hb
  | some x =>
    rw [hx] at hb
    have hb' : x.live = true := hb
    refine ⟨x, x, heapSub_get hs hx hb', rfl, ?_⟩
    have hr := h.2 x (List.mem_of_getElem? hx)
    rw [hb'] at hr
    simp only [Bool.not_true, Bool.false_or, List.all_eq_true] at hr
    cases x with
    | cells cs ro g => exact .cells (cs_refs fun r k => ⟨rfl, hr r k⟩) _ _
    | map es => exact .map (All2.same fun e he => ⟨CJ.refs fun r k => ⟨rfl, hr r (List.mem_flatMap.2 ⟨e, he, by simp [k]⟩)⟩, VJ.refs fun r k => ⟨rfl, hr r (List.mem_flatMap.2 ⟨e, he, by simp [k]⟩)⟩⟩)
    | defd => exact .defd
    | _ => cases hb'
end

/-! ### Code that names no blocks but the first ones -/
def XB (g : Nat) : X → Bool
  | .t _ => true
  | .k v => v.refs.all fun r => decide (r < g)
def opB (g : Nat) (o : IOp) : Bool := o.xs.all (XB g) && o.zs.all fun v => v.refs.all fun r => decide (r < g)
def codeB (g : Nat) : IC → Bool
  | .ops l => l.all fun o => opB g o.op
  | .seq a b => codeB g a && codeB g b
  | .cond c a b => XB g c && codeB g a && codeB g b
  | .block _ b => codeB g b
  | .loop b => codeB g b
  | .rangeF f _ a b => XB g f && codeB g a && codeB g b
  | _ => true
section
variable {p : BJ} {g : Nat}
theorem XB.J (hp : ∀ b, b < g → p b b) {x : X} (h : XB g x = true) : XJ p x := by
  cases x with
  | t => trivial
  | k v => exact VJ.refs fun r hr => hp r (by have := List.all_eq_true.1 h r hr; simpa using this)
theorem opB.J (hp : ∀ b, b < g → p b b) {o : IOp} (h : opB g o = true) : OpJ p o := by
  simp only [opB, Bool.and_eq_true, List.all_eq_true] at h
  exact ⟨fun x hx => XB.J hp (h.1 x hx), fun z hz => VJ.refs fun r hr => hp r (by have := h.2 z hz r hr; simpa using this)⟩
theorem codeB.J (hp : ∀ b, b < g → p b b) {c : IC} (h : codeB g c = true) : CodeJ p c := by
  induction c with
  | ops l => exact fun o ho => opB.J hp (List.all_eq_true.1 h o ho)
  | seq a b ha hb => simp only [codeB, Bool.and_eq_true] at h; exact ⟨ha h.1, hb h.2⟩
  | cond c a b ha hb => simp only [codeB, Bool.and_eq_true] at h; exact ⟨XB.J hp h.1.1, ha h.1.2, hb h.2⟩
  | block _ b hb => exact hb h
  | loop b hb => exact hb h
  | rangeF f _ a b ha hb => simp only [codeB, Bool.and_eq_true] at h; exact ⟨XB.J hp h.1.1, ha h.1.2, hb h.2⟩
  | _ => trivial
/-- Functions with code that names no blocks but the first `g`; without bodies: they keep to what corresponds. -/
def FnB (g : Nat) (F : FuncId → Option Fun) : Prop := ∀ p : BJ, (∀ b, b < g → p b b) → FnJ p F
theorem FnB_funsX {l : List (Nat × IFn)} {X : FuncId → Option (List V → Heap → Option (V × Heap))} (h : l.all (fun f => codeB g f.2.body) = true)
    (hX : ∀ f g, X f = some g → ∀ (q : BJ) (a a' : List V) (H H' : Heap), All2 (VJ q) a a' → HJ q H H' → OJ (CQ q H H') (g a H) (g a' H')) : FnB g (funsX l X) := by
  intro p hp f
  unfold funsX
  cases hl : l.lookup f with
  | none =>
    simp only
    cases hx : X f with
    | none => exact trivial
    | some g' => exact fun q _ => hX f g' hx q
  | some i =>
    simp only
    have : ∃ k, (k, i) ∈ l := by
      clear h
      induction l with
      | nil => cases hl
      | cons a l ih =>
        obtain ⟨k, j⟩ := a
        simp only [List.lookup_cons] at hl
        split at hl
        · cases hl; exact ⟨k, by simp⟩
        · obtain ⟨k', h'⟩ := ih hl; exact ⟨k', by simp [h']⟩
    obtain ⟨k, hk⟩ := this
    exact codeB.J hp (List.all_eq_true.1 h _ hk)
theorem FnB_funs {l : List (Nat × IFn)} (h : l.all (fun f => codeB g f.2.body) = true) : FnB g (funs l) := FnB_funsX h fun _ _ h => by cases h
end

/-! ### Pieces -/
/-- So many of the same, ahead of a row; a row ahead of a row. -/
def rp {α : Type} (n : Nat) (a : α) (l : List α) : List α := List.replicate n a ++ l
def ap {α : Type} (a b : List α) : List α := a ++ b
def spine : IC → List IC
  | .seq a b => a :: spine b
  | c => [c]
def seqOf : List IC → IC
  | [] => .skip
  | [c] => c
  | c :: r => .seq c (seqOf r)
theorem spine_ne (c : IC) : spine c ≠ [] := by cases c <;> simp [spine]
theorem seqOf_spine : ∀ c, seqOf (spine c) = c := by
  intro c
  induction c with
  | seq a b _ hb =>
    simp only [spine]
    cases h : spine b with
    | nil => exact absurd h (spine_ne b)
    | cons d r => rw [h] at hb; simp only [seqOf, hb]
  | _ => rfl
/-- A piece goes, swept, from one state to another one. -/
def stepOk (F : FuncId → Option Fun) (g k : Nat) (c : IC) (s s' : St) : Bool :=
  match run F k none c s with
  | some (.normal, r) => decide (r.t = s'.t) && decide (r.ds = s'.ds) && closedB s'.t s'.H && heapSub r.H s'.H && s'.ds.all (liveAt s'.H) && (List.range g).all (liveAt s'.H)
  | _ => false
def endOk (F : FuncId → Option Fun) (k : Nat) (c : IC) (res : List (Nat × Option (Option Nat))) (s : St) : Bool :=
  match run F k none c s with
  | some (.exit _, _) => false
  | some (_, r) => match (shutAll r.ds r.H).bind fun H' => resOf r.t H' res with
    | some (.c (.bool true)) => true
    | _ => false
  | none => false
abbrev EndT (res : List (Nat × Option (Option Nat))) : Ex → St → Prop := callQ res fun v _ => v = .c (.bool true)
section
variable {F : FuncId → Option Fun} {g : Nat}
theorem endT_J {p : BJ} {res : List (Nat × Option (Option Nat))} {e : Ex} {s s' : St} (ht : All2 (VJ p) s.t s'.t) (hd : All2 p s.ds s'.ds) (hj : HJ p s.H s'.H) (h : EndT res e s') : EndT res e s := by
  have key : (∃ H', shutAll s'.ds s'.H = some H' ∧ ∃ v, resOf s'.t H' res = some v ∧ v = .c (.bool true)) → ∃ H', shutAll s.ds s.H = some H' ∧ ∃ v, resOf s.t H' res = some v ∧ v = .c (.bool true) := by
    rintro ⟨H', h1, v, h2, rfl⟩
    obtain ⟨K, h3, st⟩ := (shutJ hd hj).got' h1
    obtain ⟨v, h4, hv⟩ := (resJ ht st.hj res).got' h2
    cases hv with
    | c hc => cases hc; exact ⟨K, h3, _, h4, rfl⟩
  cases e with
  | exit i => exact h
  | normal => exact key h
  | ret => exact key h
theorem W_J {p : BJ} (hF : FnJ p F) {c : IC} (hc : CodeJ p c) {res : List (Nat × Option (Option Nat))} {s s' : St} (ht : All2 (VJ p) s.t s'.t) (hd : All2 p s.ds s'.ds) (hj : HJ p s.H s'.H) (h : W F none c s' (EndT res)) : W F none c s (EndT res) := by
  obtain ⟨k, e, r', h1, h2⟩ := h
  have := runJ hF k p (fun _ _ h => h) none none c s s' trivial hc ht hd hj
  obtain ⟨⟨e', r⟩, h3, q, st, he, ht', hd'⟩ := this.got' h1
  cases he
  exact ⟨k, _, r, h3, endT_J ht' hd' st.hj h2⟩
theorem piece (hF : FnB g F) {k : Nat} {l : List IC} (hl : l.all (codeB g) = true) {i : Nat} (hi : i + 1 < l.length) {res : List (Nat × Option (Option Nat))} {s s' : St} (h : stepOk F g k (l.getD i .bad) s s' = true)
    (rest : W F none (seqOf (l.drop (i + 1))) s' (EndT res)) : W F none (seqOf (l.drop i)) s (EndT res) := by
  have e : l.drop i = l.getD i .bad :: l.drop (i + 1) := by
    rw [List.drop_eq_getElem_cons (by omega)]
    congr 1
    rw [List.getD_eq_getElem?_getD, List.getElem?_eq_getElem (by omega)]; rfl
  have e2 : seqOf (l.drop i) = .seq (l.getD i .bad) (seqOf (l.drop (i + 1))) := by
    rw [e]
    cases h : l.drop (i + 1) with
    | nil => have := congrArg List.length h; simp at this; omega
    | cons a r => rfl
  rw [e2]
  unfold stepOk at h
  split at h
  · rename_i r hr
    simp only [Bool.and_eq_true, decide_eq_true_eq, List.all_eq_true] at h
    obtain ⟨⟨⟨⟨⟨h1, h2⟩, h3⟩, h4⟩, h5⟩, h6⟩ := h
    have hc : CodeJ (liveJ s'.H) (seqOf (l.drop (i + 1))) := by
      have hp : ∀ b, b < g → liveJ s'.H b b := fun b hb => ⟨rfl, h6 b (List.mem_range.2 hb)⟩
      have : ∀ m : List IC, m.all (codeB g) = true → CodeJ (liveJ s'.H) (seqOf m) := by
        intro m
        induction m with
        | nil => intro _; trivial
        | cons a m ih =>
          intro hm
          simp only [List.all_cons, Bool.and_eq_true] at hm
          cases m with
          | nil => exact codeB.J hp hm.1
          | cons b m => exact ⟨codeB.J hp hm.1, ih hm.2⟩
      exact this _ (List.all_eq_true.2 fun x hx => List.all_eq_true.1 hl x (List.mem_of_mem_drop hx))
    obtain ⟨j1, j2⟩ := clean_J h3 h4
    refine W_seq ⟨k, .normal, r, hr, ?_⟩
    show W F none _ r (EndT res)
    refine W_J (hF _ fun b hb => ⟨rfl, h6 b (List.mem_range.2 hb)⟩) hc (s' := s') (by rw [h1]; exact j1) (by rw [h2]; exact All2.same fun D hD => ⟨rfl, h5 D hD⟩) j2 rest
  · cases h
theorem piece_end {k : Nat} {l : List IC} {i : Nat} (hi : i + 1 = l.length) {res : List (Nat × Option (Option Nat))} {s : St} (h : endOk F k (l.getD i .bad) res s = true) : W F none (seqOf (l.drop i)) s (EndT res) := by
  have e : l.drop i = [l.getD i .bad] := by
    rw [List.drop_eq_getElem_cons (by omega), List.drop_eq_nil_of_le (by omega)]
    congr 1
    rw [List.getD_eq_getElem?_getD, List.getElem?_eq_getElem (by omega)]; rfl
  rw [e]
  show W F none (l.getD i .bad) s _
  unfold endOk at h
  split at h
  · cases h
  · rename_i e' r hne hr
    split at h
    · rename_i hv
      obtain ⟨H', h1, h2⟩ := Option.bind_eq_some_iff.1 hv
      refine ⟨k, _, r, hr, ?_⟩
      cases e' with
      | exit i => exact absurd rfl (hne i)
      | normal => exact ⟨H', h1, _, h2, rfl⟩
      | ret => exact ⟨H', h1, _, h2, rfl⟩
    · cases h
  · cases h
end
end Go.Proofs.YtlpmganbofgdfaaDoor.AM
