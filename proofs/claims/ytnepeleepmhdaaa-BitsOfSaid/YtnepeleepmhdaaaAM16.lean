/- AM, sixteenth text: a region that draws its order: each order comes to the same. -/
import Derived.Test.YtnepeleepmhdaaaAM15
set_option linter.unusedVariables false
set_option linter.unusedSimpArgs false
namespace Go.Proofs.Ytnepeleepmhdaaa.AM
open Go Go.RowKit

/-- What an operation puts, and the memory behind it. -/
def act1 (F : FuncId → Option Fun) (rec : Rec) (o : IOper) (t : List V) (H : Heap) : Option (V × Heap) :=
  if wanted t o.guard then
    (aop (X.ev t) o.op H).bind fun
      | (.v x, H') => some (x, H')
      | (.call f args, H') => callR F rec f args H'
      | (.yld l args, H') => roundR rec l args H'
  else some (.undef, H)

theorem opsR_cons (F : FuncId → Option Fun) (rec : Rec) (o : IOper) (r : List IOper) (t : List V) (H : Heap) :
    opsR F rec (o :: r) t H = (act1 F rec o t H).bind fun q => opsR F rec r (putT t o.dst q.1) q.2 := by
  simp only [opsR, act1]
  split
  · rw [Option.bind_assoc]
    congr 1
    funext p
    obtain ⟨an, H'⟩ := p
    cases an <;> simp
  · simp

theorem aop_congr {ρ ρ' : X → V} (io : IOp) (H : Heap) (h : ∀ x ∈ io.xs, ρ x = ρ' x) : aop ρ io H = aop ρ' io H := by
  have ls : ∀ l : List X, (∀ x ∈ l, ρ x = ρ' x) → l.map ρ = l.map ρ' := fun l hl => List.map_congr_left hl
  have os : ∀ o : Option X, (∀ x ∈ o.toList, ρ x = ρ' x) → o.map ρ = o.map ρ' := by
    intro o ho
    cases o with
    | none => rfl
    | some x => simp [ho x (by simp)]
  have ps : ∀ l : List (Nat × Nat × X), (∀ x ∈ l.map fun p => p.2.2, ρ x = ρ' x) → (l.map fun p => (p.1, p.2.1, ρ p.2.2)) = l.map fun p => (p.1, p.2.1, ρ' p.2.2) := by
    intro l hl
    refine List.map_congr_left fun p hp => ?_
    rw [hl p.2.2 (List.mem_map_of_mem hp)]
  cases io <;> simp only [IOp.xs] at h <;> first
    | rfl
    | (simp only [aop]; rw [h _ (by simp)]; done)
    | (simp only [aop]; rw [h _ (List.mem_cons_self), h _ (List.mem_cons_of_mem _ List.mem_cons_self)]; done)
    | (simp only [aop]; rw [ps _ h]; done)
    | skip
  case pick a b c => simp only [aop]; rw [h a (by simp), h b (by simp), h c (by simp)]
  case mkfn f a b => simp only [aop]; rw [ls a fun x hx => h x (by simp [hx]), ls b fun x hx => h x (by simp [hx])]
  case mkmap a => cases a <;> simp only [aop]; rw [h _ (by simp)]
  case ins k a b c => simp only [aop]; rw [h a (by simp), h b (by simp), h c (by simp)]
  case slS n x a b c => simp only [aop]; rw [h x (by simp), os a fun y hy => h y (by simp at hy ⊢; simp [hy]), os b fun y hy => h y (by simp at hy ⊢; simp [hy]), os c fun y hy => h y (by simp at hy ⊢; simp [hy])]
  case slA k n x a b c => simp only [aop]; rw [h x (by simp), os a fun y hy => h y (by simp at hy ⊢; simp [hy]), os b fun y hy => h y (by simp at hy ⊢; simp [hy]), os c fun y hy => h y (by simp at hy ⊢; simp [hy])]
  case slT x a b => simp only [aop]; rw [h x (by simp), os a fun y hy => h y (by simp at hy ⊢; simp [hy]), os b fun y hy => h y (by simp at hy ⊢; simp [hy])]
  case call f l => simp only [aop]; rw [h f (by simp), ls l fun x hx => h x (by simp [hx])]
  case mx x l => simp only [aop]; rw [h x (by simp), ls l fun x hx => h x (by simp [hx])]
  case mn x l => simp only [aop]; rw [h x (by simp), ls l fun x hx => h x (by simp [hx])]

theorem act1_congr {F : FuncId → Option Fun} {rec : Rec} {o : IOper} {t t' : List V} {H : Heap} (h : ∀ s ∈ o.slots, t[s]? = t'[s]?) : act1 F rec o t H = act1 F rec o t' H := by
  have hw : wanted t o.guard = wanted t' o.guard := by
    cases hg : o.guard with
    | none => rfl
    | some p => obtain ⟨j, b⟩ := p; simp only [wanted]; rw [h j (by simp [IOper.slots, hg])]
  have ha : aop (X.ev t) o.op H = aop (X.ev t') o.op H := by
    refine aop_congr _ _ fun x hx => ?_
    cases x with
    | k v => rfl
    | t i => simp only [X.ev]; rw [h i (by simp only [IOper.slots, List.mem_append, List.mem_filterMap]; exact .inl ⟨_, hx, rfl⟩)]
  simp only [act1, hw, ha]

/-- What an operation that touches no memory comes to. -/
def pval (ρ : X → V) : IOp → Option V
  | .mv x => some (ρ x)
  | .pick c a b => match ρ c with
    | .c (.bool t) => some (if t then ρ a else ρ b)
    | _ => none
  | .build z ps => (fillB z (ps.map fun p => (p.1, p.2.1, ρ p.2.2))).map .agg
  | .nilck x => match ρ x with
    | .c (.ptr (some a)) => some (.c (.ptr (some a)))
    | .c (.fn f g h) => some (.c (.fn f g h))
    | _ => none
  | .bin op x y => match ρ x, ρ y with
    | .c x, .c y => (binC op x y).map .c
    | _, _ => none
  | .eq k neg x y => match ρ x, ρ y with
    | .c x, .c y => (eqC k x y).map fun b => .c (.bool (b != neg))
    | _, _ => none
  | .eqagg L neg x y => match ρ x, ρ y with
    | .agg x, .agg y => if x.length = L.length ∧ y.length = L.length then (eqCs L x y).map fun b => .c (.bool (b != neg)) else none
    | _, _ => none
  | .un op x => match ρ x with
    | .c x => (unC op x).map .c
    | _ => none
  | .cv k x => match ρ x with
    | .c (.int _ n) => some (.c (.int k (k.wrap n)))
    | _ => none
  | .mkfn f first caps => (adsOf (first.map ρ)).bind fun fs => (adsOf (caps.map ρ)).map fun cs => .c (.fn f fs cs)
  | .slS sz x lo hi mx => match ρ x with
    | .c (.sl a n c opn) => (bnds n c (lo.map ρ) (hi.map ρ) (mx.map ρ)).map fun q =>
      .c (.sl (if q.2.2 = q.1 ∧ (opn && mx.isNone) = false then a else a.map (addA · (q.1 * sz))) (q.2.1 - q.1) (q.2.2 - q.1) (opn && mx.isNone))
    | _ => none
  | .slA n sz x lo hi mx => match ρ x with
    | .c (.ptr (some a)) => (bnds n n (lo.map ρ) (hi.map ρ) (mx.map ρ)).map fun q => .c (.sl (some (if q.2.2 = q.1 then a else addA a (q.1 * sz))) (q.2.1 - q.1) (q.2.2 - q.1) false)
    | _ => none
  | .slT x lo hi => match ρ x with
    | .c (.str s) => (bnds s.size s.size (lo.map ρ) (hi.map ρ) none).map fun q => .c (.str (s.extract q.1 q.2.1))
    | _ => none
  | .fa off x => (adOf (ρ x)).map fun a => .c (.ptr (some (addA a off)))
  | .fld off n x => match ρ x with
    | .agg cs => prd cs off n
    | _ => none
  | .iaS sz x i => match ρ x with
    | .c (.sl (some a) n _ _) => (asI (ρ i)).bind fun i => if 0 ≤ i ∧ i < n then some (.c (.ptr (some (addA a (i.toNat * sz))))) else none
    | _ => none
  | .iaA len sz x i => (adOf (ρ x)).bind fun a => (asI (ρ i)).bind fun i => if 0 ≤ i ∧ i < len then some (.c (.ptr (some (addA a (i.toNat * sz))))) else none
  | .ix len sz n x i => match ρ x with
    | .agg cs => (asI (ρ i)).bind fun i => if 0 ≤ i ∧ i < len then prd cs (i.toNat * sz) n else none
    | _ => none
  | .ixT x i => match ρ x with
    | .c (.str s) => (asI (ρ i)).bind fun i => if 0 ≤ i then (s.data[i.toNat]?).map fun b => .c (.int .u8 b.toNat) else none
    | _ => none
  | .ext x i => match ρ x with
    | .tup l => (l[i]?).map Pc.v
    | _ => none
  | .len str x => match str, ρ x with
    | true, .c (.str s) => some (.c (.int .i64 s.size))
    | false, .c (.sl _ n _ _) => some (.c (.int .i64 n))
    | _, _ => none
  | .lenK n => some (.c (.int .i64 n))
  | .mx x ys => maxI (ρ x) (ys.map ρ) fun a b => if b > a then b else a
  | .mn x ys => maxI (ρ x) (ys.map ρ) fun a b => if b < a then b else a
  | _ => none

theorem aop_pval {ρ : X → V} {io : IOp} (h : io.pure = true) (H : Heap) : aop ρ io H = (pval ρ io).map fun v => (.v v, H) := by
  cases io <;> simp only [IOp.pure, Bool.false_eq_true] at h <;> simp only [aop, pval] <;> first
    | rfl
    | (simp only [Option.map_map, Function.comp_def]; done)
    | (split <;> simp_all [Option.map_map, Function.comp_def]; done)
    | skip
  all_goals first
    | (split <;> (first | rfl | (simp only [Option.map_map, Function.comp_def]; done) | (simp only [Option.map_none]; done)); done)
    | skip
  case eqagg L neg x y =>
    generalize ρ x = vx
    generalize ρ y = vy
    cases vx with
    | agg l =>
      cases vy with
      | agg l' =>
        by_cases hl : l.length = L.length ∧ l'.length = L.length
        · simp only [hl, and_self, if_true, Option.map_map, Function.comp_def]
        · simp only [hl, if_false, Option.map_none]
      | _ => rfl
    | _ => rfl
  case mkfn f a b => cases adsOf (a.map ρ) <;> simp [Option.map_map, Function.comp_def]
  case slS n x a b c =>
    generalize ρ x = vx
    cases vx with
    | c x =>
      cases x with
      | sl p k q o => simp only []; cases bnds k q (a.map ρ) (b.map ρ) (c.map ρ) <;> rfl
      | _ => rfl
    | _ => rfl
  case iaA n k x i =>
    cases adOf (ρ x) <;> try rfl
    cases asI (ρ i) <;> try rfl
    simp only [Option.bind_some]
    split <;> rfl
  case ix n k rd x i =>
    generalize ρ x = vx
    cases vx with
    | agg l =>
      simp only []
      cases asI (ρ i) with
      | none => rfl
      | some j => simp only [Option.bind_some]; split <;> rfl
    | _ => rfl
  case ixT x i =>
    generalize ρ x = vx
    cases vx with
    | c x =>
      cases x with
      | str s =>
        simp only []
        cases asI (ρ i) with
        | none => rfl
        | some j =>
          simp only [Option.bind_some]
          split
          · simp only [Option.map_map, Function.comp_def]
          · rfl
      | _ => rfl
    | _ => rfl

theorem aop_reads {ρ : X → V} {io : IOp} (h : io.reads = true) (H : Heap) : ∃ q : Option V, aop ρ io H = q.map fun v => (.v v, H) := by
  by_cases hp : io.pure = true
  · exact ⟨_, aop_pval hp H⟩
  · cases io <;> simp [IOp.reads, IOp.pure] at h hp
    case ld n x =>
      refine ⟨(adOf (ρ x)).bind fun a => H.rd a n, ?_⟩
      simp only [aop]
      cases adOf (ρ x) <;> simp
    case b2s x =>
      simp only [aop]
      split
      · exact ⟨some _, rfl⟩
      · rename_i a n _ _ _
        exact ⟨((H.ldn a n).bind bytesOf).map fun l => V.c (.str ⟨l.toArray⟩), by simp [Option.map_map, Function.comp_def]⟩
      · exact ⟨none, rfl⟩
    case look kk z ok a k =>
      simp only [aop]
      split
      · split
        · split
          · cases ok with
            | false => rename_i kc _ _ _ es _ _; exact ⟨(findE kc es).map fun e => e.getD z, by cases findE kc es <;> rfl⟩
            | true => rename_i kc _ _ _ es _ _; exact ⟨(findE kc es).bind fun e => ((e.getD z).pc).map fun p => V.tup [p, .c (.bool e.isSome)], by simp [Option.map_bind, Function.comp_def, Option.map_map]⟩
          · exact ⟨none, rfl⟩
        · exact ⟨none, rfl⟩
      · exact ⟨none, rfl⟩


theorem putT_ne {t : List V} {d : Option Nat} {v : V} {i : Nat} (h : d ≠ some i) : (putT t d v)[i]? = t[i]? := by
  cases d with
  | none => rfl
  | some d => simp only [putT]; rw [List.getElem?_set_ne (fun e => h (by rw [e]))]
theorem putT_comm {t : List V} {d e : Option Nat} {v u : V} (h : ∀ i, d = some i → e ≠ some i) : putT (putT t d v) e u = putT (putT t e u) d v := by
  cases d with
  | none => rfl
  | some d =>
    cases e with
    | none => rfl
    | some e => simp only [putT]; exact List.set_comm _ _ (fun q => h d rfl (by rw [q]))

theorem act1_pure {F : FuncId → Option Fun} {rec : Rec} {o : IOper} (h : o.op.pure = true) (t : List V) : ∃ q : Option V, ∀ H, act1 F rec o t H = q.map fun v => (v, H) := by
  by_cases hw : wanted t o.guard = true
  · refine ⟨pval (X.ev t) o.op, fun H => ?_⟩
    simp only [act1, hw, if_true, aop_pval h]
    cases pval (X.ev t) o.op <;> rfl
  · exact ⟨some .undef, fun H => by simp only [act1, hw, if_false, Bool.false_eq_true]; rfl⟩
theorem act1_reads {F : FuncId → Option Fun} {rec : Rec} {o : IOper} (h : o.op.reads = true) (t : List V) (H : Heap) : ∃ q : Option V, act1 F rec o t H = q.map fun v => (v, H) := by
  by_cases hw : wanted t o.guard = true
  · obtain ⟨q, hq⟩ := aop_reads (ρ := X.ev t) h H
    refine ⟨q, ?_⟩
    simp only [act1, hw, if_true, hq]
    cases q <;> rfl
  · exact ⟨some .undef, by simp only [act1, hw, if_false, Bool.false_eq_true]; rfl⟩

/-- Two operations that do not depend on each other change places. -/
theorem swap {F : FuncId → Option Fun} {rec : Rec} {x y : IOper} (h : x.indep y = true) {l : List IOper} {t : List V} {H : Heap} {r : List V × Heap} (hr : opsR F rec (x :: y :: l) t H = some r) : opsR F rec (y :: x :: l) t H = some r := by
  simp only [IOper.indep, Bool.and_eq_true] at h
  obtain ⟨⟨h1, h2⟩, h3⟩ := h
  have hxy : ∀ i, x.dst = some i → y.dst ≠ some i ∧ i ∉ y.slots := by
    intro i e
    rw [e] at h1
    simp at h1
    exact ⟨h1.2, h1.1⟩
  have hyx : ∀ i, y.dst = some i → i ∉ x.slots := by
    intro i e
    rw [e] at h2
    simpa using h2
  have cy : ∀ v H, act1 F rec y (putT t x.dst v) H = act1 F rec y t H := fun v H => act1_congr fun s hs => putT_ne fun e => (hxy s e).2 hs
  have cx : ∀ v H, act1 F rec x (putT t y.dst v) H = act1 F rec x t H := fun v H => act1_congr fun s hs => putT_ne fun e => hyx s e hs
  simp only [opsR_cons, cy] at hr
  simp only [opsR_cons, cx]
  obtain ⟨⟨v1, H1⟩, e1, hr⟩ := bind_some hr
  obtain ⟨⟨v2, H2⟩, e2, hr⟩ := bind_some hr
  simp only [cy] at e2
  have key : act1 F rec y t H = some (v2, if y.op.reads then H else H2) ∧ act1 F rec x t (if y.op.reads then H else H2) = some (v1, H2) := by
    simp only [Bool.or_eq_true, Bool.and_eq_true] at h3
    rcases h3 with (⟨hx, hy⟩ | hx) | hy
    · obtain ⟨q1, q1e⟩ := act1_reads (F := F) (rec := rec) hx t H
      rw [q1e] at e1
      obtain ⟨u1, rfl, hu⟩ := map_some' e1
      cases hu
      obtain ⟨q2, q2e⟩ := act1_reads (F := F) (rec := rec) hy t H
      rw [q2e] at e2
      obtain ⟨u2, rfl, hu⟩ := map_some' e2
      cases hu
      rw [hy, if_pos rfl]
      exact ⟨q2e, q1e⟩
    · obtain ⟨q1, q1e⟩ := act1_pure (F := F) (rec := rec) hx t
      rw [q1e] at e1
      obtain ⟨u1, rfl, hu⟩ := map_some' e1
      cases hu
      by_cases hy : y.op.reads = true
      · obtain ⟨q2, q2e⟩ := act1_reads (F := F) (rec := rec) hy t H
        rw [q2e] at e2
        obtain ⟨u2, rfl, hu⟩ := map_some' e2
        cases hu
        rw [hy, if_pos rfl]
        exact ⟨q2e, q1e _⟩
      · rw [if_neg hy]
        exact ⟨e2, q1e _⟩
    · obtain ⟨q2, q2e⟩ := act1_pure (F := F) (rec := rec) hy t
      rw [q2e] at e2
      obtain ⟨u2, rfl, hu⟩ := map_some' e2
      cases hu
      have : y.op.reads = true := by
        cases ho : y.op <;> rw [ho] at hy <;> simp_all [IOp.reads, IOp.pure]
      rw [this, if_pos rfl]
      exact ⟨q2e _, e1⟩
  rw [key.1, Option.bind_some]
  simp only [cx]
  rw [key.2, Option.bind_some]
  simp only
  rw [← putT_comm fun i e => (hxy i e).1]
  exact hr

/-- An operation comes to the front. -/
theorem front {F : FuncId → Option Fun} {rec : Rec} {y : IOper} {B : List IOper} : ∀ (A : List IOper), (∀ x ∈ A, x.indep y = true) → ∀ {t : List V} {H : Heap} {r : List V × Heap}, opsR F rec (A ++ y :: B) t H = some r → opsR F rec (y :: (A ++ B)) t H = some r := by
  intro A
  induction A with
  | nil => intro _ t H r h; exact h
  | cons x A ih =>
    intro hA t H r h
    have h2 : opsR F rec (x :: y :: (A ++ B)) t H = some r := by
      rw [List.cons_append, opsR_cons] at h
      rw [opsR_cons]
      obtain ⟨q, e, h⟩ := bind_some h
      rw [e, Option.bind_some]
      exact ih (fun z hz => hA z (by simp [hz])) h
    exact swap (hA x (by simp)) h2

/-! ### The orders -/
/-- i comes ahead of j. -/
inductive Ahead (ops : List Oper) : Nat → Nat → Prop
  | one {i j : Nat} {o : Oper} {e : Edge} (ho : ops[j]? = some o) (he : e ∈ bound o) (hi : e.on = i) : Ahead ops i j
  | more {i k j : Nat} {o : Oper} {e : Edge} (ho : ops[j]? = some o) (he : e ∈ bound o) (hk : e.on = k) (h : Ahead ops i k) : Ahead ops i j

theorem bits_anc (acc : List Nat) (i : Nat) : ∀ (es : List Edge), (es.foldr (fun (e : Edge) (s : Nat) => 2 ^ e.on ||| (acc[e.on]?).getD 0 ||| s) 0).testBit i = true → ∃ e ∈ es, e.on = i ∨ ((acc[e.on]?).getD 0).testBit i = true := by
  intro es
  induction es with
  | nil => intro h; simp at h
  | cons e es ih =>
    intro h
    simp only [List.foldr_cons, Nat.testBit_or, Bool.or_eq_true, Nat.testBit_two_pow, decide_eq_true_eq] at h
    rcases h with (h | h) | h
    · exact ⟨e, by simp, .inl h⟩
    · exact ⟨e, by simp, .inr h⟩
    · obtain ⟨e', h1, h2⟩ := ih h
      exact ⟨e', by simp [h1], h2⟩

theorem ancs_ok (ops : List Oper) : ∀ (r : List Oper) (acc : List Nat), (∀ j, r[j]? = ops[acc.length + j]?) → (∀ j a, acc[j]? = some a → ∀ i, a.testBit i = true → Ahead ops i j) → ∀ j a, (ancs r acc)[j]? = some a → ∀ i, a.testBit i = true → Ahead ops i j := by
  intro r
  induction r with
  | nil => intro acc _ h; exact h
  | cons o r ih =>
    intro acc hr h
    refine ih _ (fun j => ?_) ?_
    · have := hr (j + 1)
      simp only [List.getElem?_cons_succ] at this
      rw [this]
      congr 1
      simp; omega
    · intro j a hj i hi
      by_cases hlt : j < acc.length
      · rw [List.getElem?_append_left hlt] at hj
        exact h j a hj i hi
      · rw [List.getElem?_append_right (by omega)] at hj
        have hj0 : j - acc.length = 0 := by
          have := (List.getElem?_eq_some_iff.1 hj).1
          simp at this; omega
        rw [hj0] at hj
        simp only [List.getElem?_cons_zero, Option.some.injEq] at hj
        subst hj
        have hj' : j = acc.length := by omega
        have ho : ops[j]? = some o := by
          have := hr 0
          rw [hj', ← Nat.add_zero acc.length, ← this]; rfl
        obtain ⟨e, he, h1 | h1⟩ := bits_anc acc i _ hi
        · exact .one ho he h1
        · cases hk : acc[e.on]? with
          | none => rw [hk] at h1; simp at h1
          | some b =>
            rw [hk] at h1
            exact .more ho he rfl (h e.on b hk i h1)

def listedOf (l : Array Bool) (n : Nat) : List Nat := (List.range n).filter fun i => !l.getD i true

theorem getD_set {l : Array Bool} {i j : Nat} {d : Bool} (hi : i < l.size) : (l.setIfInBounds i true).getD j d = if i = j then true else l.getD j d := by
  simp only [Array.getD_eq_getD_getElem?, Array.getElem?_setIfInBounds]
  by_cases e : i = j
  · subst e; simp [hi]
  · simp [e]

theorem orders {P : Program} {G : Nat → Option Nat} {F : FuncId → Option Fun} {rec : Rec} {ops : Array Oper} (hok : drawOk P G ops = true) :
    ∀ (fuel t : Nat) (listed : Array Bool) (acc : List Nat), listed.size = ops.size → (listedOf listed ops.size).length = fuel → (∀ j, j < ops.size → listed.getD j true = true → ∀ i, Ahead ops.toList i j → listed.getD i true = true) →
      ∃ τ, Region.linearise.go .any ops fuel t listed acc = acc.reverse ++ τ ∧ (∀ i ∈ τ, i < ops.size) ∧
        ∀ (T : List V) (H : Heap) (r : List V × Heap), opsR F rec ((listedOf listed ops.size).map fun i => cOper P G ops (ops.getD i default)) T H = some r → opsR F rec (τ.map fun i => cOper P G ops (ops.getD i default)) T H = some r := by
  simp only [drawOk, Bool.and_eq_true, List.all_eq_true] at hok
  obtain ⟨⟨_, hedge⟩, hind⟩ := hok
  have edge : ∀ j o, ops[j]? = some o → ∀ e ∈ bound o, Region.binds .any e = true ∧ e.on < j := by
    intro j o hj e he
    have hmem : (o, j) ∈ ops.toList.zipIdx := by
      rw [List.mem_zipIdx_iff_getElem?]
      simpa using hj
    have := hedge (o, j) hmem e he
    exact ⟨(List.mem_filter.1 he).2, by simpa using this⟩
  have ind : ∀ i j, i < j → j < ops.size → ¬ Ahead ops.toList i j → (cOper P G ops (ops.getD i default)).indep (cOper P G ops (ops.getD j default)) = true := by
    intro i j hij hj hA
    have get : ∀ q, q < ops.size → (ops.toList.map (cOper P G ops))[q]? = some (cOper P G ops (ops.getD q default)) := by
      intro q hq
      rw [List.getElem?_map, Array.getElem?_toList, Array.getElem?_eq_getElem hq, Array.getD_eq_getD_getElem?, Array.getElem?_eq_getElem hq]
      rfl
    have m1 : (cOper P G ops (ops.getD j default), j) ∈ (ops.toList.map (cOper P G ops)).zipIdx := by
      rw [List.mem_zipIdx_iff_getElem?]; exact get j hj
    have m2 : (cOper P G ops (ops.getD i default), i) ∈ (ops.toList.map (cOper P G ops)).zipIdx := by
      rw [List.mem_zipIdx_iff_getElem?]; exact get i (by omega)
    have := hind _ m1 _ m2
    simp only [Bool.or_eq_true, decide_eq_true_eq] at this
    rcases this with (h | h) | h
    · omega
    · exfalso
      apply hA
      cases ha : (ancs ops.toList [])[j]? with
      | none => rw [ha] at h; simp at h
      | some a =>
        rw [ha] at h
        exact ancs_ok ops.toList ops.toList [] (fun j => by simp) (fun j a h => by simp at h) j a ha i h
    · exact h
  intro fuel
  induction fuel with
  | zero =>
    intro t listed acc hs hc _
    refine ⟨[], by simp [Region.linearise.go], by simp, fun T H r h => ?_⟩
    rw [List.length_eq_zero_iff.1 hc] at h
    exact h
  | succ fuel ih =>
    intro t listed acc hs hc hclosed
    -- those that may come next
    have hready : ∀ i, i ∈ ((List.range ops.size).filter fun i => !listed.getD i true && ((ops[i]?).map (·.after.all fun e => !Region.binds .any e || listed.getD e.on false)).getD false) ↔
        i < ops.size ∧ listed.getD i true = false ∧ ∀ o, ops[i]? = some o → ∀ e ∈ bound o, listed.getD e.on true = true := by
      intro i
      simp only [List.mem_filter, List.mem_range, Bool.and_eq_true, Bool.not_eq_true']
      constructor
      · rintro ⟨h1, h2, h3⟩
        refine ⟨h1, h2, fun o ho e he => ?_⟩
        rw [ho] at h3
        simp only [Option.map_some, Option.getD_some, Array.all_eq_true'] at h3
        have h4 := h3 e (by simpa using (List.mem_filter.1 he).1)
        obtain ⟨h5, h6⟩ := edge i o ho e he
        simp only [h5, Bool.not_true, Bool.false_or] at h4
        have : e.on < listed.size := by omega
        rw [Array.getD_eq_getD_getElem?, Array.getElem?_eq_getElem this] at h4 ⊢
        exact h4
      · rintro ⟨h1, h2, h3⟩
        refine ⟨h1, h2, ?_⟩
        rw [Array.getElem?_eq_getElem h1]
        simp only [Option.map_some, Option.getD_some, Array.all_eq_true']
        intro e he
        have ho : ops[i]? = some ops[i] := Array.getElem?_eq_getElem h1
        cases hbe : Region.binds .any e with
        | false => rfl
        | true =>
        have he' : e ∈ bound ops[i] := List.mem_filter.2 ⟨by simpa using he, hbe⟩
        obtain ⟨h5, h6⟩ := edge i _ ho e he'
        have h4 := h3 _ ho e he'
        have : e.on < listed.size := by omega
        rw [Array.getD_eq_getD_getElem?, Array.getElem?_eq_getElem this] at h4 ⊢
        simp only [Bool.not_true, Bool.false_or]
        exact h4
    simp only [Region.linearise.go]
    generalize hrs : ((List.range ops.size).filter fun i => !listed.getD i true && ((ops[i]?).map (·.after.all fun e => !Region.binds .any e || listed.getD e.on false)).getD false) = rs at hready
    -- the first that is not listed is one of them
    have hne : rs ≠ [] := by
      cases hl : listedOf listed ops.size with
      | nil => rw [hl] at hc; simp at hc
      | cons a l =>
        have hmem : ∀ i, i ∈ listedOf listed ops.size ↔ i < ops.size ∧ listed.getD i true = false := by
          intro i; simp [listedOf]
        have ha : a ∈ listedOf listed ops.size := by rw [hl]; simp
        have hmin : ∀ i, i < a → i < ops.size → listed.getD i true = true := by
          intro i hia hi
          cases hli : listed.getD i true with
          | true => rfl
          | false =>
            exfalso
            have : i ∈ listedOf listed ops.size := (hmem i).2 ⟨hi, hli⟩
            have hsorted : (listedOf listed ops.size).Pairwise (· < ·) := List.Pairwise.filter _ List.pairwise_lt_range
            rw [hl] at this hsorted
            cases this with
            | head => omega
            | tail _ h => have := List.rel_of_pairwise_cons hsorted h; omega
        obtain ⟨h1, h2⟩ := (hmem a).1 ha
        have : a ∈ rs := (hready a).2 ⟨h1, h2, fun o ho e he => hmin _ (edge a o ho e he).2 (by have := (edge a o ho e he).2; omega)⟩
        exact List.ne_nil_of_mem this
    have hlt : t % rs.length < rs.length := Nat.mod_lt _ (List.length_pos_iff.2 hne)
    rw [List.getElem?_eq_getElem hlt]
    simp only []
    generalize hi : rs[t % rs.length] = i
    have hirs : i ∈ rs := by rw [← hi]; exact List.getElem_mem hlt
    obtain ⟨hi1, hi2, hi3⟩ := (hready i).1 hirs
    have hmem : ∀ q, q ∈ listedOf listed ops.size ↔ q < ops.size ∧ listed.getD q true = false := by
      intro q; simp [listedOf]
    obtain ⟨A, B, hAB⟩ := List.append_of_mem ((hmem i).2 ⟨hi1, hi2⟩)
    have hsorted : (listedOf listed ops.size).Pairwise (· < ·) := List.Pairwise.filter _ List.pairwise_lt_range
    rw [hAB] at hsorted
    have hA : ∀ a ∈ A, a < i := fun a ha => (List.pairwise_append.1 hsorted).2.2 a ha i (by simp)
    have hB : ∀ b ∈ B, i < b := fun b hb => List.rel_of_pairwise_cons (List.pairwise_append.1 hsorted).2.1 hb
    have hrest : listedOf (listed.setIfInBounds i true) ops.size = A ++ B := by
      have e1 : listedOf (listed.setIfInBounds i true) ops.size = (listedOf listed ops.size).filter fun q => decide (q ≠ i) := by
        unfold listedOf
        rw [List.filter_filter]
        refine List.filter_congr fun q hq => ?_
        rw [getD_set (by omega)]
        by_cases e : i = q
        · subst e; simp
        · have : q ≠ i := fun h => e h.symm
          simp [e, this]
      rw [e1, hAB, List.filter_append, List.filter_cons]
      simp only [ne_eq, decide_not, decide_true, Bool.not_true, Bool.false_eq_true, if_false]
      rw [List.filter_eq_self.2 fun a ha => by have := hA a ha; simp; omega, List.filter_eq_self.2 fun b hb => by have := hB b hb; simp; omega]
    have hlen : (listedOf (listed.setIfInBounds i true) ops.size).length = fuel := by
      rw [hrest]
      rw [hAB] at hc
      simp at hc ⊢; omega
    obtain ⟨τ, h1, h2, h3⟩ := ih (t / rs.length) (listed.setIfInBounds i true) (i :: acc) (by simp [hs]) hlen (by
      intro j hj hlj q hq
      rw [getD_set (by omega)] at hlj ⊢
      by_cases hiq : i = q
      · simp [hiq]
      · rw [if_neg hiq]
        by_cases hij : i = j
        · subst hij
          cases hq with
          | one ho he hei => rw [← hei]; exact hi3 _ (by simpa using ho) _ he
          | @more k _ o e ho he hek hk =>
            have ho' : ops[i]? = some o := by simpa using ho
            have h5 := hi3 o ho' e he
            rw [hek] at h5
            have h6 := (edge i o ho' e he).2
            rw [hek] at h6
            exact hclosed k (by omega) h5 q hk
        · rw [if_neg hij] at hlj
          exact hclosed j hj hlj q hq)
    refine ⟨i :: τ, by rw [h1]; simp, ?_, ?_⟩
    · intro q hq
      cases hq with
      | head => exact hi1
      | tail _ hq => exact h2 q hq
    · intro T H r hr
      rw [hAB, List.map_append, List.map_cons] at hr
      have hf := front (y := cOper P G ops (ops.getD i default)) (A.map fun i => cOper P G ops (ops.getD i default)) (by
        intro x hx
        obtain ⟨a, ha, rfl⟩ := List.mem_map.1 hx
        refine ind a i (hA a ha) hi1 fun hah => ?_
        -- what comes ahead of i is listed
        have hal : listed.getD a true = false := ((hmem a).1 (by rw [hAB]; simp [ha])).2
        have : listed.getD a true = true := by
          cases hah with
          | one ho he hei => rw [← hei]; exact hi3 _ (by simpa using ho) _ he
          | @more k _ o e ho he hek hk =>
            have ho' : ops[i]? = some o := by simpa using ho
            have h5 := hi3 o ho' e he
            rw [hek] at h5
            have h6 := (edge i o ho' e he).2
            rw [hek] at h6
            exact hclosed k (by omega) h5 a hk
        rw [hal] at this
        cases this) hr
      rw [List.map_cons, opsR_cons]
      rw [opsR_cons] at hf
      obtain ⟨q, e, hf⟩ := bind_some hf
      rw [e, Option.bind_some]
      refine h3 _ _ r ?_
      rw [hrest, List.map_append]
      exact hf

/-- EACH ORDER THAT MAY BE DRAWN COMES TO WHAT THE TEXT's COMES TO. -/
theorem schedule_ok {P : Program} {G : Nat → Option Nat} {F : FuncId → Option Fun} {rec : Rec} {ops : Array Oper} (hok : drawOk P G ops = true) (t : Nat) :
    (∀ i ∈ Region.schedule (P.follows .mixedOrders) ops t, i < ops.size) ∧ ∀ (T : List V) (H : Heap) (r : List V × Heap), opsR F rec (ops.toList.map (cOper P G ops)) T H = some r → opsR F rec ((Region.schedule (P.follows .mixedOrders) ops t).map fun i => cOper P G ops (ops.getD i default)) T H = some r := by
  have hmix : P.follows .mixedOrders = true := by
    have hok' := hok
    simp only [drawOk, Bool.and_eq_true] at hok'
    exact hok'.1.1
  have hsch : Region.schedule (P.follows .mixedOrders) ops t = Region.linearise .any ops t := by
    unfold Region.schedule
    rw [hmix]
    rfl
  rw [hsch]
  have hall : listedOf (Array.replicate ops.size false) ops.size = List.range ops.size := by
    unfold listedOf
    refine List.filter_eq_self.2 fun i hi => ?_
    have : i < ops.size := by simpa using hi
    rw [Array.getD_eq_getD_getElem?]
    simp [this]
  obtain ⟨τ, h1, h2, h3⟩ := orders (F := F) (rec := rec) hok ops.size t (Array.replicate ops.size false) [] (by simp) (by rw [hall]; simp) (by
    intro j hj hl
    rw [Array.getD_eq_getD_getElem?] at hl
    simp [hj] at hl)
  have : Region.linearise .any ops t = τ := by
    unfold Region.linearise
    simpa using h1
  rw [this]
  refine ⟨h2, fun T H r hr => h3 T H r ?_⟩
  rw [hall]
  have e : ops.toList.map (cOper P G ops) = (List.range ops.size).map fun i => cOper P G ops (ops.getD i default) := by
    apply List.ext_getElem?
    intro i
    simp only [List.getElem?_map]
    by_cases hi : i < ops.size
    · rw [List.getElem?_range hi, Array.getElem?_toList, Array.getElem?_eq_getElem hi]
      simp [hi]
    · rw [List.getElem?_eq_none (by simp; omega), List.getElem?_eq_none (by simp; omega)]
      rfl
  rw [← e]
  exact hr

end Go.Proofs.Ytnepeleepmhdaaa.AM
