/- AM, sixth text: numbers, comparisons, places, parts. -/
import Derived.Test.YtnepeleepmhdaaaAM5
set_option linter.unusedVariables false
set_option linter.unusedSimpArgs false
namespace Go.Proofs.Ytnepeleepmhdaaa.AM
open Go Go.RowKit

section
variable {K : Ctx} {m : Inj} {base : Nat} {H : Heap} {w : World} {ρ : X → V} {ρc : Operand → Value} {r : AN × Heap}

theorem binI_run {P : Program} {w : World} {op : BinOp} {T : TypeId} {k k' : IntKind} {x y : Int} {c : Cell} (h : binI op k x k' y = some c) (m : Inj) (n : Nat) :
    ∃ v, (binOp op T (.int k x) (.int k' y)).run P w = .ok v w ∧ c.R m n v := by
  by_cases hs : op = .shl ∨ op = .shr
  · rcases hs with rfl | rfl <;> simp only [binI] at h <;> split at h <;> simp at h <;> subst h <;> rename_i hy
    · exact ⟨_, by simp [binOp, Op.shift, hy], rfl⟩
    · exact ⟨_, by simp [binOp, Op.shift, hy], rfl⟩
  · have h1 : op ≠ .shl := fun e => hs (.inl e)
    have h2 : op ≠ .shr := fun e => hs (.inr e)
    have hk : k = k' := by
      cases op <;> simp [binI] at h h1 h2 <;> first | exact h.1 | exact h
    subst hk
    cases op <;> simp [binI] at h h1 h2 <;> first
      | (subst h; exact ⟨_, by simp [binOp, Op.intArith] <;> rfl, rfl⟩)
      | (subst h; exact ⟨_, by simp [binOp, intBits_and, intBits_or, intBits_xor, intBits_andNot] <;> rfl, rfl⟩)
      | (subst h; exact ⟨_, by simp [binOp, Op.intCmp] <;> rfl, rfl⟩)
      | (obtain ⟨h0, rfl⟩ := h; exact ⟨_, by simp [binOp, Op.intDiv, h0] <;> rfl, rfl⟩)

theorem eqGuard_cells (op : BinOp) (T : TypeId) (x y : Operand) {a b : Value} (ha : ∀ cs, a ≠ .agg cs) (hn : a ≠ .nilIface) : eqGuard op T x y a b = pure () := by
  cases a <;> first | exact absurd rfl (ha _) | exact absurd rfl hn | (cases op <;> rfl)

theorem binC_run {P : Program} {w : World} {op : BinOp} {T : TypeId} {x y c : Cell} (h : binC op x y = some c) {m : Inj} {n : Nat} {a b : Value} (hx : x.R m n a) (hy : y.R m n b) :
    ∃ v, (binOp op T a b).run P w = .ok v w ∧ c.R m n v ∧ (∀ cs, a ≠ .agg cs) ∧ a ≠ .nilIface := by
  unfold binC at h
  split at h
  · rename_i k i k' j
    cases hx; cases hy
    obtain ⟨v, h1, h2⟩ := binI_run (P := P) (w := w) (T := T) h m n
    exact ⟨v, h1, h2, by simp, by simp⟩
  · rename_i s t
    cases hx; cases hy
    split at h
    · cases h; exact ⟨_, by simp [binOp, Op.stringOp] <;> rfl, rfl, by simp, by simp⟩
    · cases h; exact ⟨_, by simp [binOp, Op.stringOp] <;> rfl, rfl, by simp, by simp⟩
    · split at h
      · cases h
      · rename_i hle
        cases h; exact ⟨_, by simp only [binOp, Op.stringOp]; rw [if_neg hle]; rfl, rfl, by simp, by simp⟩
    · cases h
  · cases h

theorem run_bin {P : Program} {w : World} {op : BinOp} {T : TypeId} {x y : Operand} {a b v : Value} (ha : ∀ cs, a ≠ .agg cs) (hn : a ≠ .nilIface) (h : (binOp op T a b).run P w = .ok v w) :
    (do pure (Next.value (← (do eqGuard op T x y a b; binOp op T a b))) : Sem Next).run P w = .ok (.value v) w := by
  rw [run_v, eqGuard_cells op T x y ha hn]
  simp [h]

theorem good_bin (hR : Rel K m base H w) (hρ : Ops K m H.length ρ ρc) {op : BinOp} {T : TypeId} {x y : Operand} {x' y' : X} (hx : cX K.G x = some x') (hy : cX K.G y = some y') (h : aop ρ (.bin op x' y') H = some r) :
    Good K base m H w ((do pure (Next.value (← (do eqGuard op T x y (ρc x) (ρc y); binOp op T (ρc x) (ρc y)))) : Sem Next).run K.P w) r := by
  simp only [aop] at h
  have hxR := hρ x x' hx
  have hyR := hρ y y' hy
  split at h
  · rename_i a b ha hb
    cases hc : binC op a b with
    | none => simp [hc] at h
    | some c =>
      simp [hc] at h; subst h
      rw [ha] at hxR
      rw [hb] at hyR
      obtain ⟨v, h1, h2, h3, h4⟩ := binC_run (P := K.P) (w := w) (T := T) hc (m := m) (n := H.length) hxR hyR
      rw [run_bin h3 h4 h1]
      exact Good.val hR (show (V.c c).R m H.length v from h2)
  · cases h

theorem equal_of {P : Program} {w : World} {T : TypeId} {d : TypeDesc} (h : P.underlying T = some d) {a b : Value} {t : Bool}
    (he : (match d, a, b with
      | .bool, .bool a, .bool b => some (a == b)
      | .pointer _, .pointer none, .pointer b => some b.isNone
      | .pointer _, .pointer _, .pointer none => some false
      | .slice _, .slice none _ _, .slice b _ _ => some b.isNone
      | .slice _, .slice _ _ _, .slice none _ _ => some false
      | .map _ _, .map none, .map b => some b.isNone
      | .map _ _, .map _, .map none => some false
      | .func _ _ _, .nilFunc, .nilFunc => some true
      | .func _ _ _, .nilFunc, .func _ _ _ | .func _ _ _, .func _ _ _, .nilFunc => some false
      | _, _, _ => none) = some t) : (Op.equal T a b).run P w = .ok t w := by
  unfold Op.equal Op.maxDepth
  rw [Op.equalIn, Sem.run_bind, run_underlying h, Result.andThen_ok]
  split at he <;> first | (cases he; done) | (cases he; first | rfl | simp)


/-- Which types a comparison of one kind is for. -/
def EK.fits : EK → TypeDesc → Prop
  | .bool, d => d = .bool
  | .ptr, d => ∃ e, d = .pointer e
  | .sl, d => ∃ e, d = .slice e
  | .map, d => ∃ a b, d = .map a b
  | .fn, d => ∃ a b c, d = .func a b c

theorem ptr_R {m : Inj} {n : Nat} {a : Option Ad} {v : Value} (h : (Cell.ptr a).R m n v) : ∃ p : Option Addr, v = .pointer p ∧ p.isNone = a.isNone ∧ (a = none → p = none) := by
  cases a with
  | none => exact ⟨none, h, rfl, fun _ => rfl⟩
  | some a => exact ⟨_, h.2, rfl, by simp⟩
theorem sl_R {m : Inj} {n : Nat} {a : Option Ad} {k c : Nat} {o : Bool} {v : Value} (h : (Cell.sl a k c o).R m n v) : ∃ (p : Option Addr) (c' : Nat), v = .slice p k c' ∧ p.isNone = a.isNone ∧ (a = none → p = none) := by
  cases a with
  | none => obtain ⟨rfl, _, _, rfl⟩ := h; exact ⟨none, 0, rfl, rfl, fun _ => rfl⟩
  | some a => obtain ⟨_, _, A, c', rfl, _⟩ := h; exact ⟨some A, c', rfl, rfl, by simp⟩
theorem map_R {m : Inj} {n : Nat} {a : Option Nat} {v : Value} (h : (Cell.map a).R m n v) : ∃ p : Option Nat, v = .map p ∧ p.isNone = a.isNone ∧ (a = none → p = none) := by
  cases a with
  | none => exact ⟨none, h, rfl, fun _ => rfl⟩
  | some a => exact ⟨_, h.2, rfl, by simp⟩

theorem eqC_run {P : Program} {w : World} {k : EK} {T : TypeId} {d : TypeDesc} (hd : P.underlying T = some d) (hk : k.fits d) {x y : Cell} {t : Bool} (h : eqC k x y = some t)
    {m : Inj} {n : Nat} {a b : Value} (hx : x.R m n a) (hy : y.R m n b) : (Op.equal T a b).run P w = .ok t w := by
  unfold eqC at h
  split at h
  · cases hx; cases hy; cases hk; cases h; exact equal_of hd rfl
  · obtain ⟨e, rfl⟩ := hk
    obtain ⟨p, rfl, hp, hp'⟩ := ptr_R hx
    obtain ⟨q, rfl, hq, hq'⟩ := ptr_R hy
    cases hp' rfl; cases h
    exact equal_of hd (by simp [← hq])
  · rename_i z _
    obtain ⟨e, rfl⟩ := hk
    obtain ⟨p, rfl, hp, hp'⟩ := ptr_R hx
    obtain ⟨q, rfl, hq, hq'⟩ := ptr_R hy
    cases hq' rfl; cases h
    refine equal_of hd ?_
    cases p with
    | none => cases z <;> simp_all
    | some p => rfl
  · obtain ⟨e, rfl⟩ := hk
    obtain ⟨p, _, rfl, hp, hp'⟩ := sl_R hx
    obtain ⟨q, _, rfl, hq, hq'⟩ := sl_R hy
    cases hp' rfl; cases h
    exact equal_of hd (by simp [← hq])
  · rename_i z _ _ _ _ _ _ _
    obtain ⟨e, rfl⟩ := hk
    obtain ⟨p, _, rfl, hp, hp'⟩ := sl_R hx
    obtain ⟨q, _, rfl, hq, hq'⟩ := sl_R hy
    cases hq' rfl; cases h
    refine equal_of hd ?_
    cases p with
    | none => cases z <;> simp_all
    | some p => rfl
  · obtain ⟨e, f, rfl⟩ := hk
    obtain ⟨p, rfl, hp, hp'⟩ := map_R hx
    obtain ⟨q, rfl, hq, hq'⟩ := map_R hy
    cases hp' rfl; cases h
    exact equal_of hd (by simp [← hq])
  · rename_i z _
    obtain ⟨e, f, rfl⟩ := hk
    obtain ⟨p, rfl, hp, hp'⟩ := map_R hx
    obtain ⟨q, rfl, hq, hq'⟩ := map_R hy
    cases hq' rfl; cases h
    refine equal_of hd ?_
    cases p with
    | none => cases z <;> simp_all
    | some p => rfl
  · obtain ⟨e, f, g, rfl⟩ := hk
    cases hx; cases hy; cases h; exact equal_of hd rfl
  · obtain ⟨e, f, g, rfl⟩ := hk
    cases hx; obtain ⟨_, _, rfl⟩ := hy; cases h; exact equal_of hd rfl
  · obtain ⟨e, f, g, rfl⟩ := hk
    obtain ⟨_, _, rfl⟩ := hx; cases hy; cases h; exact equal_of hd rfl
  · cases h

/-- A comparison by what 'equal' says. -/
theorem run_eql {P : Program} {w : World} {T : TypeId} {x y : Operand} {a b : Value} {t : Bool} (ha : ∀ cs, a ≠ .agg cs) (hn : a ≠ .nilIface) (hi : ∀ k n, a ≠ .int k n) (hs : ∀ s, a ≠ .string s) (hf : ∀ k n, a ≠ .float k n) (hc : ∀ k n l, a ≠ .complex k n l)
    (h : (Op.equal T a b).run P w = .ok t w) {op : BinOp} (hop : op = .eql ∨ op = .neq) :
    (do pure (Next.value (← (do eqGuard op T x y a b; binOp op T a b))) : Sem Next).run P w = .ok (.value (.bool (t != (op == .neq)))) w := by
  refine run_bin ha hn ?_
  have e1 : binOp .eql T a b = (do pure (.bool (← Op.equal T a b))) := by
    cases a <;> first | rfl | exact absurd rfl (hi _ _) | exact absurd rfl (hs _) | exact absurd rfl (hf _ _) | exact absurd rfl (hc _ _ _)
  have e2 : binOp .neq T a b = (do pure (.bool (!(← Op.equal T a b)))) := by
    cases a <;> first | rfl | exact absurd rfl (hi _ _) | exact absurd rfl (hs _) | exact absurd rfl (hf _ _) | exact absurd rfl (hc _ _ _)
  rcases hop with rfl | rfl
  · rw [e1]; simp [h] <;> (cases t <;> rfl)
  · rw [e2]; simp [h] <;> (cases t <;> rfl)

theorem good_eq (hR : Rel K m base H w) (hρ : Ops K m H.length ρ ρc) {op : BinOp} (hop : op = .eql ∨ op = .neq) {k : EK} {T : TypeId} {d : TypeDesc} (hd : K.P.underlying T = some d) (hk : k.fits d)
    {x y : Operand} {x' y' : X} (hx : cX K.G x = some x') (hy : cX K.G y = some y') (h : aop ρ (.eq k (op == .neq) x' y') H = some r) :
    Good K base m H w ((do pure (Next.value (← (do eqGuard op T x y (ρc x) (ρc y); binOp op T (ρc x) (ρc y)))) : Sem Next).run K.P w) r := by
  simp only [aop] at h
  have hxR := hρ x x' hx
  have hyR := hρ y y' hy
  split at h
  · rename_i a b ha hb
    cases hc : eqC k a b with
    | none => simp [hc] at h
    | some t =>
      simp [hc] at h; subst h
      rw [ha] at hxR
      rw [hb] at hyR
      have he := eqC_run (P := K.P) (w := w) hd hk hc (m := m) (n := H.length) hxR hyR
      have hxR' : a.R m H.length (ρc x) := hxR
      have hform : (∀ cs, ρc x ≠ .agg cs) ∧ ρc x ≠ .nilIface ∧ (∀ k n, ρc x ≠ .int k n) ∧ (∀ s, ρc x ≠ .string s) ∧ (∀ k n, ρc x ≠ .float k n) ∧ (∀ k n l, ρc x ≠ .complex k n l) := by
        unfold eqC at hc
        split at hc <;> first
          | (cases hc; done)
          | (obtain ⟨_, e, _⟩ := ptr_R hxR'; simp [e]; done)
          | (obtain ⟨_, _, e, _⟩ := sl_R hxR'; simp [e]; done)
          | (obtain ⟨_, e, _⟩ := map_R hxR'; simp [e]; done)
          | (obtain ⟨_, _, e⟩ := hxR'; simp [e]; done)
          | (have e : ρc x = .bool _ := hxR'; simp [e]; done)
          | (have e : ρc x = .nilFunc := hxR'; simp [e]; done)
      obtain ⟨h1, h2, h3, h4, h5, h6⟩ := hform
      rw [run_eql h1 h2 h3 h4 h5 h6 he hop]
      exact Good.val hR (show (V.c (.bool _)).R m H.length _ from rfl)
  · cases h

theorem good_un (hR : Rel K m base H w) (hρ : Ops K m H.length ρ ρc) {op : UnOp} {x : Operand} {x' : X} (hx : cX K.G x = some x') (h : aop ρ (.un op x') H = some r) :
    Good K base m H w ((do pure (Next.value (← Op.unary op (ρc x))) : Sem Next).run K.P w) r := by
  simp only [aop] at h
  have hxR := hρ x x' hx
  split at h
  · rename_i a ha
    cases hc : unC op a with
    | none => simp [hc] at h
    | some c =>
      simp [hc] at h; subst h
      rw [ha] at hxR
      have key : ∃ v, (Op.unary op (ρc x)).run K.P w = .ok v w ∧ c.R m H.length v := by
        unfold unC at hc
        split at hc
        · rename_i k n
          rw [V.R_int hxR]
          split at hc
          · cases hc; exact ⟨_, by simp [Op.unary, Op.intArith] <;> rfl, rfl⟩
          · cases hc; exact ⟨_, by simp [Op.unary, intBits_xor] <;> rfl, rfl⟩
          · cases hc
        · rename_i b
          rw [V.R_bool hxR]
          split at hc
          · cases hc; exact ⟨_, by simp [Op.unary] <;> rfl, rfl⟩
          · cases hc
        · cases hc
      obtain ⟨v, h1, h2⟩ := key
      rw [run_v, h1]
      exact Good.val hR (show (V.c c).R m H.length v from h2)
  · cases h

theorem good_cv (hR : Rel K m base H w) (hρ : Ops K m H.length ρ ρc) {s d : TypeId} {ks k : IntKind} (hs : K.P.underlying s = some (.int ks)) (hd : K.P.underlying d = some (.int k)) {x : Operand} {x' : X} (hx : cX K.G x = some x') (h : aop ρ (.cv k x') H = some r) :
    Good K base m H w ((do pure (Next.value (← convert s d (ρc x))) : Sem Next).run K.P w) r := by
  simp only [aop] at h
  have hxR := hρ x x' hx
  split at h
  · rename_i k' n ha
    cases h
    rw [ha] at hxR
    rw [V.R_int hxR, run_v]
    simp only [convert, Sem.run_bind, run_underlying hs, run_underlying hd, Result.andThen_ok, Conv.intToInt, Sem.run_pure]
    exact Good.val hR (show (V.c (.int _ _)).R m H.length _ from rfl)
  · cases h

end
end Go.Proofs.Ytnepeleepmhdaaa.AM
