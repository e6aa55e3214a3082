/- AM, eighth text: slices cut, made, appended to, copied, cleared. -/
import Derived.Test.YtnepeleepmhdaaaAM7
set_option linter.unusedVariables false
set_option linter.unusedSimpArgs false
namespace Go.Proofs.Ytnepeleepmhdaaa.AM
open Go Go.RowKit

section
variable {K : Ctx} {m : Inj} {base : Nat} {H : Heap} {w : World} {ρ : X → V} {ρc : Operand → Value} {r : AN × Heap}

theorem run_sliceBound {P : Program} {w : World} {k : IntKind} {i : Int} {y : Nat} {code : BoundsCode} (h : 0 ≤ i ∧ i ≤ y) : (Instr.sliceBound (.int k i) y code).run P w = .ok i.toNat w := by
  unfold Instr.sliceBound
  simp only [asIntOf, Sem.run_bind, Sem.run_pure, Result.andThen_ok]
  rw [if_pos h]
  rfl

/-- A bound, here and there. -/
theorem bnd_R {m : Inj} {n : Nat} {x : V} {v : Value} {t l : Nat} {d : Nat} (h : bnd (some x) d t = some l) (hx : x.R m n v) : ∃ k i, v = .int k i ∧ 0 ≤ i ∧ i ≤ t ∧ i.toNat = l ∧ l ≤ t := by
  unfold bnd at h
  cases ha : asI x with
  | none => simp [ha] at h
  | some i =>
    simp only [ha, Option.bind_some] at h
    split at h
    · rename_i hi
      cases h
      obtain ⟨k, rfl⟩ := asI_R ha hx
      exact ⟨k, i, rfl, hi.1, hi.2, rfl, by omega⟩
    · cases h

theorem cXo_R {n : Nat} (hρ : Ops K m n ρ ρc) {x : Option Operand} {y : Option X} (h : cXo K.G x = some y) : (x = none ∧ y = none) ∨ ∃ a b, x = some a ∧ y = some b ∧ (ρ b).R m n (ρc a) := by
  cases x with
  | none => simp [cXo] at h; exact .inl ⟨rfl, h.symm⟩
  | some a =>
    simp only [cXo] at h
    cases hc : cX K.G a with
    | none => simp [hc] at h
    | some b => simp [hc] at h; subst h; exact .inr ⟨a, b, rfl, rfl, hρ a b hc⟩

/-- The bounds of a slice expression; the capacity may be greater than what is known of it. -/
theorem bnds_R {n0 : Nat} (hρ : Ops K m n0 ρ ρc) {isSlice : Bool} {n c c' : Nat} (hcc : c ≤ c') {lo hi mx : Option Operand} {lo' hi' mx' : Option X} (hlo : cXo K.G lo = some lo') (hhi : cXo K.G hi = some hi') (hmx : cXo K.G mx = some mx')
    {l h q : Nat} (hb : bnds n c (lo'.map ρ) (hi'.map ρ) (mx'.map ρ) = some (l, h, q)) (hnc : n ≤ c) (P : Program) (w : World) :
    (Instr.sliceBounds isSlice n c' (lo.map ρc) (hi.map ρc) (mx.map ρc)).run P w = .ok (l, h, if mx'.isNone then c' else q) w ∧ l ≤ h ∧ h ≤ q ∧ q ≤ c ∧ (mx'.isNone = true → q = c) := by
  have hM := cXo_R hρ hmx
  have hH := cXo_R hρ hhi
  have hL := cXo_R hρ hlo
  have hb0 : (hi'.map ρ = none ∧ (mx'.map ρ).isSome = true) ∨ ¬ (hi'.map ρ = none ∧ (mx'.map ρ).isSome = true) := Classical.em _
  rcases hb0 with ⟨h1, h2⟩ | hnot
  · obtain ⟨z, hz⟩ := Option.isSome_iff_exists.1 h2
    simp [bnds, h1, hz] at hb
  have hb' : ((bnd (mx'.map ρ) c c).bind fun q => (bnd (hi'.map ρ) n q).bind fun h => (bnd (lo'.map ρ) 0 h).map fun l => (l, h, q)) = some (l, h, q) := by
    unfold bnds at hb
    split at hb
    · cases hb
    · exact hb
  cases hq : bnd (mx'.map ρ) c c with
  | none => simp [hq] at hb'
  | some q0 =>
    cases hh : bnd (hi'.map ρ) n q0 with
    | none => simp [hq, hh] at hb'
    | some h0 =>
      cases hl : bnd (lo'.map ρ) 0 h0 with
      | none => simp [hq, hh, hl] at hb'
      | some l0 =>
        simp [hq, hh, hl] at hb'
        obtain ⟨rfl, rfl, rfl⟩ := hb'
        have up : ∀ {v : V} {u : Value} {d t z t' : Nat}, bnd (some v) d t = some z → v.R m n0 u → t ≤ t' → z ≤ t ∧ ∀ code, (Instr.sliceBound u t' code).run P w = .ok z w := by
          intro v u d t z t' hb hv ht
          obtain ⟨k, i, e, h1, h2, h3, h4⟩ := bnd_R hb hv
          subst h3
          exact ⟨h4, fun code => by rw [e]; exact run_sliceBound ⟨h1, by omega⟩⟩
        rcases hM with ⟨rfl, rfl⟩ | ⟨a, b, rfl, rfl, hab⟩
        · simp [bnd] at hq; subst hq
          rcases hH with ⟨rfl, rfl⟩ | ⟨a2, b2, rfl, rfl, hab2⟩
          · simp [bnd] at hh; subst hh
            rcases hL with ⟨rfl, rfl⟩ | ⟨a3, b3, rfl, rfl, hab3⟩
            · simp [bnd] at hl; subst hl
              exact ⟨rfl, Nat.zero_le _, hnc, Nat.le_refl _, fun _ => rfl⟩
            · obtain ⟨u1, u2⟩ := up hl hab3 (Nat.le_refl _)
              exact ⟨by simp only [Instr.sliceBounds, Option.map_none, Option.map_some, Sem.run_bind, Sem.run_pure, Result.andThen_ok, u2]; rfl, u1, hnc, Nat.le_refl _, fun _ => rfl⟩
          · obtain ⟨v1, v2⟩ := up hh hab2 hcc
            rcases hL with ⟨rfl, rfl⟩ | ⟨a3, b3, rfl, rfl, hab3⟩
            · simp [bnd] at hl; subst hl
              exact ⟨by simp only [Instr.sliceBounds, Option.map_none, Option.map_some, Sem.run_bind, Sem.run_pure, Result.andThen_ok, v2]; rfl, Nat.zero_le _, v1, Nat.le_refl _, fun _ => rfl⟩
            · obtain ⟨u1, u2⟩ := up hl hab3 (Nat.le_refl _)
              exact ⟨by simp only [Instr.sliceBounds, Option.map_none, Option.map_some, Sem.run_bind, Sem.run_pure, Result.andThen_ok, v2, u2]; rfl, u1, v1, Nat.le_refl _, fun _ => rfl⟩
        · obtain ⟨t1, t2⟩ := up hq hab hcc
          rcases hH with ⟨rfl, rfl⟩ | ⟨a2, b2, rfl, rfl, hab2⟩
          · exact absurd ⟨rfl, rfl⟩ hnot
          · obtain ⟨v1, v2⟩ := up hh hab2 (Nat.le_refl _)
            rcases hL with ⟨rfl, rfl⟩ | ⟨a3, b3, rfl, rfl, hab3⟩
            · simp [bnd] at hl; subst hl
              exact ⟨by simp only [Instr.sliceBounds, Option.map_none, Option.map_some, Sem.run_bind, Sem.run_pure, Result.andThen_ok, t2, v2]; rfl, Nat.zero_le _, v1, t1, fun h => by simp at h⟩
            · obtain ⟨u1, u2⟩ := up hl hab3 (Nat.le_refl _)
              exact ⟨by simp only [Instr.sliceBounds, Option.map_none, Option.map_some, Sem.run_bind, Sem.run_pure, Result.andThen_ok, t2, v2, u2]; rfl, u1, v1, t1, fun h => by simp at h⟩

theorem good_slS (hR : Rel K m base H w) (hρ : Ops K m H.length ρ ρc) {T e : TypeId} (hu : K.P.underlying T = some (.slice e)) {n : Nat} (hn : szOf K.P e = some n)
    {x : Operand} {x' : X} (hx : cX K.G x = some x') {lo hi mx : Option Operand} {lo' hi' mx' : Option X} (hlo : cXo K.G lo = some lo') (hhi : cXo K.G hi = some hi') (hmx : cXo K.G mx = some mx')
    (h : aop ρ (.slS n x' lo' hi' mx') H = some r) :
    Good K base m H w ((do pure (Next.value (← Instr.sliceAt T (ρc x) (lo.map ρc) (hi.map ρc) (mx.map ρc))) : Sem Next).run K.P w) r := by
  simp only [aop] at h
  have hxR := hρ x x' hx
  split at h
  · rename_i a k c o ha
    rw [ha] at hxR
    cases hb : bnds k c (lo'.map ρ) (hi'.map ρ) (mx'.map ρ) with
    | none => simp [hb] at h
    | some q =>
      obtain ⟨l, hh, q⟩ := q
      simp only [hb, Option.bind_some, Option.some.injEq] at h
      subst h
      rw [run_v]
      cases a with
      | none =>
        obtain ⟨rfl, rfl, rfl, hv⟩ := hxR
        obtain ⟨h1, h2, h3, h4, h5⟩ := bnds_R (isSlice := true) hρ (Nat.le_refl 0) hlo hhi hmx hb (Nat.le_refl 0) K.P w
        have hq0 : q = 0 := by omega
        have hh0 : hh = 0 := by omega
        have hl0 : l = 0 := by omega
        subst hq0 hh0 hl0
        have : (Instr.sliceAt T (ρc x) (lo.map ρc) (hi.map ρc) (mx.map ρc)).run K.P w = .ok (.slice none 0 0) w := by
          rw [hv]
          unfold Instr.sliceAt
          simp only [Sem.run_bind, run_underlying hu, Result.andThen_ok]
          unfold Instr.slice
          simp only [Sem.run_bind, run_underlying hu, Result.andThen_ok, h1, run_szOf hn, Sem.run_pure]
          cases mx'.isNone <;> rfl
        rw [this]
        simp only [Bool.false_and, and_self, if_true]
        exact Good.val hR (show (V.c (.sl none _ _ _)).R m H.length _ from ⟨rfl, rfl, rfl, rfl⟩)
      | some a =>
        obtain ⟨hl, hkc, A, c', hv, hc', hA⟩ := hxR
        have hcc : c ≤ c' := by split at hc' <;> omega
        obtain ⟨h1, h2, h3, h4, h5⟩ := bnds_R (isSlice := true) hρ hcc hlo hhi hmx hb hkc K.P w
        obtain ⟨M, hM⟩ : ∃ M, (if mx'.isNone = true then c' else q) = M := ⟨_, rfl⟩
        rw [hM] at h1
        have : (Instr.sliceAt T (ρc x) (lo.map ρc) (hi.map ρc) (mx.map ρc)).run K.P w = .ok (.slice (some (if M = l then A else A.add (l * n))) (hh - l) (M - l)) w := by
          rw [hv]
          unfold Instr.sliceAt
          simp only [Sem.run_bind, run_underlying hu, Result.andThen_ok]
          unfold Instr.slice
          simp only [Sem.run_bind, run_underlying hu, Result.andThen_ok, h1, run_szOf hn, Sem.run_pure]
          split <;> rfl
        rw [this]
        refine Good.val hR ?_
        cases hmn : mx'.isNone with
        | false =>
          rw [hmn] at hM
          simp only [Bool.false_eq_true, if_false] at hM
          subst hM
          simp only [Bool.and_false, and_true]
          by_cases hql : q = l
          · rw [if_pos hql, if_pos hql]
            refine ⟨hl, by omega, A, q - l, rfl, rfl, .inr (by omega)⟩
          · rw [if_neg hql, if_neg hql]
            refine ⟨hl, by omega, _, _, rfl, rfl, .inl ?_⟩
            rcases hA with hA | hA
            · rw [hA, adr_add]
            · exact absurd (show q = l by omega) hql
        | true =>
          rw [hmn] at hM
          simp only [if_true] at hM
          subst hM
          have hq := h5 hmn
          subst hq
          simp only [Bool.and_true]
          cases o with
          | false =>
            simp only [Bool.false_eq_true, if_false] at hc'
            subst hc'
            simp only [and_true]
            by_cases hql : c' = l
            · rw [if_pos hql, if_pos hql]
              exact ⟨hl, by omega, A, _, rfl, rfl, .inr (by omega)⟩
            · rw [if_neg hql, if_neg hql]
              refine ⟨hl, by omega, _, _, rfl, rfl, .inl ?_⟩
              rcases hA with hA | hA
              · rw [hA, adr_add]
              · exact absurd (show c' = l by omega) hql
          | true =>
            simp only [if_true] at hc'
            subst hc'
            simp only [Bool.true_eq_false, and_false, if_false]
            refine ⟨hl, by omega, _, _, rfl, by simp [addA]; omega, ?_⟩
            by_cases hql : q + (m a.1).extra = l
            · exact .inr (by omega)
            · rw [if_neg hql]
              refine .inl ?_
              rcases hA with hA | hA
              · rw [hA, adr_add]
              · exact absurd (show q + (m a.1).extra = l by omega) hql
  · cases h

theorem good_slA (hR : Rel K m base H w) (hρ : Ops K m H.length ρ ρc) {T e : TypeId} {k : Nat} (hu : K.P.underlying T = some (.array k e)) {n : Nat} (hn : szOf K.P e = some n)
    {x : Operand} {x' : X} (hx : cX K.G x = some x') {lo hi mx : Option Operand} {lo' hi' mx' : Option X} (hlo : cXo K.G lo = some lo') (hhi : cXo K.G hi = some hi') (hmx : cXo K.G mx = some mx')
    (h : aop ρ (.slA k n x' lo' hi' mx') H = some r) :
    Good K base m H w ((do pure (Next.value (← Instr.sliceAt T (ρc x) (lo.map ρc) (hi.map ρc) (mx.map ρc))) : Sem Next).run K.P w) r := by
  simp only [aop] at h
  have hxR := hρ x x' hx
  split at h
  · rename_i a ha
    rw [ha] at hxR
    cases hb : bnds k k (lo'.map ρ) (hi'.map ρ) (mx'.map ρ) with
    | none => simp [hb] at h
    | some q =>
      obtain ⟨l, hh, q⟩ := q
      simp only [hb, Option.map_some, Option.some.injEq] at h
      subst h
      rw [run_v]
      obtain ⟨h1, h2, h3, h4, h5⟩ := bnds_R (isSlice := false) hρ (Nat.le_refl k) hlo hhi hmx hb (Nat.le_refl k) K.P w
      have hM : (if mx'.isNone = true then k else q) = q := by
        split
        · rename_i h0; exact (h5 h0).symm
        · rfl
      rw [hM] at h1
      obtain ⟨hl, hv⟩ := hxR
      have : (Instr.sliceAt T (ρc x) (lo.map ρc) (hi.map ρc) (mx.map ρc)).run K.P w = .ok (.slice (some (if q = l then adr m a else (adr m a).add (l * n))) (hh - l) (q - l)) w := by
        rw [hv]
        unfold Instr.sliceAt
        simp only [Sem.run_bind, run_underlying hu, Result.andThen_ok, ptrV, Instr.sureAddr, Sem.run_pure, h1, run_szOf hn]
      rw [this]
      refine Good.val hR ?_
      by_cases hql : q = l
      · rw [if_pos hql, if_pos hql]
        exact ⟨hl, by omega, _, _, rfl, rfl, .inl rfl⟩
      · rw [if_neg hql, if_neg hql]
        exact ⟨hl, by omega, _, _, rfl, rfl, .inl (by rw [adr_add])⟩
  · cases h

theorem good_slT (hR : Rel K m base H w) (hρ : Ops K m H.length ρ ρc) {T : TypeId} (hu : K.P.underlying T = some .string)
    {x : Operand} {x' : X} (hx : cX K.G x = some x') {lo hi : Option Operand} {lo' hi' : Option X} (hlo : cXo K.G lo = some lo') (hhi : cXo K.G hi = some hi')
    (h : aop ρ (.slT x' lo' hi') H = some r) :
    Good K base m H w ((do pure (Next.value (← Instr.sliceAt T (ρc x) (lo.map ρc) (hi.map ρc) none)) : Sem Next).run K.P w) r := by
  simp only [aop] at h
  have hxR := hρ x x' hx
  split at h
  · rename_i s ha
    rw [ha] at hxR
    have hv : ρc x = .string s := hxR
    cases hb : bnds s.size s.size (lo'.map ρ) (hi'.map ρ) none with
    | none => simp [hb] at h
    | some q =>
      obtain ⟨l, hh, q⟩ := q
      simp only [hb, Option.map_some, Option.some.injEq] at h
      subst h
      rw [run_v]
      obtain ⟨h1, h2, h3, h4, h5⟩ := bnds_R (isSlice := false) (mx := none) (mx' := none) hρ (Nat.le_refl s.size) hlo hhi rfl hb (Nat.le_refl _) K.P w
      have : (Instr.sliceAt T (ρc x) (lo.map ρc) (hi.map ρc) none).run K.P w = .ok (.string (s.extract l hh)) w := by
        rw [hv]
        unfold Instr.sliceAt
        simp only [Sem.run_bind, run_underlying hu, Result.andThen_ok]
        unfold Instr.slice
        simp only [Sem.run_bind, run_underlying hu, Result.andThen_ok]
        rw [if_neg (by simp)]
        have h1' := h1
        simp only [Option.map_none] at h1'
        simp only [Sem.run_bind, h1', Result.andThen_ok, Sem.run_pure]
      rw [this]
      exact Good.val hR (show (V.c (.str _)).R m H.length _ from rfl)
  · cases h

end
end Go.Proofs.Ytnepeleepmhdaaa.AM
