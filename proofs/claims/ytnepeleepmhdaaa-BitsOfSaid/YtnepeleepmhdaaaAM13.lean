/- AM, thirteenth text: every operation. -/
import Derived.Test.YtnepeleepmhdaaaAM12
set_option linter.unusedVariables false
set_option linter.unusedSimpArgs false
namespace Go.Proofs.Ytnepeleepmhdaaa.AM
open Go Go.RowKit

section
variable {K : Ctx} {m : Inj} {base : Nat} {H : Heap} {w : World} {ρ : X → V} {ρc : Operand → Value} {r : AN × Heap}

theorem good_eqagg (hR : Rel K m base H w) (hρ : Ops K m H.length ρ ρc) {op : BinOp} (hop : op = .eql ∨ op = .neq) {T : TypeId} {d : TypeDesc} (hd : K.P.underlying T = some d) (hk : (∃ fs, d = .struct fs) ∨ ∃ a b, d = .array a b) {L : List KK} (hg : K.P.eqGuardType K.P.depth T = false) (hL : leaves K.P 100 T = some L)
    {x y : Operand} {x' y' : X} (hx : cX K.G x = some x') (hy : cX K.G y = some y') (h : aop ρ (.eqagg L (op == .neq) x' y') H = some r) :
    Good K base m H w ((do pure (Next.value (← (do eqGuard op T x y (ρc x) (ρc y); binOp op T (ρc x) (ρc y)))) : Sem Next).run K.P w) r := by
  simp only [aop] at h
  have hxR := hρ x x' hx
  have hyR := hρ y y' hy
  split at h
  · rename_i a b ha hb
    split at h
    · rename_i hlen
      cases hc : eqCs L a b with
      | none => simp [hc] at h
      | some t =>
        simp [hc] at h; subst h
        rw [ha] at hxR
        rw [hb] at hyR
        obtain ⟨X, hX1, hX2⟩ := hxR
        obtain ⟨Y, hY1, hY2⟩ := hyR
        have tv : ∀ {v : Value} {cs : List Cell} {Z : Array Value}, v = .agg Z → RL m H.length cs Z.toList → TV K.P m H.length T v cs := by
          intro v cs Z e hZ
          unfold TV
          rw [hd]
          rcases hk with ⟨fs, rfl⟩ | ⟨p, q, rfl⟩ <;> exact ⟨Z, e, hZ⟩
        have he : (Op.equal T (ρc x) (ρc y)).run K.P w = .ok t w :=
          eq_cells (w := w) 100 Op.maxDepth T L hL (by decide) _ _ a b t (tv hX1 hX2) (tv hY1 hY2) hlen.1 hlen.2 hc
        rw [run_v]
        have hguard : (eqGuard op T x y (ρc x) (ρc y)).run K.P w = .ok () w := by
          rw [hX1, hY1]
          unfold eqGuard
          rcases hop with rfl | rfl <;> simp [hg]
        have hbin : (binOp op T (ρc x) (ρc y)).run K.P w = .ok (.bool (t != (op == .neq))) w := by
          rcases hop with rfl | rfl
          · have e1 : binOp .eql T (ρc x) (ρc y) = (do pure (.bool (← Op.equal T (ρc x) (ρc y)))) := by rw [hX1, hY1]; rfl
            rw [e1]; simp [he] <;> (cases t <;> rfl)
          · have e1 : binOp .neq T (ρc x) (ρc y) = (do pure (.bool (!(← Op.equal T (ρc x) (ρc y))))) := by rw [hX1, hY1]; rfl
            rw [e1]; simp [he] <;> (cases t <;> rfl)
        simp only [Sem.run_bind, hguard, hbin, Result.andThen_ok]
        exact Good.val hR (show (V.c (.bool _)).R m H.length _ from rfl)
    · cases h
  · cases h

theorem bind_some {α β : Type} {o : Option α} {f : α → Option β} {b : β} (h : o.bind f = some b) : ∃ a, o = some a ∧ f a = some b := by
  cases o with
  | none => simp at h
  | some a => exact ⟨a, rfl, by simpa using h⟩
theorem map_some' {α β : Type} {o : Option α} {f : α → β} {b : β} (h : o.map f = some b) : ∃ a, o = some a ∧ f a = b := by
  cases o with
  | none => simp at h
  | some a => exact ⟨a, rfl, by simpa using h⟩

/-- BUILTINS. -/
theorem good_builtin (hR : Rel K m base H w) (hρ : Ops K m H.length ρ ρc) {b : Builtin} {ts : Array TypeId} {args : Array Operand} {ty : TypeId} {cn : Array Bool} {io : IOp} (hc : cBuiltin K.P K.G b ts args.toList = some io) (h : aop ρ io H = some r) :
    Good K base m H w ((builtin b ts ty cn (args.map ρc)).run K.P w) r := by
  unfold cBuiltin at hc
  have one : ∀ {x : Operand}, args.toList = [x] → args.map ρc = #[ρc x] := by
    intro x e
    apply Array.ext'
    simp [e]
  have two : ∀ {x y : Operand}, args.toList = [x, y] → args.map ρc = #[ρc x, ρc y] := by
    intro x y e
    apply Array.ext'
    simp [e]
  split at hc
  · -- len
    rename_i x hargs
    rw [one hargs]
    cases ht : ts[0]? with
    | none => simp [ht] at hc
    | some T =>
      simp only [ht, Option.bind_some] at hc
      cases hu : K.P.underlying T with
      | none => simp [hu] at hc
      | some d =>
        rw [hu] at hc
        cases d with
        | string => obtain ⟨x', hx, rfl⟩ := map_some' hc; exact good_len hR hρ ht hu (.inl ⟨rfl, rfl⟩) hx h
        | slice e => obtain ⟨x', hx, rfl⟩ := map_some' hc; exact good_len hR hρ ht hu (.inr ⟨rfl, _, rfl⟩) hx h
        | array n e =>
          cases hc
          simp only [aop, Option.some.injEq] at h
          subst h
          unfold builtin
          simp only []
          rw [run_v]
          have e0 : (#[ρc x] : Array Value)[0]? = some (ρc x) := rfl
          simp only [Builtin.len_, ht, e0]
          simp only [Sem.run_bind, run_underlying hu, Result.andThen_ok, Sem.run_pure]
          exact Good.val hR (show (V.c (.int _ _)).R m H.length _ from rfl)
        | pointer e =>
          simp only [] at hc
          split at hc
          · rename_i n e' hu'
            cases hc
            simp only [aop, Option.some.injEq] at h
            subst h
            unfold builtin
            simp only []
            rw [run_v]
            have e0 : (#[ρc x] : Array Value)[0]? = some (ρc x) := rfl
            simp only [Builtin.len_, ht, e0]
            simp only [Sem.run_bind, run_underlying hu, Result.andThen_ok, run_underlying hu', Sem.run_pure]
            exact Good.val hR (show (V.c (.int _ _)).R m H.length _ from rfl)
          · cases hc
        | _ => simp at hc
  · -- append
    rename_i s x hargs
    rw [two hargs]
    split at hc
    · rename_i e e2 h1 h2
      obtain ⟨T, hT1, hT2⟩ := bind_some h1
      obtain ⟨T2, hT3, hT4⟩ := bind_some h2
      obtain ⟨s', hs, hc⟩ := bind_some hc
      obtain ⟨x', hx, hc⟩ := bind_some hc
      obtain ⟨i, hi, hc⟩ := bind_some hc
      split at hc
      · rename_i hz
        cases hc
        obtain ⟨z, hz1, hz2⟩ := map_some' hz.1
        exact good_app hR hρ ⟨⟨T, hT1, hT2⟩, hi, hz1, hz2, hz.2, T2, _, hT3, hT4, by simp⟩ hs hx h
      · cases hc
    · rename_i e h1 h2
      obtain ⟨T, hT1, hT2⟩ := bind_some h1
      obtain ⟨T2, hT3, hT4⟩ := bind_some h2
      obtain ⟨s', hs, hc⟩ := bind_some hc
      obtain ⟨x', hx, hc⟩ := bind_some hc
      obtain ⟨i, hi, hc⟩ := bind_some hc
      split at hc
      · rename_i hz
        cases hc
        obtain ⟨z, hz1, hz2⟩ := map_some' hz.1
        exact good_appT hR hρ ⟨⟨T, hT1, hT2⟩, hi, hz1, by rw [hz2, hz.2.1], by rw [hz.2.1]; decide, T2, _, hT3, hT4, by simp⟩ hz.2.1 hz.2.2 hs hx h
      · cases hc
    · cases hc
  · -- copy
    rename_i s x hargs
    rw [two hargs]
    split at hc
    · rename_i e h1
      obtain ⟨T, hT1, hT2⟩ := bind_some h1
      obtain ⟨s', hs, hc⟩ := bind_some hc
      obtain ⟨x', hx, hc⟩ := bind_some hc
      obtain ⟨n, hn, rfl⟩ := map_some' hc
      exact good_cpy hR hρ hT1 hT2 hn hs hx h
    · cases hc
  · -- clear
    rename_i x hargs
    rw [one hargs]
    split at hc
    · rename_i e h1
      obtain ⟨T, hT1, hT2⟩ := bind_some h1
      obtain ⟨x', hx, hc⟩ := bind_some hc
      obtain ⟨z, hz, hc⟩ := bind_some hc
      obtain ⟨zc, hzc, hc⟩ := bind_some hc
      obtain ⟨n, hn, rfl⟩ := map_some' hc
      exact good_clr hR hρ hT1 hT2 hn hz hzc hx h
    · cases hc
  · rename_i x ys hargs
    obtain ⟨x', hx, hc⟩ := bind_some hc
    obtain ⟨ys', hy, rfl⟩ := map_some' hc
    exact good_mx hR hρ hx hy (by simp [hargs]) h
  · rename_i x ys hargs
    obtain ⟨x', hx, hc⟩ := bind_some hc
    obtain ⟨ys', hy, rfl⟩ := map_some' hc
    exact good_mn hR hρ hx hy (by simp [hargs]) h
  · cases hc

end
end Go.Proofs.Ytnepeleepmhdaaa.AM
