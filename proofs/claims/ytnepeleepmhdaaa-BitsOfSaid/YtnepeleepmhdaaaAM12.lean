/- AM, twelfth text: structs and arrays held against each other. -/
import Derived.Test.YtnepeleepmhdaaaAM11
set_option linter.unusedVariables false
set_option linter.unusedSimpArgs false
namespace Go.Proofs.Ytnepeleepmhdaaa.AM
open Go Go.RowKit

theorem eqCs_append : ∀ (L1 L2 : List KK) (x1 x2 y1 y2 : List Cell), x1.length = L1.length → y1.length = L1.length →
    eqCs (L1 ++ L2) (x1 ++ x2) (y1 ++ y2) = (eqCs L1 x1 y1).bind fun b => if b then eqCs L2 x2 y2 else some false := by
  intro L1
  induction L1 with
  | nil => intro L2 x1 x2 y1 y2 h1 h2; simp at h1 h2; subst h1 h2; simp [eqCs]
  | cons k L1 ih =>
    intro L2 x1 x2 y1 y2 h1 h2
    cases x1 with
    | nil => simp at h1
    | cons x x1 =>
      cases y1 with
      | nil => simp at h2
      | cons y y1 =>
        simp at h1 h2
        have ih' := ih L2 x1 x2 y1 y2 h1 h2
        cases k <;> cases x <;> cases y <;> simp only [List.cons_append, eqCs, ih', Option.bind_none] <;> (repeat' split) <;> simp_all

/-- Items held against each other, one behind the other. -/
def eqItems {α : Type} (e : α → Option Bool) : List α → Option Bool
  | [] => some true
  | x :: l => (e x).bind fun b => if b then eqItems e l else some false

theorem forIn_items {α : Type} {P : Program} {w : World} (q : α → Sem Bool) (e : α → Option Bool) : ∀ (l : List α), (∀ x ∈ l, ∀ b, e x = some b → (q x).run P w = .ok b w) → ∀ b, eqItems e l = some b →
    (forIn l ((none, ()) : Option Bool × Unit) (fun x _ => do
      let t ← q x
      if (!t) = true then pure (ForInStep.done (some false, ())) else pure (ForInStep.yield (none, ()))) : Sem (Option Bool × Unit)).run P w = .ok (if b then (none, ()) else (some false, ())) w
  | [], _, b, h => by simp [eqItems] at h; subst h; simp
  | x :: l, hq, b, h => by
    simp only [eqItems] at h
    cases hx : e x with
    | none => simp [hx] at h
    | some t =>
      have h1 := hq x (by simp) t hx
      rw [List.forIn_cons]
      cases t with
      | false =>
        simp [hx] at h; subst h
        simp [h1]
      | true =>
        simp only [hx, Option.bind_some, if_true] at h
        have := forIn_items q e l (fun y hy => hq y (by simp [hy])) b h
        simp only [Sem.run_bind, h1, Result.andThen_ok, Bool.not_true, Bool.false_eq_true, if_false, Sem.run_pure]
        exact this

/-- A value of a type, and its cells. -/
def TV (P : Program) (m : Inj) (n : Nat) (T : TypeId) (x : Value) (cs : List Cell) : Prop :=
  match P.underlying T with
  | some (.struct _) => ∃ X : Array Value, x = .agg X ∧ RL m n cs X.toList
  | some (.array ..) => ∃ X : Array Value, x = .agg X ∧ RL m n cs X.toList
  | _ => ∃ c, cs = [c] ∧ c.R m n x

theorem run_partTV {P : Program} {w : World} {m : Inj} {n : Nat} {T : TypeId} {k : Nat} (hk : szOf P T = some k) {d : TypeDesc} (hd : P.underlying T = some d) (hb : (∀ fs, d ≠ .struct fs) → (∀ a b, d ≠ .array a b) → k = 1) {cs : List Cell} {X : Array Value} (hX : RL m n cs X.toList) {off : Nat} (hl : off + k ≤ cs.length) :
    ∃ x, (part T X off).run P w = .ok x w ∧ TV P m n T x ((cs.drop off).take k) := by
  obtain ⟨i, hi, hik⟩ : ∃ i, P.info? T = some i ∧ i.size = k := by
    unfold szOf at hk
    cases hi : P.info? T with
    | none => simp [hi] at hk
    | some i => simp [hi] at hk; exact ⟨i, rfl, hk⟩
  by_cases h1 : (∃ fs, d = .struct fs) ∨ ∃ a b, d = .array a b
  · have hrd : rdOf P T = some (some k) := by
      unfold rdOf
      rcases h1 with ⟨fs, rfl⟩ | ⟨a, b, rfl⟩ <;> simp [hd, hi, hik]
    obtain ⟨x, h2, h3⟩ := run_part hrd hX (off := off) (x := .agg ((cs.drop off).take k)) (by simp [prd, sub, hl]) w
    refine ⟨x, h2, ?_⟩
    unfold TV
    rw [hd]
    rcases h1 with ⟨fs, rfl⟩ | ⟨a, b, rfl⟩ <;> exact h3
  · have h2 : ∀ fs, d ≠ .struct fs := fun fs e => h1 (.inl ⟨fs, e⟩)
    have h3 : ∀ a b, d ≠ .array a b := fun a b e => h1 (.inr ⟨a, b, e⟩)
    have := hb h2 h3
    subst this
    have hrd : rdOf P T = some none := by
      unfold rdOf
      rw [hd, hi]
      cases d <;> first | rfl | exact absurd rfl (h2 _) | exact absurd rfl (h3 _ _)
    have hlt : off < cs.length := by omega
    obtain ⟨x, h4, h5⟩ := run_part hrd hX (off := off) (x := .c cs[off]) (by simp [prd, hlt]) w
    refine ⟨x, h4, ?_⟩
    unfold TV
    rw [hd]
    have e : (cs.drop off).take 1 = [cs[off]] := by
      rw [List.drop_eq_getElem_cons hlt]; rfl
    cases d <;> first | exact absurd rfl (h2 _) | exact absurd rfl (h3 _ _) | exact ⟨_, e, h5⟩

theorem leaves_one {P : Program} {d : Nat} {T : TypeId} {L : List KK} {D : TypeDesc} (h : leaves P d T = some L) (hD : P.underlying T = some D) (h1 : ∀ fs, D ≠ .struct fs) (h2 : ∀ a b, D ≠ .array a b) : L.length = 1 := by
  cases d with
  | zero => simp [leaves] at h
  | succ d =>
    unfold leaves at h
    rw [hD] at h
    cases D <;> first | exact absurd rfl (h1 _) | exact absurd rfl (h2 _ _) | (simp at h; subst h; rfl) | (simp at h)

theorem eq_cells {P : Program} {w : World} {m : Inj} {n : Nat} : ∀ (d D : Nat) (T : TypeId) (L : List KK), leaves P d T = some L → d ≤ D → ∀ (x y : Value) (cx cy : List Cell) (b : Bool), TV P m n T x cx → TV P m n T y cy → cx.length = L.length → cy.length = L.length → eqCs L cx cy = some b →
    (Op.equalIn D T x y).run P w = .ok b w := by
  intro d
  induction d with
  | zero => intro D T L h; simp [leaves] at h
  | succ d ih =>
    intro D T L h hD x y cx cy b hx hy hlx hly he
    obtain ⟨D, rfl⟩ : ∃ q, D = q + 1 := ⟨D - 1, by omega⟩
    unfold leaves at h
    unfold TV at hx hy
    cases hu : P.underlying T with
    | none => simp [hu] at h
    | some desc =>
      rw [hu] at h hx hy
      -- a part of each, held against the other
      have parts : ∀ {t : TypeId} {l : List KK}, leaves P d t = some l → szOf P t = some l.length → ∀ {X Y : Array Value} {ox oy : List Cell} {off : Nat}, RL m n ox X.toList → RL m n oy Y.toList → off + l.length ≤ ox.length → off + l.length ≤ oy.length → ∀ b, eqCs l ((ox.drop off).take l.length) ((oy.drop off).take l.length) = some b →
          (do let p ← part t X off; let q ← part t Y off; Op.equalIn D t p q : Sem Bool).run P w = .ok b w := by
        intro t l hl hs X Y ox oy off hX hY h1 h2 b hb
        have hdd : ∃ desc, P.underlying t = some desc := by
          cases d with
          | zero => simp [leaves] at hl
          | succ d =>
            unfold leaves at hl
            cases hq : P.underlying t with
            | none => simp [hq] at hl
            | some q => exact ⟨q, rfl⟩
        obtain ⟨desc', hd'⟩ := hdd
        obtain ⟨p, hp1, hp2⟩ := run_partTV (w := w) hs hd' (leaves_one hl hd') hX h1
        obtain ⟨q, hq1, hq2⟩ := run_partTV (w := w) hs hd' (leaves_one hl hd') hY h2
        simp only [Sem.run_bind, hp1, hq1, Result.andThen_ok]
        exact ih D t l hl (by omega) p q _ _ b hp2 hq2 (by simp; omega) (by simp; omega) hb
      rw [Op.equalIn, Sem.run_bind, run_underlying hu, Result.andThen_ok]
      cases desc with
      | int k =>
        simp at h; subst h
        obtain ⟨c, rfl, hc⟩ := hx
        obtain ⟨c', rfl, hc'⟩ := hy
        cases c <;> cases c' <;> simp [eqCs] at he
        cases hc; cases hc'
        obtain ⟨rfl, he⟩ := he
        simp only [if_true, Sem.run_pure, Result.ok.injEq, and_true]
        split at he <;> simp_all
      | bool =>
        simp at h; subst h
        obtain ⟨c, rfl, hc⟩ := hx
        obtain ⟨c', rfl, hc'⟩ := hy
        cases c <;> cases c' <;> simp [eqCs] at he
        cases hc; cases hc'
        simp only [Sem.run_pure, Result.ok.injEq, and_true]
        split at he <;> simp_all
      | string =>
        simp at h; subst h
        obtain ⟨c, rfl, hc⟩ := hx
        obtain ⟨c', rfl, hc'⟩ := hy
        cases c <;> cases c' <;> simp [eqCs] at he
        cases hc; cases hc'
        simp only [Sem.run_pure, Result.ok.injEq, and_true]
        split at he <;> simp_all
      | struct fs =>
        simp only [] at h
        obtain ⟨X, rfl, hX⟩ := hx
        obtain ⟨Y, rfl, hY⟩ := hy
        split at h
        · cases h
        · rename_i hst
          have loop : ∀ (fs : List Field) (off : Nat) (L : List KK), leavesF P (leaves P d) off fs = some L → off + L.length ≤ cx.length → off + L.length ≤ cy.length → ∀ b, eqCs L ((cx.drop off).take L.length) ((cy.drop off).take L.length) = some b →
              (forIn fs ((none, ()) : Option Bool × Unit) (fun f _ => if f.name ≠ "_" then do
                let p ← part f.type X f.offset
                let q ← part f.type Y f.offset
                let t ← Op.equalIn D f.type p q
                if (!t) = true then pure (ForInStep.done (some false, ())) else pure (ForInStep.yield (none, ()))
              else pure (ForInStep.yield (none, ()))) : Sem (Option Bool × Unit)).run P w = .ok (if b then (none, ()) else (some false, ())) w := by
            intro fs
            induction fs with
            | nil => intro off L hL h1 h2 b hb; simp [leavesF] at hL; subst hL; simp [eqCs] at hb; subst hb; simp
            | cons f fs ihf =>
              intro off L hL h1 h2 b hb
              simp only [leavesF] at hL
              split at hL
              · rename_i hf
                obtain ⟨hf1, hf2⟩ := hf
                cases hl : leaves P d f.type with
                | none => simp [hl] at hL
                | some l =>
                  simp only [hl, Option.bind_some] at hL
                  split at hL
                  · rename_i hs
                    cases hr : leavesF P (leaves P d) (off + l.length) fs with
                    | none => simp [hr] at hL
                    | some L' =>
                      simp [hr] at hL; subst hL
                      simp only [List.length_append] at h1 h2 hb
                      have e1 : ∀ z : List Cell, (z.drop off).take (l.length + L'.length) = (z.drop off).take l.length ++ (z.drop (off + l.length)).take L'.length := by
                        intro z; rw [List.take_add, List.drop_drop]
                      rw [e1 cx, e1 cy, eqCs_append l L' _ _ _ _ (by simp; omega) (by simp; omega)] at hb
                      cases hq : eqCs l ((cx.drop off).take l.length) ((cy.drop off).take l.length) with
                      | none => simp [hq] at hb
                      | some t =>
                        have hp := parts hl hs hX hY (off := off) (by omega) (by omega) t hq
                        simp only [Sem.run_bind] at hp
                        rw [List.forIn_cons]
                        simp only [hf1, ne_eq, not_false_eq_true, if_true, Sem.run_bind, hf2]
                        have hp' : ((part f.type X off).run P w).andThen (fun a w' => ((part f.type Y off).run P w').andThen fun a_1 w' => ((Op.equalIn D f.type a a_1).run P w').andThen fun a w' => (if (!a) = true then pure (ForInStep.done (some false, ())) else pure (ForInStep.yield (none, ())) : Sem (ForInStep (Option Bool × Unit))).run P w') =
                            (if (!t) = true then pure (ForInStep.done (some false, ())) else pure (ForInStep.yield (none, ())) : Sem (ForInStep (Option Bool × Unit))).run P w := by
                          cases h3 : (part f.type X off).run P w with
                          | halt q w1 => rw [h3] at hp; simp at hp
                          | ok p w1 =>
                            rw [h3] at hp
                            simp only [Result.andThen_ok] at hp ⊢
                            cases h4 : (part f.type Y off).run P w1 with
                            | halt q w2 => rw [h4] at hp; simp at hp
                            | ok q w2 =>
                              rw [h4] at hp
                              simp only [Result.andThen_ok] at hp ⊢
                              rw [hp]
                              rfl
                        rw [hp']
                        cases t with
                        | false =>
                          simp [hq] at hb; subst hb
                          simp
                        | true =>
                          simp only [hq, Option.bind_some, if_true] at hb
                          have := ihf (off + l.length) L' hr (by omega) (by omega) b hb
                          simp only [Bool.not_true, Bool.false_eq_true, if_false, Sem.run_pure, Result.andThen_ok]
                          exact this
                  · cases hL
              · cases hL
          have := loop fs.toList 0 L h (by omega) (by omega) b (by rw [List.drop_zero, List.drop_zero, List.take_of_length_le (by omega), List.take_of_length_le (by omega)]; exact he)
          simp only [Sem.run_bind, run_program, Result.andThen_ok, hst, if_false, Bool.false_eq_true]
          rw [← Array.forIn_toList, this]
          cases b <;> rfl
      | array k e =>
        simp only [] at h
        obtain ⟨X, rfl, hX⟩ := hx
        obtain ⟨Y, rfl, hY⟩ := hy
        cases hl : leaves P d e with
        | none => simp [hl] at h
        | some l =>
          simp only [hl, Option.bind_some] at h
          split at h
          · rename_i hs
            cases h
            have hlen : (List.replicate k l).flatten.length = k * l.length := by simp
            have loop : ∀ (q s : Nat), s + q ≤ k → ∀ b, eqCs (List.replicate q l).flatten ((cx.drop (s * l.length)).take (q * l.length)) ((cy.drop (s * l.length)).take (q * l.length)) = some b →
                (forIn (List.range' s q) ((none, ()) : Option Bool × Unit) (fun i _ => do
                  let p ← part e X (i * l.length)
                  let q ← part e Y (i * l.length)
                  let t ← Op.equalIn D e p q
                  if (!t) = true then pure (ForInStep.done (some false, ())) else pure (ForInStep.yield (none, ()))) : Sem (Option Bool × Unit)).run P w = .ok (if b then (none, ()) else (some false, ())) w := by
              intro q
              induction q with
              | zero => intro s _ b hb; simp [eqCs] at hb; subst hb; simp
              | succ q ihq =>
                intro s hsk b hb
                have hkl : (s + (q + 1)) * l.length ≤ k * l.length := Nat.mul_le_mul_right _ hsk
                rw [Nat.add_mul, Nat.add_mul, Nat.one_mul] at hkl
                have e0 : (List.replicate (q + 1) l).flatten = l ++ (List.replicate q l).flatten := by simp [List.replicate_succ]
                have e1 : ∀ z : List Cell, (z.drop (s * l.length)).take ((q + 1) * l.length) = (z.drop (s * l.length)).take l.length ++ (z.drop ((s + 1) * l.length)).take (q * l.length) := by
                  intro z
                  rw [show (q + 1) * l.length = l.length + q * l.length by rw [Nat.add_mul]; omega, List.take_add, List.drop_drop]
                  congr 3
                  rw [Nat.add_mul]; omega
                rw [e0, e1 cx, e1 cy, eqCs_append l _ _ _ _ _ (by simp; omega) (by simp; omega)] at hb
                cases hq : eqCs l ((cx.drop (s * l.length)).take l.length) ((cy.drop (s * l.length)).take l.length) with
                | none => simp [hq] at hb
                | some t =>
                  have hp := parts hl hs hX hY (off := s * l.length) (by omega) (by omega) t hq
                  simp only [Sem.run_bind] at hp
                  rw [List.range'_succ, List.forIn_cons]
                  simp only [Sem.run_bind]
                  have hp' : ((part e X (s * l.length)).run P w).andThen (fun a w' => ((part e Y (s * l.length)).run P w').andThen fun a_1 w' => ((Op.equalIn D e a a_1).run P w').andThen fun a w' => (if (!a) = true then pure (ForInStep.done (some false, ())) else pure (ForInStep.yield (none, ())) : Sem (ForInStep (Option Bool × Unit))).run P w') =
                      (if (!t) = true then pure (ForInStep.done (some false, ())) else pure (ForInStep.yield (none, ())) : Sem (ForInStep (Option Bool × Unit))).run P w := by
                    cases h3 : (part e X (s * l.length)).run P w with
                    | halt q w1 => rw [h3] at hp; simp at hp
                    | ok p w1 =>
                      rw [h3] at hp
                      simp only [Result.andThen_ok] at hp ⊢
                      cases h4 : (part e Y (s * l.length)).run P w1 with
                      | halt q w2 => rw [h4] at hp; simp at hp
                      | ok q w2 =>
                        rw [h4] at hp
                        simp only [Result.andThen_ok] at hp ⊢
                        rw [hp]
                        rfl
                  rw [hp']
                  cases t with
                  | false =>
                    simp [hq] at hb; subst hb
                    simp
                  | true =>
                    simp only [hq, Option.bind_some, if_true] at hb
                    have := ihq (s + 1) (by omega) b hb
                    simp only [Bool.not_true, Bool.false_eq_true, if_false, Sem.run_pure, Result.andThen_ok]
                    exact this
            have := loop k 0 (by omega) b (by
              rw [hlen] at hlx hly
              rw [Nat.zero_mul, List.drop_zero, List.drop_zero, List.take_of_length_le (by omega), List.take_of_length_le (by omega)]
              exact he)
            simp only [Sem.run_bind, run_szOf hs, Result.andThen_ok]
            rw [Std.Legacy.Range.forIn_eq_forIn_range']
            simp only [Std.Legacy.Range.size, Nat.sub_zero, Nat.add_sub_cancel, Nat.div_one]
            rw [this]
            cases b <;> rfl
          · cases h
      | _ => simp at h

end Go.Proofs.Ytnepeleepmhdaaa.AM
