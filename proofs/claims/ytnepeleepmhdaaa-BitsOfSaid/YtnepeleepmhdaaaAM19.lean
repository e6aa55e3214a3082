/- AM, nineteenth text: more fuel, the same answer; what code comes to, as a predicate; one rule for each form of code. -/
import Derived.Test.YtnepeleepmhdaaaAM18
set_option linter.unusedVariables false
set_option linter.unusedSimpArgs false
namespace Go.Proofs.Ytnepeleepmhdaaa.AM
open Go

/-- What the one answers, the other answers. -/
def Rec.le (r r' : Rec) : Prop := ∀ rd c s q, r rd c s = some q → r' rd c s = some q

section
variable {F : FuncId → Option Fun} {r r' : Rec}

theorem callR_le (h : Rec.le r r') {f : FuncId} {args : List V} {H : Heap} {q : V × Heap} (e : callR F r f args H = some q) : callR F r' f args H = some q := by
  unfold callR at e ⊢
  split at e
  · obtain ⟨x, hx, e⟩ := Option.bind_eq_some_iff.1 e
    rw [h _ _ _ _ hx]; exact e
  · exact e
  · cases e
theorem roundR_le (h : Rec.le r r') {l : Nat} {args : List V} {H : Heap} {q : V × Heap} (e : roundR r l args H = some q) : roundR r' l args H = some q := by
  unfold roundR at e ⊢
  split at e
  · split at e
    · rename_i hp
      rw [if_pos hp]
      obtain ⟨x, hx, e⟩ := Option.bind_eq_some_iff.1 e
      rw [h _ _ _ _ hx, Option.bind_some]
      split at e
      · obtain ⟨y, hy, e⟩ := Option.bind_eq_some_iff.1 e
        rw [h _ _ _ _ hy]; exact e
      · cases e
    · cases e
  · cases e
theorem opsR_le (h : Rec.le r r') {l : List IOper} : ∀ {t : List V} {H : Heap} {q : List V × Heap}, opsR F r l t H = some q → opsR F r' l t H = some q := by
  induction l with
  | nil => intro t H q e; exact e
  | cons o l ih =>
    intro t H q e
    unfold opsR at e ⊢
    split at e
    · rename_i hw
      rw [if_pos hw]
      obtain ⟨x, hx, e⟩ := Option.bind_eq_some_iff.1 e
      rw [hx, Option.bind_some]
      split at e
      · exact ih e
      · obtain ⟨y, hy, e⟩ := Option.bind_eq_some_iff.1 e
        rw [callR_le h hy]; exact ih e
      · obtain ⟨y, hy, e⟩ := Option.bind_eq_some_iff.1 e
        rw [roundR_le h hy]; exact ih e
    · rename_i hw
      rw [if_neg hw]; exact ih e
theorem runRange_le (h : Rec.le r r') {rd : Option Nat} {f : X} {t : List V} {ds : List Nat} {l : Nat} {H : Heap} {q : Ex × St} (e : stepR.runRange F r rd f t ds l H = some q) : stepR.runRange F r' rd f t ds l H = some q := by
  unfold stepR.runRange at e ⊢
  split at e
  · obtain ⟨x, hx, e⟩ := Option.bind_eq_some_iff.1 e
    rw [callR_le h hx, Option.bind_some]
    split at e
    · cases e
    · split at e
      · exact e
      · exact h _ _ _ _ e
    · cases e
  · cases e
theorem stepR_le (h : Rec.le r r') : Rec.le (stepR F r) (stepR F r') := by
  intro rd c s q e
  cases c with
  | skip => exact e
  | ops l =>
    simp only [stepR] at e ⊢
    obtain ⟨x, hx, e⟩ := Option.map_eq_some_iff.1 e
    rw [opsR_le h hx, Option.map_some, e]
  | seq x y =>
    simp only [stepR] at e ⊢
    obtain ⟨z, hz, e⟩ := Option.bind_eq_some_iff.1 e
    rw [h _ _ _ _ hz, Option.bind_some]
    split at e
    · exact h _ _ _ _ e
    · exact e
  | cond c x y =>
    simp only [stepR] at e ⊢
    split at e
    · exact h _ _ _ _ e
    · cases e
  | block id b =>
    simp only [stepR] at e ⊢
    obtain ⟨x, hx, e⟩ := Option.map_eq_some_iff.1 e
    rw [h _ _ _ _ hx, Option.map_some, e]
  | loop b =>
    simp only [stepR] at e ⊢
    obtain ⟨z, hz, e⟩ := Option.bind_eq_some_iff.1 e
    rw [h _ _ _ _ hz, Option.bind_some]
    split at e
    · exact h _ _ _ _ e
    · exact e
  | rangeF f ps assign body =>
    simp only [stepR] at e ⊢
    split at e
    · exact runRange_le h e
    · split at e
      · exact runRange_le h e
      · cases e
  | exit id => exact e
  | ret => exact e
  | bad => exact e
end

section
variable {F : FuncId → Option Fun}
theorem run_succ_le : ∀ k, Rec.le (run F k) (run F (k + 1))
  | 0 => fun _ _ _ _ e => by simp [run] at e
  | k + 1 => stepR_le (run_succ_le k)
theorem run_le {k k' : Nat} (h : k ≤ k') : Rec.le (run F k) (run F k') := by
  induction h with
  | refl => exact fun _ _ _ _ e => e
  | step _ ih => exact fun rd c s q e => run_succ_le _ _ _ _ _ (ih rd c s q e)

/-- CODE COMES TO. -/
def W (F : FuncId → Option Fun) (rd : Option Nat) (c : IC) (s : St) (Q : Ex → St → Prop) : Prop := ∃ k e s', run F k rd c s = some (e, s') ∧ Q e s'
/-- A CALL COMES TO. -/
def WC (F : FuncId → Option Fun) (f : FuncId) (args : List V) (H : Heap) (Q : V → Heap → Prop) : Prop := ∃ k v H', callR F (run F k) f args H = some (v, H') ∧ Q v H'
/-- A ROUND COMES TO. -/
def WR (F : FuncId → Option Fun) (l : Nat) (args : List V) (H : Heap) (Q : V → Heap → Prop) : Prop := ∃ k v H', roundR (run F k) l args H = some (v, H') ∧ Q v H'
/-- OPERATIONS COME TO. -/
def WO (F : FuncId → Option Fun) (l : List IOper) (t : List V) (H : Heap) (Q : List V → Heap → Prop) : Prop := ∃ k t' H', opsR F (run F k) l t H = some (t', H') ∧ Q t' H'

theorem W.mono {rd : Option Nat} {c : IC} {s : St} {Q Q' : Ex → St → Prop} (h : W F rd c s Q) (i : ∀ e s', Q e s' → Q' e s') : W F rd c s Q' := by
  obtain ⟨k, e, s', h1, h2⟩ := h; exact ⟨k, e, s', h1, i _ _ h2⟩
theorem WC.mono {f : FuncId} {args : List V} {H : Heap} {Q Q' : V → Heap → Prop} (h : WC F f args H Q) (i : ∀ v H', Q v H' → Q' v H') : WC F f args H Q' := by
  obtain ⟨k, e, s', h1, h2⟩ := h; exact ⟨k, e, s', h1, i _ _ h2⟩
theorem WR.mono {f : Nat} {args : List V} {H : Heap} {Q Q' : V → Heap → Prop} (h : WR F f args H Q) (i : ∀ v H', Q v H' → Q' v H') : WR F f args H Q' := by
  obtain ⟨k, e, s', h1, h2⟩ := h; exact ⟨k, e, s', h1, i _ _ h2⟩
theorem WO.mono {l : List IOper} {t : List V} {H : Heap} {Q Q' : List V → Heap → Prop} (h : WO F l t H Q) (i : ∀ v H', Q v H' → Q' v H') : WO F l t H Q' := by
  obtain ⟨k, e, s', h1, h2⟩ := h; exact ⟨k, e, s', h1, i _ _ h2⟩

variable {rd : Option Nat} {s : St} {Q : Ex → St → Prop}
theorem W_skip (h : Q .normal s) : W F rd .skip s Q := ⟨1, _, _, rfl, h⟩
theorem W_exit {id : Nat} (h : Q (.exit id) s) : W F rd (.exit id) s Q := ⟨1, _, _, rfl, h⟩
theorem W_ret (h : Q .ret s) : W F rd .ret s Q := ⟨1, _, _, rfl, h⟩
theorem W_ops {l : List IOper} {t : List V} {ds : List Nat} {H : Heap} (h : WO F l t H fun t' H' => Q .normal ⟨t', ds, H'⟩) : W F rd (.ops l) ⟨t, ds, H⟩ Q := by
  obtain ⟨k, t', H', h1, h2⟩ := h
  exact ⟨k + 1, _, _, by simp only [run, stepR, h1, Option.map_some], h2⟩
/-- Behind the one, the other. -/
def thenQ (F : FuncId → Option Fun) (rd : Option Nat) (y : IC) (Q : Ex → St → Prop) : Ex → St → Prop
  | .normal, s => W F rd y s Q
  | e, s => Q e s
theorem W_seq {x y : IC} (h : W F rd x s (thenQ F rd y Q)) : W F rd (.seq x y) s Q := by
  obtain ⟨k, e, s', h1, h2⟩ := h
  cases e with
  | normal =>
    obtain ⟨k', e', s'', h3, h4⟩ := h2
    refine ⟨max k k' + 1, e', s'', ?_, h4⟩
    simp only [run, stepR, run_le (Nat.le_max_left k k') _ _ _ _ h1, Option.bind_some]
    exact run_le (Nat.le_max_right k k') _ _ _ _ h3
  | exit id => exact ⟨k + 1, _, _, by simp only [run, stepR, h1, Option.bind_some], h2⟩
  | ret => exact ⟨k + 1, _, _, by simp only [run, stepR, h1, Option.bind_some], h2⟩
theorem W_seq_ops {l : List IOper} {y : IC} {t : List V} {ds : List Nat} {H : Heap} (h : WO F l t H fun t' H' => W F rd y ⟨t', ds, H'⟩ Q) : W F rd (.seq (.ops l) y) ⟨t, ds, H⟩ Q := W_seq (W_ops h)
theorem W_seq_assoc {x y z : IC} (h : W F rd (.seq x (.seq y z)) s Q) : W F rd (.seq (.seq x y) z) s Q := by
  obtain ⟨k, e, s', h1, h2⟩ := h
  cases k with
  | zero => simp [run] at h1
  | succ k =>
    simp only [run, stepR] at h1
    obtain ⟨⟨e1, s1⟩, hx, h1⟩ := Option.bind_eq_some_iff.1 h1
    apply W_seq
    apply W_seq
    refine ⟨k, e1, s1, hx, ?_⟩
    cases e1 with
    | normal =>
      simp only [thenQ] at h1 ⊢
      cases k with
      | zero => simp [run] at h1
      | succ k =>
        simp only [run, stepR] at h1
        obtain ⟨⟨e2, s2⟩, hy, h1⟩ := Option.bind_eq_some_iff.1 h1
        refine ⟨k, e2, s2, hy, ?_⟩
        cases e2 with
        | normal => exact ⟨k, e, s', h1, h2⟩
        | exit id => simp only [Option.some.injEq, Prod.mk.injEq] at h1; obtain ⟨rfl, rfl⟩ := h1; exact h2
        | ret => simp only [Option.some.injEq, Prod.mk.injEq] at h1; obtain ⟨rfl, rfl⟩ := h1; exact h2
    | exit id => simp only [Option.some.injEq, Prod.mk.injEq] at h1; obtain ⟨rfl, rfl⟩ := h1; exact h2
    | ret => simp only [Option.some.injEq, Prod.mk.injEq] at h1; obtain ⟨rfl, rfl⟩ := h1; exact h2
theorem W_cond {c : X} {x y : IC} (b : Bool) (hb : c.ev s.t = .c (.bool b)) (h1 : b = true → W F rd x s Q) (h2 : b = false → W F rd y s Q) : W F rd (.cond c x y) s Q := by
  cases b with
  | true => obtain ⟨k, e, s', h3, h4⟩ := h1 rfl; exact ⟨k + 1, e, s', by simp only [run, stepR, hb, if_true]; exact h3, h4⟩
  | false => obtain ⟨k, e, s', h3, h4⟩ := h2 rfl; exact ⟨k + 1, e, s', by simp only [run, stepR, hb]; exact h3, h4⟩
theorem W_seq_skip {y : IC} (h : W F rd y s Q) : W F rd (.seq .skip y) s Q := W_seq (W_skip h)
theorem W_seq_ret {y : IC} (h : Q .ret s) : W F rd (.seq .ret y) s Q := W_seq (W_ret h)
theorem W_seq_exit {y : IC} {id : Nat} (h : Q (.exit id) s) : W F rd (.seq (.exit id) y) s Q := W_seq (W_exit h)
theorem W_seq_cond {c : X} {x y z : IC} (b : Bool) (hb : c.ev s.t = .c (.bool b)) (h1 : b = true → W F rd (.seq x z) s Q) (h2 : b = false → W F rd (.seq y z) s Q) : W F rd (.seq (.cond c x y) z) s Q := by
  cases b with
  | true =>
    apply W_seq
    apply W_cond true hb
    · intro _
      obtain ⟨k, e, s', h3, h4⟩ := h1 rfl
      cases k with
      | zero => simp [run] at h3
      | succ k =>
        simp only [run, stepR] at h3
        obtain ⟨⟨e1, s1⟩, hx, h3⟩ := Option.bind_eq_some_iff.1 h3
        refine ⟨k, e1, s1, hx, ?_⟩
        cases e1 with
        | normal => exact ⟨k, e, s', h3, h4⟩
        | exit id => simp only [Option.some.injEq, Prod.mk.injEq] at h3; obtain ⟨rfl, rfl⟩ := h3; exact h4
        | ret => simp only [Option.some.injEq, Prod.mk.injEq] at h3; obtain ⟨rfl, rfl⟩ := h3; exact h4
    · intro h; cases h
  | false =>
    apply W_seq
    apply W_cond false hb
    · intro h; cases h
    · intro _
      obtain ⟨k, e, s', h3, h4⟩ := h2 rfl
      cases k with
      | zero => simp [run] at h3
      | succ k =>
        simp only [run, stepR] at h3
        obtain ⟨⟨e1, s1⟩, hx, h3⟩ := Option.bind_eq_some_iff.1 h3
        refine ⟨k, e1, s1, hx, ?_⟩
        cases e1 with
        | normal => exact ⟨k, e, s', h3, h4⟩
        | exit id => simp only [Option.some.injEq, Prod.mk.injEq] at h3; obtain ⟨rfl, rfl⟩ := h3; exact h4
        | ret => simp only [Option.some.injEq, Prod.mk.injEq] at h3; obtain ⟨rfl, rfl⟩ := h3; exact h4
/-- What a block makes of an exit. -/
def blockQ (id : Nat) (Q : Ex → St → Prop) : Ex → St → Prop := fun e s => Q (if e = .exit id then .normal else e) s
theorem W_block {id : Nat} {b : IC} (h : W F rd b s (blockQ id Q)) : W F rd (.block id b) s Q := by
  obtain ⟨k, e, s', h1, h2⟩ := h
  exact ⟨k + 1, _, _, by simp only [run, stepR, h1, Option.map_some], h2⟩
/-- What a loop makes of a turn. -/
def loopQ (J : Nat → St → Prop) (n : Nat) (Q : Ex → St → Prop) : Ex → St → Prop
  | .normal, s => ∃ n', n' < n ∧ J n' s
  | e, s => Q e s
theorem W_loop {b : IC} (J : Nat → St → Prop) (n : Nat) (h0 : J n s) (step : ∀ n s, J n s → W F rd b s (loopQ J n Q)) : W F rd (.loop b) s Q := by
  induction n using Nat.strongRecOn generalizing s with
  | _ n ih =>
    obtain ⟨k, e, s', h1, h2⟩ := step n s h0
    cases e with
    | normal =>
      obtain ⟨n', hn, hj⟩ := h2
      obtain ⟨k', e', s'', h3, h4⟩ := ih n' hn hj
      refine ⟨max k k' + 1, e', s'', ?_, h4⟩
      simp only [run, stepR, run_le (Nat.le_max_left k k') _ _ _ _ h1, Option.bind_some]
      exact run_le (Nat.le_max_right k k') _ _ _ _ h3
    | exit id => exact ⟨k + 1, _, _, by simp only [run, stepR, h1, Option.bind_some], h2⟩
    | ret => exact ⟨k + 1, _, _, by simp only [run, stepR, h1, Option.bind_some], h2⟩

/-! ### Slots, as a function -/
abbrev Env := Nat → V
def L (n : Nat) (ρ : Env) : List V := (List.range n).map ρ
def Env.up (ρ : Env) (d : Nat) (v : V) : Env := fun i => if i = d then v else ρ i
def Env.of (l : List V) : Env := fun i => (l[i]?).getD .undef
theorem Env.up_same (ρ : Env) (d : Nat) (v : V) : ρ.up d v d = v := by simp [Env.up]
theorem Env.up_ne (ρ : Env) {d i : Nat} (v : V) (h : (i == d) = false) : ρ.up d v i = ρ i := by simp at h; simp [Env.up, h]
theorem L_length (n : Nat) (ρ : Env) : (L n ρ).length = n := by simp [L]
theorem L_get? (n : Nat) (ρ : Env) (i : Nat) : (L n ρ)[i]? = if i < n then some (ρ i) else none := by
  unfold L
  rw [List.getElem?_map]
  by_cases h : i < n
  · rw [if_pos h, List.getElem?_range h]; rfl
  · rw [if_neg h, List.getElem?_eq_none (by simpa using h)]; rfl
theorem L_set (n : Nat) (ρ : Env) (d : Nat) (v : V) : (L n ρ).set d v = L n (ρ.up d v) := by
  apply List.ext_getElem?
  intro i
  rw [List.getElem?_set, L_length, L_get?, L_get?]
  unfold Env.up
  by_cases h : d = i
  · subst h
    by_cases hn : d < n <;> simp [hn]
  · have : ¬ i = d := fun e => h e.symm
    simp [h, this]
theorem L_get (n : Nat) (ρ : Env) {i : Nat} (h : i < n) : (L n ρ)[i]? = some (ρ i) := by
  rw [L_get?, if_pos h]
theorem L_ev (n : Nat) (ρ : Env) {i : Nat} (h : i < n) : (X.t i).ev (L n ρ) = ρ i := by simp [X.ev, L_get n ρ h]
theorem k_ev (t : List V) (v : V) : (X.k v).ev t = v := rfl
theorem L_of (l : List V) : L l.length (Env.of l) = l := by
  apply List.ext_getElem?
  intro i
  rw [L_get?]
  by_cases h : i < l.length
  · rw [if_pos h]; simp [Env.of, h]
  · rw [if_neg h, List.getElem?_eq_none (by omega)]

/-! ### Operations -/
theorem WO_nil {t : List V} {H : Heap} {Q : List V → Heap → Prop} (h : Q t H) : WO F [] t H Q := ⟨0, t, H, rfl, h⟩
/-- What an operation is to come to. -/
def outQ (F : FuncId → Option Fun) (o : AN × Heap) (Q : V → Heap → Prop) : Prop :=
  match o with
  | (.v x, H) => Q x H
  | (.call f args, H) => WC F f args H Q
  | (.yld l args, H) => WR F l args H Q
theorem WO_cons {d : Option Nat} {op : IOp} {r : List IOper} {t : List V} {H : Heap} {Q : List V → Heap → Prop} (o : AN × Heap) (ho : aop (X.ev t) op H = some o)
    (h : outQ F o fun v H' => WO F r (putT t d v) H' Q) : WO F (⟨d, op, none⟩ :: r) t H Q := by
  obtain ⟨an, H1⟩ := o
  cases an with
  | v x =>
    obtain ⟨k, t', H', h1, h2⟩ := h
    exact ⟨k, t', H', by simp only [opsR, wanted, if_true, ho, Option.bind_some, h1], h2⟩
  | call f args =>
    obtain ⟨k, v, H2, hc, k', t', H', h1, h2⟩ := h
    refine ⟨max k k', t', H', ?_, h2⟩
    simp only [opsR, wanted, if_true, ho, Option.bind_some, callR_le (run_le (Nat.le_max_left k k')) hc]
    exact opsR_le (run_le (Nat.le_max_right k k')) h1
  | yld f args =>
    obtain ⟨k, v, H2, hc, k', t', H', h1, h2⟩ := h
    refine ⟨max k k', t', H', ?_, h2⟩
    simp only [opsR, wanted, if_true, ho, Option.bind_some, roundR_le (run_le (Nat.le_max_left k k')) hc]
    exact opsR_le (run_le (Nat.le_max_right k k')) h1
theorem WO_guard {d : Option Nat} {op : IOp} {j : Nat} {b : Bool} {r : List IOper} {t : List V} {H : Heap} {Q : List V → Heap → Prop} (c : Bool) (hc : t[j]? = some (.c (.bool c)))
    (h1 : c = b → WO F (⟨d, op, none⟩ :: r) t H Q) (h2 : c = (!b) → WO F r (putT t d .undef) H Q) : WO F (⟨d, op, some (j, b)⟩ :: r) t H Q := by
  by_cases hb : c = b
  · obtain ⟨k, t', H', h3, h4⟩ := h1 hb
    exact ⟨k, t', H', by simpa [opsR, wanted, hc, hb] using h3, h4⟩
  · obtain ⟨k, t', H', h3, h4⟩ := h2 (by cases c <;> cases b <;> simp_all)
    exact ⟨k, t', H', by simpa [opsR, wanted, hc, hb] using h3, h4⟩

/-! ### Calls and rounds -/
theorem WC_ext {f : FuncId} {g : List V → Heap → Option (V × Heap)} (hf : F f = some (.ext g)) {args : List V} {H : Heap} {Q : V → Heap → Prop} {v : V} {H' : Heap} (h : g args H = some (v, H')) (hq : Q v H') : WC F f args H Q :=
  ⟨0, v, H', by simp only [callR, hf, h], hq⟩
/-- What a function's code makes of an end. -/
def callQ (res : List (Nat × Option (Option Nat))) (Q : V → Heap → Prop) : Ex → St → Prop
  | .exit _, _ => False
  | _, s => ∃ H', shutAll s.ds s.H = some H' ∧ ∃ v, resOf s.t H' res = some v ∧ Q v H'
theorem WC_code {f : FuncId} {fn : IFn} (hf : F f = some (.code fn)) {args : List V} {H : Heap} {Q : V → Heap → Prop}
    (h : W F none fn.body ⟨args ++ List.replicate (fn.ntmps - args.length) .undef, [], H⟩ (callQ fn.res Q)) : WC F f args H Q := by
  obtain ⟨k, e, s', h1, h2⟩ := h
  cases e with
  | exit id => exact absurd h2 (by simp [callQ])
  | normal => obtain ⟨H', h3, v, h4, h5⟩ := h2; exact ⟨k, v, H', by simp only [callR, hf, h1, Option.bind_some, h3, h4, Option.map_some], h5⟩
  | ret => obtain ⟨H', h3, v, h4, h5⟩ := h2; exact ⟨k, v, H', by simp only [callR, hf, h1, Option.bind_some, h3, h4, Option.map_some], h5⟩
theorem L_start (args : List V) (n : Nat) (h : args.length ≤ n) : args ++ List.replicate (n - args.length) .undef = L n (Env.of args) := by
  have e : (args ++ List.replicate (n - args.length) V.undef).length = n := by simp; omega
  rw [← L_of (args ++ List.replicate (n - args.length) V.undef), e]
  unfold L
  apply List.map_congr_left
  intro i hi
  simp only [Env.of]
  by_cases h' : i < args.length
  · rw [List.getElem?_append_left h']
  · rw [List.getElem?_append_right (by omega), List.getElem?_eq_none (l := args) (by omega)]
    cases hr : (List.replicate (n - args.length) V.undef)[i - args.length]? with
    | none => rfl
    | some v => obtain ⟨_, hv⟩ := List.getElem?_eq_some_iff.1 hr; simp at hv; simp [← hv]
theorem WC_start {f : FuncId} {n : Nat} {b : IC} {res : List (Nat × Option (Option Nat))} (hf : F f = some (.code ⟨n, b, res⟩)) {args : List V} {H : Heap} {Q : V → Heap → Prop} (hl : args.length ≤ n)
    (h : W F none b ⟨L n (Env.of args), [], H⟩ (callQ res Q)) : WC F f args H Q := WC_code hf (by rw [L_start _ _ hl]; exact h)
/-- What a round makes of the body's end. -/
def roundQ (l : Nat) (Q : V → Heap → Prop) : Ex → St → Prop := fun e s =>
  ∃ pd r, s.H[l]? = some (.loop .busy pd r) ∧
    match e with
    | .normal => Q (.c (.bool true)) (s.H.set l (.loop .ready none r))
    | e => Q (.c (.bool false)) (s.H.set l (.loop .done (some e) r))
theorem WR_round {l : Nat} {args : List V} {H : Heap} {Q : V → Heap → Prop} {pd : Option Ex} {r : LRec} (hl : H[l]? = some (.loop .ready pd r)) (hn : args.length = r.ps.length)
    (h : W F (some l) r.assign ⟨(r.ps.zip args).foldl (fun t p => t.set p.1 p.2) r.t, [], H⟩ fun e s => e = .normal ∧ ∃ pd r₁, s.H[l]? = some (.loop .ready pd r₁) ∧ W F (some l) r.body ⟨s.t, s.ds, s.H.set l (.loop .busy pd r₁)⟩ (roundQ l Q)) : WR F l args H Q := by
  obtain ⟨k, e, s, h1, rfl, pd1, r1, h2, k', e', s', h3, pd2, r2, h4, h5⟩ := h
  have key : ∀ v H', (match e' with
      | .normal => some (V.c (.bool true), s'.H.set l (.loop .ready none r2))
      | e => some (.c (.bool false), s'.H.set l (.loop .done (some e) r2))) = some (v, H') → roundR (run F (max k k')) l args H = some (v, H') := by
    intro v H' he
    simp only [roundR, hl, hn, if_true, run_le (Nat.le_max_left k k') _ _ _ _ h1, Option.bind_some, h2, run_le (Nat.le_max_right k k') _ _ _ _ h3, h4]
    exact he
  cases e' with
  | normal => exact ⟨_, _, _, key _ _ rfl, h5⟩
  | exit id => exact ⟨_, _, _, key _ _ rfl, h5⟩
  | ret => exact ⟨_, _, _, key _ _ rfl, h5⟩
/-- What a loop over a function makes of the call's end. -/
def rangeQ (F : FuncId → Option Fun) (rd : Option Nat) (t : List V) (ds : List Nat) (l : Nat) (Q : Ex → St → Prop) : V → Heap → Prop := fun _ H =>
  ∃ st pd r, H[l]? = some (.loop st pd r) ∧ st ≠ .busy ∧ Q (pd.getD .normal) ⟨t, ds, H.set l (.loop .exhausted pd r)⟩
theorem runRange_W {f : X} {t : List V} {ds : List Nat} {l : Nat} {H : Heap} {g : FuncId} {first caps : List Ad} (hf : f.ev t = .c (.fn g first caps))
    (h : WC F g (first.map pV ++ [V.c (.yld l)] ++ caps.map pV) H (rangeQ F rd t ds l Q)) : ∃ k e s', stepR.runRange F (run F k) rd f t ds l H = some (e, s') ∧ Q e s' := by
  obtain ⟨k, v, H', h1, st, pd, r, h2, h3, h4⟩ := h
  refine ⟨k + 1, pd.getD .normal, _, ?_, h4⟩
  simp only [stepR.runRange, hf, callR_le (run_succ_le k) h1, Option.bind_some, h2]
  cases st with
  | busy => exact absurd rfl h3
  | _ => cases pd with
    | none => rfl
    | some e => cases e <;> rfl
theorem W_rangeF {f : X} {ps : List Nat} {assign body : IC} {t : List V} {ds : List Nat} {H : Heap} {g : FuncId} {first caps : List Ad} (hf : f.ev t = .c (.fn g first caps))
    (h : WC F g (first.map pV ++ [V.c (.yld (H.length + 1))] ++ caps.map pV) (H ++ [.defd, .loop .ready none ⟨t, ps, assign, body, H.length⟩]) (rangeQ F none t (H.length :: ds) (H.length + 1) Q)) :
    W F none (.rangeF f ps assign body) ⟨t, ds, H⟩ Q := by
  obtain ⟨k, e, s', h1, h2⟩ := runRange_W (rd := none) hf h
  exact ⟨k + 1, e, s', by simp only [run, stepR]; exact h1, h2⟩
theorem W_rangeF_in {l₀ : Nat} {f : X} {ps : List Nat} {assign body : IC} {t : List V} {ds : List Nat} {H : Heap} {g : FuncId} {first caps : List Ad} {st₀ : LSt} {pd₀ : Option Ex} {r₀ : LRec} (h0 : H[l₀]? = some (.loop st₀ pd₀ r₀)) (hf : f.ev t = .c (.fn g first caps))
    (h : WC F g (first.map pV ++ [V.c (.yld H.length)] ++ caps.map pV) (H ++ [.loop .ready none ⟨t, ps, assign, body, r₀.defers⟩]) (rangeQ F (some l₀) t ds H.length Q)) :
    W F (some l₀) (.rangeF f ps assign body) ⟨t, ds, H⟩ Q := by
  obtain ⟨k, e, s', h1, h2⟩ := runRange_W (rd := some l₀) hf h
  exact ⟨k + 1, e, s', by simp only [run, stepR, h0]; exact h1, h2⟩
end
end Go.Proofs.Ytnepeleepmhdaaa.AM
