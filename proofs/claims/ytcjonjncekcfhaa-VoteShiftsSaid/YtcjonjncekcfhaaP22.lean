/- Plain: numbers in order, how many are what, runs, parts that agree. -/
import Derived.Test.YtcjonjncekcfhaaD22f
set_option linter.unusedVariables false
set_option linter.unusedSimpArgs false
set_option linter.unusedSectionVars false
namespace Go.Proofs.Ytcjonjncekcfhaa.AM.D22
open Go Go.Proofs.Ytcjonjncekcfhaa.AM
abbrev cn (x : Int) (l : List Int) : Nat := l.countP fun y => decide (y = x)
abbrev lt_ (x : Int) (l : List Int) : Nat := l.countP fun y => decide (y < x)
abbrev le_ (x : Int) (l : List Int) : Nat := l.countP fun y => decide (y ≤ x)
theorem le_cn (x : Int) : ∀ l : List Int, le_ x l = lt_ x l + cn x l
  | [] => rfl
  | y :: l => by
    have ih := le_cn x l
    simp only [le_, lt_, cn, List.countP_cons] at *
    by_cases h1 : y < x
    · have h2 : ¬ y = x := by omega
      have h3 : y ≤ x := by omega
      simp [h1, h2, h3, ih]; omega
    · by_cases h2 : y = x
      · have h3 : y ≤ x := by omega
        simp [h1, h2, h3, ih]; omega
      · have h3 : ¬ y ≤ x := by omega
        simp [h1, h2, h3, ih]
theorem cn_pos {x : Int} {l : List Int} : 0 < cn x l ↔ x ∈ l := by
  rw [List.countP_pos_iff]; simp
theorem cn_perm {l l' : List Int} (h : l.Perm l') (x : Int) : cn x l = cn x l' := h.countP_eq _
theorem lt_perm {l l' : List Int} (h : l.Perm l') (x : Int) : lt_ x l = lt_ x l' := h.countP_eq _
theorem le_perm {l l' : List Int} (h : l.Perm l') (x : Int) : le_ x l = le_ x l' := h.countP_eq _
theorem countP_zero {p : Int → Bool} {l : List Int} (h : ∀ y ∈ l, p y = false) : l.countP p = 0 := by
  rw [List.countP_eq_zero]; intro y hy; simp [h y hy]
/-- In order: which are below, and which not above. -/
theorem gi_lt {s : List Int} (h : s.Pairwise (· ≤ ·)) (x : Int) : ∀ i, i < s.length → (gi s i < x ↔ i < lt_ x s) := by
  induction s with
  | nil => intro i hi; simp at hi
  | cons y s ih =>
    obtain ⟨h1, h2⟩ := List.pairwise_cons.1 h
    intro i hi
    by_cases hy : y < x
    · have e : lt_ x (y :: s) = lt_ x s + 1 := by simp [lt_, hy]
      rw [e]
      cases i with
      | zero => simp [gi, hy]
      | succ i =>
        have := ih h2 i (by simpa using hi)
        rw [show gi (y :: s) (i + 1) = gi s i from rfl, this]; omega
    · have e : lt_ x (y :: s) = 0 := countP_zero fun z hz => by
        rcases List.mem_cons.1 hz with rfl | hz
        · simpa using Int.not_lt.1 hy
        · have := h1 z hz; simp; omega
      rw [e]
      constructor
      · intro hlt
        exfalso
        have : gi (y :: s) i ∈ y :: s := by
          unfold gi
          rw [List.getD_eq_getElem?_getD, List.getElem?_eq_getElem hi]; simp
        rcases List.mem_cons.1 this with h3 | h3
        · omega
        · have := h1 _ h3; omega
      · omega
theorem gi_le {s : List Int} (h : s.Pairwise (· ≤ ·)) (x : Int) (i : Nat) (hi : i < s.length) : gi s i ≤ x ↔ i < le_ x s := by
  have h1 := gi_lt h (x + 1) i hi
  have h2 : lt_ (x + 1) s = le_ x s := by
    apply List.countP_congr
    intro y _; simp; omega
  rw [h2] at h1
  rw [← h1]; omega
theorem gi_eq {s : List Int} (h : s.Pairwise (· ≤ ·)) (x : Int) (i : Nat) (hi : i < s.length) : gi s i = x ↔ lt_ x s ≤ i ∧ i < lt_ x s + cn x s := by
  have h1 := gi_lt h x i hi
  have h2 := gi_le h x i hi
  rw [le_cn] at h2
  constructor
  · rintro e
    have h3 : ¬ gi s i < x := by omega
    have h4 : gi s i ≤ x := by omega
    rw [h1] at h3; rw [h2] at h4; omega
  · rintro ⟨h3, h4⟩
    have h5 : ¬ gi s i < x := by rw [h1]; omega
    have h6 := h2.2 h4
    omega
theorem at_eq {ws : List Int} {x : Int} {p : Nat} (h1 : lt_ x ws ≤ p) (h2 : p < lt_ x ws + cn x ws) : gi (sorted ws) p = x := by
  have hp := sorted_perm ws
  have hl : p < (sorted ws).length := by
    rw [sorted_length]
    have : le_ x ws ≤ ws.length := List.countP_le_length
    rw [le_cn] at this; omega
  rw [gi_eq (sorted_pw ws) x p hl, lt_perm hp, cn_perm hp]
  exact ⟨h1, h2⟩
theorem at_is {ws : List Int} {p : Nat} (hp : p < ws.length) : ∃ x ∈ ws, lt_ x ws ≤ p ∧ p < lt_ x ws + cn x ws := by
  have hl : p < (sorted ws).length := by rw [sorted_length]; exact hp
  refine ⟨gi (sorted ws) p, (sorted_perm ws).mem_iff.1 ?_, ?_⟩
  · unfold gi
    rw [List.getD_eq_getElem?_getD, List.getElem?_eq_getElem hl]; simp
  · rw [← lt_perm (sorted_perm ws), ← cn_perm (sorted_perm ws)]
    exact (gi_eq (sorted_pw ws) _ p hl).1 rfl
theorem gi_ext {s s' : List Int} (hl : s.length = s'.length) (h : ∀ i, i < s.length → gi s i = gi s' i) : s = s' := by
  apply List.ext_getElem hl
  intro i h1 h2
  have := h i h1
  simpa [gi, h1, h2] using this
theorem sorted_unique {s s' : List Int} (hp : s.Perm s') (h : s.Pairwise (· ≤ ·)) (h' : s'.Pairwise (· ≤ ·)) : s = s' := by
  refine gi_ext hp.length_eq fun i hi => ?_
  have hi' : i < s'.length := by rw [← hp.length_eq]; exact hi
  have key : ∀ x, gi s i ≤ x ↔ gi s' i ≤ x := fun x => by rw [gi_le h x i hi, gi_le h' x i hi', le_perm hp]
  have h1 := (key (gi s i)).1 (Int.le_refl _)
  have h2 := (key (gi s' i)).2 (Int.le_refl _)
  omega
theorem sorted_of_perm {l l' : List Int} (h : l.Perm l') : sorted l = sorted l' :=
  sorted_unique (((sorted_perm l).trans h).trans (sorted_perm l').symm) (sorted_pw l) (sorted_pw l')

/-! ### Runs -/
theorem tw_split {x : Int} : ∀ {r : List Int}, (x :: r).Pairwise (· ≤ ·) → cn x r = tw x r ∧ (∀ y ∈ r.drop (tw x r), x < y)
  | [], _ => ⟨rfl, by simp⟩
  | y :: r, h => by
    obtain ⟨h1, h2⟩ := List.pairwise_cons.1 h
    obtain ⟨h3, h4⟩ := List.pairwise_cons.1 h2
    by_cases hy : y = x
    · subst hy
      have e : tw y (y :: r) = tw y r + 1 := by simp [tw, List.takeWhile]
      obtain ⟨k1, k2⟩ := tw_split (x := y) (r := r) h2
      rw [e]
      exact ⟨by simp [cn] at *; omega, by simpa using k2⟩
    · have hb : (y == x) = false := by simpa using hy
      have e : tw x (y :: r) = 0 := by simp [tw, List.takeWhile, hb]
      have hlt : x < y := by have := h1 y (by simp); omega
      rw [e]
      refine ⟨countP_zero fun z hz => ?_, fun z hz => ?_⟩
      · rcases List.mem_cons.1 hz with rfl | hz
        · simpa using hy
        · have := h3 z hz; simp; omega
      · rcases List.mem_cons.1 (by simpa using hz) with rfl | hz
        · exact hlt
        · have := h3 z hz; omega
theorem take_tw (x : Int) : ∀ (r : List Int), ∀ z ∈ r.take (tw x r), z = x
  | [], z, h => by simp at h
  | y :: r, z, h => by
    by_cases hy : y = x
    · subst hy
      have e : tw y (y :: r) = tw y r + 1 := by simp [tw, List.takeWhile]
      rw [e, List.take_succ_cons] at h
      rcases List.mem_cons.1 h with rfl | h
      · rfl
      · exact take_tw _ r z h
    · have hb : (y == x) = false := by simpa using hy
      have e : tw x (y :: r) = 0 := by simp [tw, List.takeWhile, hb]
      rw [e] at h; simp at h
theorem snoc_rec {α : Type} {P : List α → Prop} (h0 : P []) (h1 : ∀ l a, P l → P (l ++ [a])) (l : List α) : P l := by
  rw [← List.reverse_reverse l]
  induction l.reverse with
  | nil => exact h0
  | cons a r ih => rw [List.reverse_cons]; exact h1 _ _ ih
theorem cn_drop {x : Int} {r : List Int} (h : (x :: r).Pairwise (· ≤ ·)) {y : Int} (hy : x < y) : cn y (x :: r) = cn y (r.drop (tw x r)) := by
  have h1 : ∀ z ∈ r.take (tw x r), z = x := take_tw x r
  have e : cn y (x :: r) = cn y r := by
    simp only [cn, List.countP_cons]
    have : ¬ x = y := by omega
    simp [this]
  rw [e]
  conv => lhs; rw [← List.take_append_drop (tw x r) r]
  rw [cn, List.countP_append, countP_zero fun z hz => ?_]
  · simp
  · have := h1 z hz; simp; omega
theorem runs_is : ∀ (s : List Int), s.Pairwise (· ≤ ·) → (∀ p ∈ runsL s, p.1 ∈ s ∧ p.2 = cn p.1 s) ∧ (∀ x ∈ s, (x, cn x s) ∈ runsL s) ∧ (runsL s).Pairwise (fun p q => p.1 < q.1)
  | [], _ => by simp [runsL]
  | x :: r, h => by
    obtain ⟨h1, h2⟩ := List.pairwise_cons.1 h
    obtain ⟨t1, t2⟩ := tw_split h
    have hs : (r.drop (tw x r)).Pairwise (· ≤ ·) := h2.sublist (List.drop_sublist _ _)
    obtain ⟨i1, i2, i3⟩ := runs_is (r.drop (tw x r)) hs
    have hcx : cn x (x :: r) = tw x r + 1 := by simp [cn] at *; omega
    rw [runsL]
    refine ⟨fun p hp => ?_, fun y hy => ?_, ?_⟩
    · rcases List.mem_cons.1 hp with rfl | hp
      · exact ⟨by simp, hcx.symm⟩
      · obtain ⟨k1, k2⟩ := i1 p hp
        exact ⟨List.mem_cons_of_mem _ (List.mem_of_mem_drop k1), by rw [k2, cn_drop h (t2 _ k1)]⟩
    · by_cases hyx : y = x
      · subst hyx; rw [hcx]; simp
      · have hmem : y ∈ r.drop (tw x r) := by
          have : x < y := by
            rcases List.mem_cons.1 hy with e | e
            · exact absurd e hyx
            · have := h1 y e; omega
          have hc := cn_drop h this
          rw [← cn_pos, ← hc, cn_pos]; exact hy
        rw [cn_drop h (t2 _ hmem)]
        exact List.mem_cons_of_mem _ (i2 y hmem)
    · exact List.pairwise_cons.2 ⟨fun q hq => t2 _ (i1 q hq).1, i3⟩
termination_by s => s.length
decreasing_by simp; omega

/-! ### What most are -/
theorem pl_is : ∀ (l : List (Int × Nat)), (∀ p ∈ l, 0 < p.2) → l.Pairwise (fun p q => p.1 < q.1) → (l = [] ∧ pl l = (0, 0)) ∨ (pl l ∈ l ∧ ∀ p ∈ l, p.2 < (pl l).2 ∨ (p.2 = (pl l).2 ∧ (pl l).1 ≤ p.1)) := by
  intro l
  induction l using snoc_rec with
  | h0 => intro _ _; left; exact ⟨rfl, rfl⟩
  | h1 l q ih =>
    intro h1 h2
    right
    have h3 := ih (fun p hp => h1 p (by simp [hp])) (List.pairwise_append.1 h2).1
    have h4 : ∀ p ∈ l, p.1 < q.1 := fun p hp => (List.pairwise_append.1 h2).2.2 p hp q (by simp)
    have hq := h1 q (by simp)
    rw [pl_snoc]
    unfold plS
    rcases h3 with ⟨rfl, e⟩ | ⟨k1, k2⟩
    · rw [e]; simp [hq]
    · split
      · rename_i hlt
        refine ⟨by simp, fun p hp => ?_⟩
        rcases List.mem_append.1 hp with hp | hp
        · have := k2 p hp; omega
        · obtain rfl : p = q := by simpa using hp
          right; exact ⟨rfl, Int.le_refl _⟩
      · rename_i hlt
        refine ⟨by simp [k1], fun p hp => ?_⟩
        rcases List.mem_append.1 hp with hp | hp
        · exact k2 p hp
        · obtain rfl : p = q := by simpa using hp
          have := h4 _ k1
          omega
/-- What most are, by what is asked of it. -/
def PS (ws : List Int) (v : Int) (n : Nat) : Prop := (ws = [] ∧ v = 0 ∧ n = 0) ∨ (v ∈ ws ∧ n = cn v ws ∧ ∀ x ∈ ws, cn x ws < n ∨ (cn x ws = n ∧ v ≤ x))
theorem PS.unique {ws : List Int} {v v' : Int} {n n' : Nat} (h : PS ws v n) (h' : PS ws v' n') : v = v' ∧ n = n' := by
  rcases h with ⟨rfl, rfl, rfl⟩ | ⟨h1, h2, h3⟩
  · rcases h' with ⟨_, rfl, rfl⟩ | ⟨h1, _⟩
    · exact ⟨rfl, rfl⟩
    · simp at h1
  · rcases h' with ⟨rfl, _, _⟩ | ⟨k1, k2, k3⟩
    · simp at h1
    · have a := h3 v' k1
      have b := k3 v h1
      omega
theorem PS.perm {ws ws' : List Int} (hp : ws.Perm ws') {v : Int} {n : Nat} (h : PS ws v n) : PS ws' v n := by
  rcases h with ⟨rfl, rfl, rfl⟩ | ⟨h1, h2, h3⟩
  · left; exact ⟨hp.symm.eq_nil, rfl, rfl⟩
  · right
    refine ⟨hp.mem_iff.1 h1, by rw [h2, cn_perm hp], fun x hx => ?_⟩
    rw [← cn_perm hp]
    exact h3 x (hp.mem_iff.2 hx)
theorem pl_PS (ws : List Int) : PS ws (pl (runsL (sorted ws))).1 (pl (runsL (sorted ws))).2 := by
  refine PS.perm (sorted_perm ws) ?_
  obtain ⟨h1, h2, h3⟩ := runs_is (sorted ws) (sorted_pw ws)
  rcases pl_is (runsL (sorted ws)) (fun p hp => by rw [(h1 p hp).2, cn_pos]; exact (h1 p hp).1) h3 with ⟨e1, e2⟩ | ⟨k1, k2⟩
  · left
    rw [e2]
    refine ⟨?_, rfl, rfl⟩
    cases hs : sorted ws with
    | nil => rfl
    | cons x r =>
      have := h2 x (by rw [hs]; simp)
      rw [e1] at this; simp at this
  · right
    obtain ⟨m1, m2⟩ := h1 _ k1
    exact ⟨m1, m2, fun x hx => k2 _ (h2 x hx)⟩
theorem PS.le {ws : List Int} {v : Int} {n : Nat} (h : PS ws v n) : n ≤ ws.length := by
  rcases h with ⟨_, _, rfl⟩ | ⟨_, rfl, _⟩
  · omega
  · exact List.countP_le_length

/-! ### Who agrees -/
def AS (t : Int) (ws : List Int) (p : List Nat) : Prop := (ws = [] ∧ p = []) ∨ ∃ v ∈ ws, p = part t ws v ∧ ∀ x ∈ ws, (part t ws x).length < p.length ∨ ((part t ws x).length = p.length ∧ v ≤ x)
theorem AS.unique {t : Int} {ws : List Int} {p p' : List Nat} (h : AS t ws p) (h' : AS t ws p') : p = p' := by
  rcases h with ⟨rfl, rfl⟩ | ⟨v, h1, h2, h3⟩
  · rcases h' with ⟨_, rfl⟩ | ⟨v', h1, _⟩
    · rfl
    · simp at h1
  · rcases h' with ⟨rfl, _⟩ | ⟨v', k1, k2, k3⟩
    · simp at h1
    · have a := h3 v' k1
      have b := k3 v h1
      rw [← k2] at a
      rw [← h2] at b
      have : v = v' := by omega
      rw [h2, k2, this]
theorem part_pos {t : Int} {ws : List Int} {v : Int} (h : v ∈ ws) (ht : 0 ≤ t) : 0 < (part t ws v).length := by
  obtain ⟨i, hi, rfl⟩ := List.mem_iff_getElem.1 h
  apply List.length_pos_of_mem (a := i)
  unfold part partK
  rw [List.mem_filter]
  refine ⟨List.mem_range.2 hi, ?_⟩
  have : gi ws i = ws[i] := by simp [gi, hi]
  rw [this]
  simp [agr]; omega
theorem ag_is {t : Int} {ws : List Int} : ∀ (l : List (Int × Nat)), (∀ p ∈ l, 0 < (part t ws p.1).length) → l.Pairwise (fun p q => p.1 < q.1) → (l = [] ∧ ag t ws l = []) ∨ ∃ p ∈ l, ag t ws l = part t ws p.1 ∧ ∀ q ∈ l, (part t ws q.1).length < (part t ws p.1).length ∨ ((part t ws q.1).length = (part t ws p.1).length ∧ p.1 ≤ q.1) := by
  intro l
  induction l using snoc_rec with
  | h0 => intro _ _; left; exact ⟨rfl, rfl⟩
  | h1 l q ih =>
    intro h1 h2
    right
    have h3 := ih (fun p hp => h1 p (by simp [hp])) (List.pairwise_append.1 h2).1
    have h4 : ∀ p ∈ l, p.1 < q.1 := fun p hp => (List.pairwise_append.1 h2).2.2 p hp q (by simp)
    have hq := h1 q (by simp)
    rw [ag_snoc]
    unfold agS
    rcases h3 with ⟨rfl, e⟩ | ⟨p, k1, k2, k3⟩
    · rw [e, if_neg (by simp only [List.length_nil]; omega)]
      exact ⟨q, by simp, rfl, fun p hp => by
        obtain rfl : p = q := by simpa using hp
        right; exact ⟨rfl, Int.le_refl _⟩⟩
    · rw [k2]
      split
      · rename_i hle
        refine ⟨p, by simp [k1], rfl, fun x hx => ?_⟩
        rcases List.mem_append.1 hx with hx | hx
        · exact k3 x hx
        · obtain rfl : x = q := by simpa using hx
          have := h4 _ k1
          omega
      · rename_i hle
        refine ⟨q, by simp, rfl, fun x hx => ?_⟩
        rcases List.mem_append.1 hx with hx | hx
        · have := k3 x hx; omega
        · obtain rfl : x = q := by simpa using hx
          right; exact ⟨rfl, Int.le_refl _⟩
theorem ag_AS {t : Int} (ws : List Int) (ht : 0 ≤ t) : AS t ws (ag t ws (runsL (sorted ws))) := by
  obtain ⟨h1, h2, h3⟩ := runs_is (sorted ws) (sorted_pw ws)
  have hm : ∀ x, x ∈ sorted ws ↔ x ∈ ws := fun x => (sorted_perm ws).mem_iff
  rcases ag_is (t := t) (ws := ws) (runsL (sorted ws)) (fun p hp => part_pos ((hm _).1 (h1 p hp).1) ht) h3 with ⟨e1, e2⟩ | ⟨p, k1, k2, k3⟩
  · left
    refine ⟨?_, e2⟩
    cases ws with
    | nil => rfl
    | cons x r =>
      have := h2 x ((hm x).2 (by simp))
      rw [e1] at this; simp at this
  · right
    exact ⟨p.1, (hm _).1 (h1 p k1).1, k2, fun x hx => by rw [k2]; exact k3 _ (h2 x ((hm x).2 hx))⟩
end Go.Proofs.Ytcjonjncekcfhaa.AM.D22
