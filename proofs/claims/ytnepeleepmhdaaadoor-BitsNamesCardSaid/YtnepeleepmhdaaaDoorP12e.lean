/- Sets of small numbers, plainly: what runs are; a set from its members. -/
import Derived.Test.YtnepeleepmhdaaaDoorP12d
set_option linter.unusedVariables false
set_option linter.unusedSimpArgs false
set_option linter.unusedSectionVars false

namespace Go.Proofs.YtnepeleepmhdaaaDoor.AM.P12
open Go Go.Proofs.YtnepeleepmhdaaaDoor.AM
/-- What is known of the runs of the first k. -/
structure RunsOK (x k : Nat) (l : List (Nat × Nat)) : Prop where
  sep : l.Pairwise fun p q => p.2 < q.1
  mem : ∀ p ∈ l, p.1 < p.2 ∧ p.2 ≤ k ∧ (∀ i, p.1 ≤ i → i < p.2 → x.testBit i = true) ∧ (0 < p.1 → x.testBit (p.1 - 1) = false) ∧ (p.2 < k → x.testBit p.2 = false)
  sum : (l.map fun p => p.2 - p.1).sum = (mk_ x k).length
  last : 0 < k → x.testBit (k - 1) = true → ∃ d f, l = d ++ [(f, k)]
theorem pair_snoc {α : Type} {R : α → α → Prop} {l : List α} {a : α} : (l ++ [a]).Pairwise R ↔ l.Pairwise R ∧ ∀ b ∈ l, R b a := by
  rw [List.pairwise_append]; simp
theorem runsOK : ∀ (x k : Nat), RunsOK x k (rns (mk_ x k))
  | x, 0 => ⟨List.Pairwise.nil, by simp [mk_, rns], rfl, by omega⟩
  | x, k + 1 => by
    have ih := runsOK x k
    rw [mk_succ]
    by_cases hb : x.testBit k = true
    · rw [if_pos hb, rns_snoc]
      by_cases hp : 0 < k ∧ x.testBit (k - 1) = true
      · obtain ⟨d, f, e⟩ := ih.last hp.1 hp.2
        have hs := ih.sep; have hm := ih.mem; have hu := ih.sum
        rw [e] at hs hm hu ⊢
        rw [rstep_ext]
        have hf := hm (f, k) (by simp)
        rw [pair_snoc] at hs
        refine ⟨pair_snoc.2 ⟨hs.1, fun b hb' => hs.2 b hb'⟩, fun p hp' => ?_, ?_, fun _ _ => ⟨d, f, rfl⟩⟩
        · rcases List.mem_append.1 hp' with h | h
          · have h1 := hm p (by simp [h])
            have h2 := hs.2 p h
            simp only at h2 hf
            refine ⟨h1.1, by omega, h1.2.2.1, h1.2.2.2.1, fun _ => h1.2.2.2.2 (by omega)⟩
          · have : p = (f, k + 1) := by simpa using h
            subst this
            simp only at hf ⊢
            refine ⟨by omega, by omega, fun i h3 h4 => ?_, hf.2.2.2.1, by omega⟩
            by_cases h5 : i = k
            · rw [h5]; exact hb
            · exact hf.2.2.1 i h3 (by omega)
        · have hk1 : (mk_ x (k + 1)).length = (mk_ x k).length + 1 := by rw [mk_succ, if_pos hb, List.length_append]; rfl
          rw [hk1]
          simp only [List.map_append, List.sum_append] at hu ⊢
          simp only at hf
          simp at hu ⊢; omega
      · have e : rstep (rns (mk_ x k)) k = rns (mk_ x k) ++ [(k, k + 1)] := by
          unfold rstep
          cases hl : (rns (mk_ x k)).getLast? with
          | none => rw [List.getLast?_eq_none_iff.1 hl]; rfl
          | some p =>
            obtain ⟨f, t⟩ := p
            have hm := ih.mem _ (List.mem_of_getLast? hl)
            simp only at hm ⊢
            rw [if_neg]
            intro e
            subst e
            exact hp ⟨by omega, hm.2.2.1 (t - 1) (by omega) (by omega)⟩
        rw [e]
        have hne : ∀ p ∈ rns (mk_ x k), p.2 < k := fun p h => by
          have hm := ih.mem p h
          rcases Nat.lt_or_ge p.2 k with h1 | h1
          · exact h1
          · exact absurd ⟨by omega, hm.2.2.1 (k - 1) (by omega) (by omega)⟩ hp
        refine ⟨pair_snoc.2 ⟨ih.sep, hne⟩, fun p hp' => ?_, ?_, fun _ _ => ⟨_, _, rfl⟩⟩
        · rcases List.mem_append.1 hp' with h | h
          · have h1 := ih.mem p h
            exact ⟨h1.1, by omega, h1.2.2.1, h1.2.2.2.1, fun _ => h1.2.2.2.2 (hne p h)⟩
          · have : p = (k, k + 1) := by simpa using h
            subst this
            refine ⟨by simp, by simp, fun i h3 h4 => ?_, fun h => ?_, by simp⟩
            · have : i = k := by simp only at h3 h4; omega
              rw [this]; exact hb
            · cases hc : x.testBit (k - 1) with
              | true => exact absurd ⟨h, hc⟩ hp
              | false => rfl
        · have hu := ih.sum
          have hk1 : (mk_ x (k + 1)).length = (mk_ x k).length + 1 := by rw [mk_succ, if_pos hb, List.length_append]; rfl
          rw [hk1]
          simp only [List.map_append, List.sum_append] at hu ⊢
          simp at hu ⊢; omega
    · rw [if_neg hb]
      have hbf : x.testBit k = false := by simpa using hb
      refine ⟨ih.sep, fun p hp => ?_, by rw [ih.sum, mk_succ, if_neg hb], fun _ h => absurd h (by simpa using hb)⟩
      have h1 := ih.mem p hp
      refine ⟨h1.1, by omega, h1.2.2.1, h1.2.2.2.1, fun _ => ?_⟩
      rcases Nat.lt_or_ge p.2 k with h2 | h2
      · exact h1.2.2.2.2 h2
      · rw [show p.2 = k by omega]; exact hbf
/-- A set, from numbers. -/
def orL (l : List Nat) : Nat := l.foldl (fun s i => s ||| 2 ^ i) 0
theorem orL_snoc (l : List Nat) (i : Nat) : orL (l ++ [i]) = orL l ||| 2 ^ i := by simp [orL]
theorem orL_mk : ∀ (x k : Nat), orL (mk_ x k) = x % 2 ^ k
  | x, 0 => by simp [mk_, orL, Nat.mod_one]
  | x, k + 1 => by
    rw [mk_succ]
    have h := Nat.mod_pow_succ (b := 2) (k := k) (x := x)
    have hb := bit_div x k
    split <;> rename_i ht
    · rw [orL_snoc, orL_mk x k]
      rw [ht] at hb
      have h1 : x / 2 ^ k % 2 = 1 := by simpa using hb.symm
      rw [h, h1, Nat.mul_one, Nat.or_comm]
      have := Nat.two_pow_add_eq_or_of_lt (i := k) (b := x % 2 ^ k) (Nat.mod_lt _ (Nat.two_pow_pos k)) 1
      rw [Nat.mul_one] at this
      rw [← this, Nat.add_comm]
    · rw [orL_mk x k]
      have h1 : ¬ x / 2 ^ k % 2 = 1 := by intro e; rw [decide_eq_true e] at hb; exact ht hb
      rw [h, show x / 2 ^ k % 2 = 0 by omega]; simp
theorem orL_lt : ∀ (l : List Nat), (∀ i ∈ l, i < 64) → orL l < 18446744073709551616 := by
  refine snoc_ind (fun _ => by decide) fun l i ih h => ?_
  rw [orL_snoc]
  refine Nat.or_lt_two_pow (n := 64) (ih fun j hj => h j (by simp [hj])) ?_
  exact Nat.pow_lt_pow_right (by decide) (h i (by simp))
end Go.Proofs.YtnepeleepmhdaaaDoor.AM.P12
