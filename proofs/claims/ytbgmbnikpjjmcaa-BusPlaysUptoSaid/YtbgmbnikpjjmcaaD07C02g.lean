/- What the functions of chapter 2 come to: links, gone through. -/
import Derived.Test.YtbgmbnikpjjmcaaD07C02f
set_option linter.unusedVariables false
set_option linter.unusedSimpArgs false
set_option linter.unusedSectionVars false
namespace Go.Proofs.Ytbgmbnikpjjmcaa.AM.D07
open Go Go.Proofs.Ytbgmbnikpjjmcaa.AM Go.Proofs.Ytbgmbnikpjjmcaa.AM.C02
set_option maxHeartbeats 2000000
set_option maxRecDepth 100000
attribute [local go_sem] tn_add1 tn_sub1 put_all' nums_len aop_mn aop_mx mnO_int mxO_int sub12 sub3 sub6 rep6
def LkOk (c : Cfg) (i : Nat) : Prop := (∀ j, j < i → c.okLink (c.link j)) ∧ ∀ x, cn x (Cfg.used (c.links.take i)) ≤ 1
def DsOk (c : Cfg) (i k : Nat) : Prop := LkOk c i ∧ c.okSrc (c.link i) ∧ (∀ j, j < k → c.okDest (c.link i).src (gn (c.link i).dests j)) ∧ ∀ x, cn x (Cfg.used (c.links.take i) ++ ((c.link i).src :: (c.link i).dests.take k)) ≤ 1
theorem DsOk.start {c : Cfg} {i : Nat} (h : LkOk c i) (hs : c.okSrc (c.link i)) (hx : cn (c.link i).src (Cfg.used (c.links.take i)) = 0) : DsOk c i 0 := by
  refine ⟨h, hs, fun j hj => by omega, fun x => ?_⟩
  rw [List.take_zero, cn_app, cn_one]
  have := h.2 x
  split
  · rename_i e; subst e; omega
  · omega
theorem DsOk.next {c : Cfg} {i k : Nat} (h : DsOk c i k) (hk : k < (c.link i).dests.length) (hd : c.okDest (c.link i).src (gn (c.link i).dests k)) (hx : cn (gn (c.link i).dests k) (Cfg.used (c.links.take i) ++ ((c.link i).src :: (c.link i).dests.take k)) = 0) : DsOk c i (k + 1) := by
  obtain ⟨h1, h2, h3, h4⟩ := h
  refine ⟨h1, h2, fun j hj => ?_, fun x => ?_⟩
  · by_cases e : j = k
    · subst e; exact hd
    · exact h3 j (by omega)
  · have e : (c.link i).dests.take (k + 1) = (c.link i).dests.take k ++ [gn (c.link i).dests k] := by
      rw [List.take_succ_eq_append_getElem hk]; simp [gn, hk]
    rw [e, ← List.cons_append, ← List.append_assoc, cn_app, cn_one]
    have := h4 x
    split
    · rename_i e; subst e; omega
    · omega
theorem DsOk.fin {c : Cfg} {i : Nat} (hi : i < c.links.length) (h : DsOk c i (c.link i).dests.length) : LkOk c (i + 1) := by
  obtain ⟨h1, h2, h3, h4⟩ := h
  rw [List.take_length] at h4
  refine ⟨fun j hj => ?_, fun x => ?_⟩
  · by_cases e : j = i
    · subst e
      refine ⟨h2, fun n hn => ?_⟩
      obtain ⟨t, ht, rfl⟩ := gn_of hn
      exact h3 t ht
    · exact h1.1 j (by omega)
  · rw [used_take hi]; exact h4 x
theorem no_src {c : Cfg} {i : Nat} (hi : i < c.links.length) (h : ¬ c.okSrc (c.link i) ∨ 0 < cn (c.link i).src (Cfg.used (c.links.take i))) : ¬ c.okLinks := by
  rintro ⟨-, h1, h2, -⟩
  rcases h with h | h
  · have : c.link i ∈ c.links := by
      have e : c.link i = c.links[i] := by simp [Cfg.link, hi]
      rw [e]; exact List.getElem_mem hi
    exact h (h1 _ this).1
  · have h3 := used_le (c := c) (i := i + 1) (c.link i).src
    rw [used_take hi, cn_app, ← List.singleton_append, cn_app, cn_one, if_pos rfl] at h3
    have := h2 (c.link i).src
    omega
theorem no_dest {c : Cfg} {i k : Nat} (hi : i < c.links.length) (hk : k < (c.link i).dests.length) (h : ¬ c.okDest (c.link i).src (gn (c.link i).dests k) ∨ 0 < cn (gn (c.link i).dests k) (Cfg.used (c.links.take i) ++ ((c.link i).src :: (c.link i).dests.take k))) : ¬ c.okLinks := by
  rintro ⟨-, h1, h2, -⟩
  rcases h with h | h
  · have : c.link i ∈ c.links := by
      have e : c.link i = c.links[i] := by simp [Cfg.link, hi]
      rw [e]; exact List.getElem_mem hi
    exact h ((h1 _ this).2 _ (gn_mem hk))
  · have h3 := used_le (c := c) (i := i + 1) (gn (c.link i).dests k)
    have e : (c.link i).dests = (c.link i).dests.take k ++ (gn (c.link i).dests k :: (c.link i).dests.drop (k + 1)) := by
      have e1 : gn (c.link i).dests k = (c.link i).dests[k] := by simp [gn, hk]
      rw [e1, ← List.drop_eq_getElem_cons hk, List.take_append_drop]
    rw [used_take hi] at h3
    have h4 : cn (gn (c.link i).dests k) ((c.link i).src :: (c.link i).dests) = cn (gn (c.link i).dests k) ((c.link i).src :: (c.link i).dests.take k) + cn (gn (c.link i).dests k) (gn (c.link i).dests k :: (c.link i).dests.drop (k + 1)) := by
      exact (congrArg (cn (gn (c.link i).dests k)) (congrArg (List.cons (c.link i).src) e)).trans (by rw [← List.cons_append, cn_app])
    have h5 : 0 < cn (gn (c.link i).dests k) (gn (c.link i).dests k :: (c.link i).dests.drop (k + 1)) := cn_pos.2 (by simp)
    rw [cn_app] at h h3
    have := h2 (gn (c.link i).dests k)
    omega
end Go.Proofs.Ytbgmbnikpjjmcaa.AM.D07
