/- What the functions of chapter 2 come to: links. -/
import Derived.Test.YtbgmbnikpjjmcaaD07C02e
set_option linter.unusedVariables false
set_option linter.unusedSimpArgs false
set_option linter.unusedSectionVars false
namespace Go.Proofs.Ytbgmbnikpjjmcaa.AM.D07
open Go Go.Proofs.Ytbgmbnikpjjmcaa.AM Go.Proofs.Ytbgmbnikpjjmcaa.AM.C02
set_option maxHeartbeats 2000000
set_option maxRecDepth 100000
attribute [local go_sem] tn_add1 tn_sub1 put_all' nums_len aop_mn aop_mx mnO_int mxO_int sub12 sub3 sub6 rep6
theorem s_port {N : Nat} {H : Heap} {c : Cfg} {h : Hd} {n : Int} (hc : CfgM N H c h) (hN : N ≤ H.length) (hm : c.ports.length ≤ 64) : WC F fn_config_port [.agg (c.cells h), .c (.int .i64 n)] H fun v H' => (∃ p : Pt, v = .tup [.agg p.cells, .c (.bool (decide (0 ≤ n ∧ n ≤ (c.ports.length : Int) - 1)))] ∧ (c.isP n → p = c.port n)) ∧ Xt H H' := by
  refine WC_start e_config_port (by simp) ?_
  unfold c_config_port Cfg.cells
  obtain ⟨m, hmm⟩ : ∃ m, c.ports.length = m := ⟨_, rfl⟩
  have hpt := fun hv : (0 ≤ n ∧ n ≤ (m : Int) - 1) => port_at hc (i := n.toNat) (by omega)
  have hcast : 0 ≤ n → ((n.toNat : Nat) : Int) = n := fun h => by omega
  have hisP : c.isP n ↔ (0 ≤ n ∧ n < (m : Int)) := by unfold Cfg.isP; rw [hmm]
  rw [hmm] at hm ⊢
  generalize c.isP n = P at *
  have fin0 : Hid _ := fun (A : Prop) (h : _ → _ → _ → A) => h hpt hcast hisP
  clear hpt hcast hisP hc hmm
  repeat (with_reducible first|(first|refine pI1 ?_|refine pS1 ?_);intros|refine pA1 ?_|refine pX1 ?_|refine pB1 ?_|exact True.intro)
  rename_i b1 H1 p1 g1 x1 b2 H2 p2 g2 x2
  have z : Xt H H2 := ⟨by omega, fun b hb => by rw [x2 b (by omega), x1 b (by omega)]⟩
  have g1' : H2[b1]? = _ := (x2 b1 (by omega)).trans g1
  have fz : Hid _ := fun (A : Prop) (h : _ → A) => h z
  clear x1 x2 z g1
  refine outM_call s_within ?_
  rintro _ H2 ⟨rfl, rfl⟩
  by_cases hv : 0 ≤ n ∧ n ≤ (m : Int) - 1
  · obtain ⟨la, y, ea, hla, hld, -⟩ := fin0 _ fun hpt _ _ => hpt hv
    rw [fin0 _ fun _ h _ => h hv.1, ← fz _ fun z => z.2 la (by omega)] at hld
    rw [ea] at g1'
    have hvt : n.toNat < m := by omega
    rw [decide_eq_true hv]
    obtain ⟨v1, v2⟩ := hv
    clear ea fin0
    generalize c.port n = p at *
    obtain ⟨p1, p2, p3, p4, p5, p6⟩ := p
    dsimp only [Pt.cells] at hld
    repeat (with_reducible first|(first|refine pI1 ?_|refine pS1 ?_);intros|refine pA1 ?_|refine pX1 ?_|refine pB1 ?_|exact True.intro)
    rename_i H3 l3 g3 x3
    repeat (with_reducible first|(first|refine pI1 ?_|refine pS1 ?_);intros|refine pA1 ?_|refine pX1 ?_|refine pB1 ?_|exact True.intro)
    exact ⟨⟨⟨p1, p2, p3, p4, p5, p6⟩, rfl, fun _ => rfl⟩, by omega, fun b hb => by rw [x3 b (by omega)]; exact fz _ fun z => z.2 b hb⟩
  · rw [decide_eq_false hv]
    repeat (with_reducible first|(first|refine pI1 ?_|refine pS1 ?_);intros|refine pA1 ?_|refine pX1 ?_|refine pB1 ?_|exact True.intro)
    rename_i H3 l3 g3 x3
    repeat (with_reducible first|(first|refine pI1 ?_|refine pS1 ?_);intros|refine pA1 ?_|refine pX1 ?_|refine pB1 ?_|exact True.intro)
    exact ⟨⟨pt0, rfl, fun h => absurd ((fin0 _ fun _ _ h => h).1 h) (by omega)⟩, by omega, fun b hb => by rw [x3 b (by omega)]; exact fz _ fun z => z.2 b hb⟩
def tkn (m : Nat) (U : List Int) : List Int := (List.range m).map fun (k : Nat) => ((cn (k : Int) U : Nat) : Int)
theorem tkn_len (m : Nat) (U : List Int) : (tkn m U).length = m := by simp [tkn]
theorem tkn_gn {m : Nat} {U : List Int} {k : Nat} (h : k < m) : gn (tkn m U) k = ((cn (k : Int) U : Nat) : Int) := by simp [gn, tkn, h]
theorem tkn_set {m : Nat} {U : List Int} {k : Nat} (h : k < m) : (nums (tkn m U)).set k (.int .i64 (((cn (k : Int) U : Nat) : Int) + 1)) = nums (tkn m (U ++ [(k : Int)])) := by
  apply List.ext_getElem?
  intro i
  have hl : (nums (tkn m U)).length = m := by rw [nums_len, tkn_len]
  by_cases hi : i < m
  · rw [nums_get (by rw [tkn_len]; exact hi), tkn_gn hi, cn_app, cn_one]
    by_cases e : i = k
    · subst e
      rw [List.getElem?_set_self (by omega), if_pos rfl]
      simp
    · rw [List.getElem?_set_ne (fun h => e h.symm), nums_get (by rw [tkn_len]; exact hi), tkn_gn hi, if_neg (by omega)]
      simp
  · rw [List.getElem?_eq_none (by rw [List.length_set, hl]; omega), List.getElem?_eq_none (by rw [nums_len, tkn_len]; omega)]
theorem tkn_0 (m : Nat) : grows [Cell.int .i64 0] m = nums (tkn m []) := by
  unfold grows nums tkn
  apply List.ext_getElem?
  intro i
  have e : (List.replicate m [Cell.int .i64 0]).flatten = List.replicate m (Cell.int .i64 0) := by
    induction m with
    | zero => rfl
    | succ m ih => simp [List.replicate_succ, ih]
  rw [e]
  by_cases hi : i < m
  · simp [hi]
  · simp [hi]
theorem link_at {N : Nat} {H : Heap} {c : Cfg} {h : Hd} (hc : CfgM N H c h) {i : Nat} (hi : i < c.links.length) : ∃ la y ad cd, h.a11 = some (la, y) ∧ la < N ∧ ldnB H[la]? (y + i * 3) 3 = some [.int .i64 (c.link i).src, .sl ad (c.link i).dests.length cd false, .int .i64 (c.link i).off] ∧ Sl H 1 ad (c.link i).dests.length (nums (c.link i).dests) ∧ (∀ b x, ad = some (b, x) → b < N) ∧ c.link i ∈ c.links ∧ (c.link i).dests.length ≤ maxLen := by
  obtain ⟨⟨la, y⟩, cs, e1, e2, e3, ad, cd, rfl, e4, e5, -, e6, e7, -⟩ := hc.links.at hi
  have e : c.link i = c.links[i] := by simp [Cfg.link, hi]
  rw [e]
  exact ⟨la, y, ad, cd, e1, e2, e3, e4, e5, List.getElem_mem hi, by omega⟩
theorem used_take {c : Cfg} {i : Nat} (hi : i < c.links.length) : Cfg.used (c.links.take (i + 1)) = Cfg.used (c.links.take i) ++ ((c.link i).src :: (c.link i).dests) := by
  have e : c.link i = c.links[i] := by simp [Cfg.link, hi]
  rw [List.take_succ_eq_append_getElem hi, e]
  unfold Cfg.used
  rw [List.flatMap_append, List.flatMap_cons, List.flatMap_nil, List.append_nil]
theorem used_le {c : Cfg} {i : Nat} (x : Int) : cn x (Cfg.used (c.links.take i)) ≤ cn x (Cfg.used c.links) := by
  have : Cfg.used c.links = Cfg.used (c.links.take i) ++ Cfg.used (c.links.drop i) := by
    unfold Cfg.used
    rw [← List.flatMap_append, List.take_append_drop]
  rw [this, cn_app]; omega
end Go.Proofs.Ytbgmbnikpjjmcaa.AM.D07
