/- What the document's functions of chapter 2 come to: links. -/
import Derived.Test.YtbgmbnikpjjmcaaD07C02p
set_option linter.unusedVariables false
set_option linter.unusedSimpArgs false
set_option linter.unusedSectionVars false
namespace Go.Proofs.Ytbgmbnikpjjmcaa.AM.D07
open Go Go.Proofs.Ytbgmbnikpjjmcaa.AM Go.Proofs.Ytbgmbnikpjjmcaa.AM.C02
set_option maxHeartbeats 2000000
set_option maxRecDepth 100000
attribute [local go_sem] tn_add1 tn_sub1 put_all' nums_len sub12 sub3 sub6 rep6
section
variable {N : Nat} {H : Heap} {c : Cfg} {h : Hd}
theorem used_in : ∀ {i : Nat}, i ≤ c.links.length → (∀ j, j < i → c.okLink (c.link j)) → ∀ x ∈ Cfg.used (c.links.take i), c.isP x
  | 0, _, _, x, hx => by simp [Cfg.used] at hx
  | i + 1, hi, h, x, hx => by
    rw [used_take (by omega)] at hx
    rcases List.mem_append.1 hx with hx | hx
    · exact used_in (by omega) (fun j hj => h j (by omega)) x hx
    · have hl := h i (by omega)
      rcases List.mem_cons.1 hx with rfl | hx
      · exact hl.1.1
      · exact (hl.2 x hx).1
theorem used_few {i : Nat} (hi : i ≤ c.links.length) (h : ∀ j, j < i → c.okLink (c.link j)) (hcn : ∀ n : Int, cn n (Cfg.used (c.links.take i)) ≤ 1) : (Cfg.used (c.links.take i)).length ≤ c.ports.length := by
  have h1 := rng_all (l := Cfg.used (c.links.take i)) (n := c.ports.length) fun x hx => used_in hi h x hx
  have h2 := rng_few (l := Cfg.used (c.links.take i)) c.ports.length fun k _ => hcn k
  omega
theorem rl_counts {Hk : Heap} {ρ : Env} {b1 nu : Nat} {ua : Option Ad} {uo : Bool} (hc : CfgM N H c h) (hN : N ≤ H.length) (hpt : c.okPorts) (hn64 : c.links.length ≤ 64) (e1 : ρ 1 = .c (.ptr (some (b1, 0)))) (e3 : ρ 3 = .c (.sl ua nu nu uo)) (k1 : Hk[b1]? = some (.cells (c.cells h) false none)) (lk : H.length ≤ Hk.length) (yk : ∀ b, b < H.length → Hk[b]? = H[b]?)
    (hall : ∀ j, j < c.links.length → c.okLink (c.link j)) (hu : Sl Hk 1 ua nu (nums (Cfg.used c.links))) (hnu : (Cfg.used c.links).length = nu) (hn6 : nu ≤ 64) :
    WO F o_rotaref02_links_22 (L 227 ρ) Hk fun t H' => W F none ((IC.block 4 b_rotaref02_links_27.loop).seq (((IC.ops o_rotaref02_links_28).seq (IC.block 6 b_rotaref02_links_41.loop)).seq ((IC.ops o_rotaref02_links_42).seq IC.ret))) ⟨t, [], H'⟩ (callQ [(2, none)] fun v H' => v = .c (.bool (dB c.okLinks)) ∧ Xt H H') := by
  have hpairs : ∀ ρ : Env, ρ 1 = .c (.ptr (some (b1, 0))) → (∀ n : Int, cn n (Cfg.used c.links) ≤ 1) → _ := fun ρ e hcn => rl_pairs (ρ := ρ) hc hN hpt hn64 e k1 lk yk hall hcn
  obtain ⟨m, hm⟩ : ∃ m, c.ports.length = m := ⟨_, rfl⟩
  have hm64 : m ≤ 64 := by have := hpt.1; omega
  unfold Cfg.cells at k1
  rw [hm] at k1
  have hin : ∀ x ∈ Cfg.used c.links, c.isP x := fun x hx => used_in (c := c) (Nat.le_refl _) hall x (by rw [List.take_length]; exact hx)
  obtain ⟨o28, ho⟩ : ∃ o, o = o_rotaref02_links_28 := ⟨_, rfl⟩
  rw [← ho] at hpairs ⊢
  have hcb : ∀ x, cn x (Cfg.used c.links) ≤ nu := fun x => by rw [← hnu]; exact List.countP_le_length
  have fin0 : Hid _ := fun (A : Prop) (h : _ → _ → _ → _ → _ → _ → _ → _ → A) => h hpairs hu hnu hin ho hm yk hcb
  clear hc hpt hall hu hnu hin ho hm yk hpairs hcb
  repeat (with_reducible first|(first|refine pI1 ?_|refine pS1 ?_);intros|refine pA1 ?_|refine pX1 ?_|refine pB1 ?_|exact True.intro)
  refine W_loop (fun mm st => ∃ ρ, ∃ k : Nat, st = ⟨L 227 ρ, [], Hk⟩ ∧ mm = m - k ∧ k ≤ m ∧ ρ 1 = .c (.ptr (some (b1, 0))) ∧ ρ 3 = .c (.sl ua nu nu uo) ∧ ρ 8 = .c (.int .i64 (k : Nat)) ∧ ∀ j : Nat, j < k → cn (j : Int) (Cfg.used c.links) ≤ 1) m ⟨_, 0, rfl, rfl, by omega, zf, zf, zf, fun j hj => by omega⟩ ?_
  clear e1 e3
  rintro mm st ⟨ρ, k, rfl, rfl, hk, e1, e3, e8, hall⟩
  unfold b_rotaref02_links_27
  have fa : Hid _ := fun (A : Prop) (h : _ → A) => h hall
  clear hall
  by_cases hkm : k < m
  · have hxt : (k : Int) < (m : Int) := by omega
    have hcnt := fin0 _ fun _ hu hnu _ _ _ _ _ => s_rcount (c := nu) (o := uo) (x := (k : Nat)) (by omega) hnu hu
    have hcb := fin0 _ fun _ _ _ _ _ _ _ hcb => hcb (k : Nat)
    have hno : 1 < cn (k : Int) (Cfg.used c.links) → dB c.okLinks = false := fun h => dB_f fun h' => by have := h'.2.2.1 k; omega
    have hyes : cn (k : Int) (Cfg.used c.links) ≤ 1 → ∀ j : Nat, j < k + 1 → cn (j : Int) (Cfg.used c.links) ≤ 1 := fun h j hj => by
      by_cases e : j = k
      · subst e; exact h
      · exact fa _ fun hall => hall j (by omega)
    generalize cn (k : Int) (Cfg.used c.links) = q at *
    have fh : Hid _ := fun (A : Prop) (h : _ → _ → A) => h hno hyes
    clear hno hyes
    repeat (with_reducible first|(first|refine pI1 ?_|refine pS1 ?_);intros|refine pA1 ?_|refine pX1 ?_|refine pB1 ?_|exact True.intro)
    refine outM_call hcnt ?_
    rintro _ Hk ⟨rfl, rfl⟩
    clear hcnt
    by_cases hq : 1 < q
    · have e := fh _ fun hno _ => hno hq
      rw [e]
      repeat (with_reducible first|(first|refine pI1 ?_|refine pS1 ?_);intros|refine pA1 ?_|refine pX1 ?_|refine pB1 ?_|exact True.intro)
      exact ⟨rfl, by omega, fin0 _ fun _ _ _ _ _ _ yk _ => yk⟩
    · have hy := fh _ fun _ hyes => hyes (by omega)
      have fy : Hid _ := fun (A : Prop) (h : _ → A) => h hy
      clear hy
      repeat (with_reducible first|(first|refine pI1 ?_|refine pS1 ?_);intros|refine pA1 ?_|refine pX1 ?_|refine pB1 ?_|exact True.intro)
      exact loopQ_n (m - (k + 1)) (by omega) ⟨_, k + 1, rfl, rfl, by omega, zf, zf, zf, fy _ fun h => h⟩
  · obtain rfl : k = m := by omega
    have hxt : ¬ (k : Int) < (k : Int) := by omega
    repeat (with_reducible first|(first|refine pI1 ?_|refine pS1 ?_);intros|refine pA1 ?_|refine pX1 ?_|refine pB1 ?_|exact True.intro)
    refine fin0 _ fun hpairs _ _ hin _ hm _ _ => hpairs _ zf fun n => ?_
    by_cases hn : c.isP n
    · obtain ⟨j, rfl⟩ : ∃ j : Nat, n = j := ⟨n.toNat, by have := hn.1; omega⟩
      exact fa _ fun hall => hall j (by have := hn.2; omega)
    · have : ¬ 0 < cn n (Cfg.used c.links) := fun h => hn (hin n (cn_pos.1 h))
      omega
end
end Go.Proofs.Ytbgmbnikpjjmcaa.AM.D07
