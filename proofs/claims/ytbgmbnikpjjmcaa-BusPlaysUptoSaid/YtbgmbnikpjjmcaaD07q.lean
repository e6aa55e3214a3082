/- What the functions of chapter 7 come to: how great slots' turns are. -/
import Derived.Test.YtbgmbnikpjjmcaaD07p
import Derived.Test.YtbgmbnikpjjmcaaP07c
set_option linter.unusedVariables false
set_option linter.unusedSimpArgs false
set_option linter.unusedSectionVars false
namespace Go.Proofs.Ytbgmbnikpjjmcaa.AM.D07
open Go Go.Proofs.Ytbgmbnikpjjmcaa.AM Go.Proofs.Ytbgmbnikpjjmcaa.AM.C02 Go.Proofs.Ytbgmbnikpjjmcaa.AM.C07
set_option maxHeartbeats 2000000
set_option maxRecDepth 100000
attribute [local go_sem] tn_add1 tn_sub1 put_all' nums_len
theorem s_great {N p : Nat} {H : Heap} {a : Option Ad} {n c : Nat} {o : Bool} {l : List Trn} (ht : Tab 4 (TrR N p) N H a l) (hn : l.length = n) (hb : tP l n ≤ 1000000000) :
    WC F fn_rotalaw07_great [.c (.sl a n c o)] H fun v H' => v = .c (.bool (decide (5000 < tP l n))) ∧ H' = H := by
  refine WC_start e_rotalaw07_great (by simp) ?_
  unfold c_rotalaw07_great
  have hle : ∀ i, i ≤ n → tP l i ≤ tP l n := fun i hi => tP_le l hi
  have hnn : n ≤ tP l n := by
    have : ∀ m, m ≤ tP l m := fun m => by
      induction m with
      | zero => exact Nat.zero_le _
      | succ m ih => show m + 1 ≤ tP l m + 1 + _ + _; omega
    exact this n
  have fin0 : Hid _ := fun (A : Prop) (h : _ → _ → _ → A) => h ht hn hle
  clear ht hn hle
  repeat (with_reducible first|(first|refine pI1 ?_|refine pS1 ?_);intros|refine pA1 ?_|refine pX1 ?_|refine pB1 ?_|exact True.intro)
  refine W_loop (fun mm st => ∃ ρ, ∃ i : Nat, st = ⟨L 46 ρ, [], H⟩ ∧ mm = n - i ∧ i ≤ n ∧ ρ 0 = .c (.sl a n c o) ∧ ρ 3 = .c (.int .i64 (tP l i : Nat)) ∧ ρ 4 = .c (.int .i64 (i : Nat))) n ⟨_, 0, rfl, rfl, by omega, zf, zf, zf⟩ ?_
  rintro m st ⟨ρ, i, rfl, rfl, hi, e0, e3, e4⟩
  unfold b_rotalaw07_great_11
  by_cases hin : i < n
  · obtain ⟨b, y, a1, c1, o1, a2, c2, o2, ea, -, hld, hsn, -⟩ := fin0 _ fun ht hn _ => turn_at ht (i := i) (by omega)
    obtain ⟨-, hd1, hd2, -⟩ := ldB_four hld
    have hst : tP l (i + 1) = tP l i + 1 + (gt l i).copies.length + sP (gt l i).sends (gt l i).sends.length := rfl
    have hb1 := fin0 _ fun _ _ h => h (i + 1) (by omega)
    have hsle : ∀ k, k ≤ (gt l i).sends.length → sP (gt l i).sends k ≤ sP (gt l i).sends (gt l i).sends.length := fun k hk => sP_le _ hk
    have e0' := e0
    rw [ea] at e0'
    generalize hS : (gt l i).sends = S at *
    obtain ⟨ns, hns⟩ : ∃ ns, S.length = ns := ⟨_, rfl⟩
    rw [hns] at hd1 hst hsle
    generalize (gt l i).copies.length = nc at *
    generalize hT : tP l i = T at *
    generalize hT1 : tP l (i + 1) = T1 at *
    generalize hTn : tP l n = Tn at *
    have f1 : Hid _ := fun (A : Prop) (h : _ → _ → _ → _ → _ → _ → _ → A) => h hsn hns ea hT1 hsle hst hTn
    have hbound : T + 1 + nc + sP S ns ≤ 1000000000 := by omega
    clear hsn hns ea hT1 hsle hld hS hT hTn hst hb1 e0
    obtain ⟨M, hM⟩ : ∃ M, M = T + 1 + nc := ⟨_, rfl⟩
    have fd : Hid _ := fun (A : Prop) (h : _ → A) => h hM
    have hMb : T + 1 + nc ≤ 1000000000 := by omega
    have hnsb : ns ≤ 1000000000 := by have := len_sP S ns; omega
    have fbd : Hid _ := fun (A : Prop) (h : _ → A) => h hbound
    clear hbound hM
    repeat (with_reducible first|(first|refine pI1 ?_|refine pS1 ?_);intros|refine pA1 ?_|refine pX1 ?_|refine pB1 ?_|exact True.intro)
    refine W_loop (fun mm st => ∃ ρ', ∃ k : Nat, st = ⟨L 46 ρ', [], H⟩ ∧ mm = ns - k ∧ k ≤ ns ∧ ρ' 0 = .c (.sl (some (b, y)) n c o) ∧ ρ' 3 = .c (.int .i64 (M + sP S k : Nat)) ∧ ρ' 4 = .c (.int .i64 (i : Nat)) ∧ ρ' 5 = .c (.int .i64 (k : Nat))) ns ⟨_, 0, rfl, rfl, by omega, zf, ?_, zf, zf⟩ ?_
    · have : ((M + sP S 0 : Nat) : Int) = (T : Int) + 1 + nc := by show ((M + 0 : Nat) : Int) = _; have := fd _ fun h => h; omega
      rw [this]
      exact zf
    clear e3 e4 e0'
    rintro mm st ⟨ρ', k, rfl, rfl, hk, e0, e3, e4, e5⟩
    unfold b_rotalaw07_great_9
    by_cases hkn : k < ns
    · obtain ⟨b', y', a', c', o', ea', -, -, hld', -⟩ := f1 _ fun hsn hns _ _ _ _ _ => send_at hsn (i := k) (by omega)
      obtain ⟨-, hd'⟩ := ldB_two hld'
      rw [ea'] at hd1
      have hst : sP S (k + 1) = sP S k + 1 + (gs S k).bytes.length := rfl
      have hle1 := f1 _ fun _ _ _ _ hsle hst hTn => hsle (k + 1) (by omega)
      have hle2 : M + sP S (k + 1) ≤ 1000000000 := by have := fd _ fun h => h; have := fbd _ fun h => h; omega
      generalize (gs S k).bytes.length = nb at *
      generalize sP S k = Q at *
      have f2 : Hid _ := fun (A : Prop) (h : _ → A) => h hst
      have hb3 : M + Q + 1 + nb ≤ 1000000000 := by rw [hst] at hle2; omega
      clear hst hle1 hle2 hld'
      repeat (with_reducible first|(first|refine pI1 ?_|refine pS1 ?_);intros|refine pA1 ?_|refine pX1 ?_|refine pB1 ?_|exact True.intro)
      refine loopQ_n (ns - (k + 1)) (by omega) ⟨_, k + 1, rfl, rfl, by omega, zf, ?_, zf, zf⟩
      have : ((M + sP S (k + 1) : Nat) : Int) = ((M + Q : Nat) : Int) + 1 + nb := by have := f2 _ fun h => h; omega
      rw [this]
      exact zf
    · obtain rfl : k = ns := by omega
      repeat (with_reducible first|(first|refine pI1 ?_|refine pS1 ?_);intros|refine pA1 ?_|refine pX1 ?_|refine pB1 ?_|exact True.intro)
      refine loopQ_n (n - (i + 1)) (by omega) ⟨_, i + 1, rfl, rfl, by omega, ?_, ?_, zf⟩
      · rw [f1 _ fun _ _ h _ _ _ _ => h]; exact zf
      · have : tP l (i + 1) = M + sP S k := f1 _ fun _ _ _ hT1 _ hst _ => by have := fd _ fun h => h; omega
        rw [this]
        exact zf
  · obtain rfl : i = n := by omega
    generalize tP l i = T at *
    by_cases hg : 5000 < T
    · repeat (with_reducible first|(first|refine pI1 ?_|refine pS1 ?_);intros|refine pA1 ?_|refine pX1 ?_|refine pB1 ?_|exact True.intro)
      exact ⟨by simp [hg], rfl⟩
    · repeat (with_reducible first|(first|refine pI1 ?_|refine pS1 ?_);intros|refine pA1 ?_|refine pX1 ?_|refine pB1 ?_|exact True.intro)
      exact ⟨by simp [hg], rfl⟩
end Go.Proofs.Ytbgmbnikpjjmcaa.AM.D07
