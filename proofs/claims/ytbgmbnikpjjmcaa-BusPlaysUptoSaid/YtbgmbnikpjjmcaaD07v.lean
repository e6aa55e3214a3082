/- What the document's functions of chapter 7 come to: a burst. -/
import Derived.Test.YtbgmbnikpjjmcaaD07q
import Derived.Test.YtbgmbnikpjjmcaaP07f
set_option linter.unusedVariables false
set_option linter.unusedSimpArgs false
set_option linter.unusedSectionVars false
namespace Go.Proofs.Ytbgmbnikpjjmcaa.AM.D07
open Go Go.Proofs.Ytbgmbnikpjjmcaa.AM Go.Proofs.Ytbgmbnikpjjmcaa.AM.C02 Go.Proofs.Ytbgmbnikpjjmcaa.AM.C07
set_option maxHeartbeats 2000000
set_option maxRecDepth 100000
attribute [local go_sem] tn_add1 tn_sub1 put_all' nums_len
theorem s_rbit {H : Heap} {mask i : Nat} (hm : mask < 4294967296) (hi : i ≤ 100) : WC F fn_rotaref07_bit [.c (.int .u32 (mask : Nat)), .c (.int .i64 (i : Nat))] H fun v H' => v = .c (.bool (P3.bt mask i)) ∧ H' = H := by
  refine WC_start e_rotaref07_bit (by simp) ?_
  unfold c_rotaref07_bit
  have h0 : mask / 2 ^ 0 = mask := by simp
  have hb : ∀ k, mask / 2 ^ k < 4294967296 := fun k => Nat.lt_of_le_of_lt (Nat.div_le_self _ _) hm
  have hs : ∀ k, mask / 2 ^ (k + 1) = mask / 2 ^ k / 2 := fun k => by rw [pow_s, Nat.mul_comm, Nat.div_div_eq_div_mul]
  have fin0 : Hid _ := fun (A : Prop) (h : _ → _ → _ → A) => h h0 hb hs
  clear h0 hb hs
  repeat (with_reducible first|(first|refine pI1 ?_|refine pS1 ?_);intros|refine pA1 ?_|refine pX1 ?_|refine pB1 ?_|exact True.intro)
  refine W_loop (fun mm st => ∃ ρ, ∃ k : Nat, st = ⟨L 16 ρ, [], H⟩ ∧ mm = i - k ∧ k ≤ i ∧ ρ 0 = .c (.int .u32 (mask / 2 ^ k : Nat)) ∧ ρ 1 = .c (.int .i64 (i : Nat)) ∧ ρ 5 = .c (.int .i64 (k : Nat))) i ⟨_, 0, rfl, rfl, by omega, by rw [fin0 _ fun h _ _ => h]; exact zf, zf, zf⟩ ?_
  rintro mm st ⟨ρ, k, rfl, rfl, hk, e0, e1, e5⟩
  unfold b_rotaref07_bit_5
  have hb := fin0 _ fun _ hb _ => hb k
  have hs := fin0 _ fun _ _ hs => hs k
  have hbt : P3.bt mask k = (mask / 2 ^ k % 2 == 1) := rfl
  by_cases hki : k < i
  · have hxt : (k : Int) < (i : Int) := by omega
    have fs : Hid _ := fun (A : Prop) (h : _ → A) => h hs
    clear hs hbt
    generalize mask / 2 ^ k = q at *
    repeat (with_reducible first|(first|refine pI1 ?_|refine pS1 ?_);intros|refine pA1 ?_|refine pX1 ?_|refine pB1 ?_|exact True.intro)
    exact loopQ_n (i - (k + 1)) (by omega) ⟨_, k + 1, rfl, rfl, by omega, by rw [fs _ fun h => h]; exact zf, zf, zf⟩
  · obtain rfl : k = i := by omega
    have hxt : ¬ (k : Int) < (k : Int) := by omega
    rw [hbt]
    clear hs hbt
    generalize mask / 2 ^ k = q at *
    by_cases hq : q % 2 = 1
    · repeat (with_reducible first|(first|refine pI1 ?_|refine pS1 ?_);intros|refine pA1 ?_|refine pX1 ?_|refine pB1 ?_|exact True.intro)
      exact ⟨by simp [hq], rfl⟩
    · have hq0 : q % 2 = 0 := by omega
      repeat (with_reducible first|(first|refine pI1 ?_|refine pS1 ?_);intros|refine pA1 ?_|refine pX1 ?_|refine pB1 ?_|exact True.intro)
      exact ⟨by simp [hq0], rfl⟩
theorem wrap_low {x : Int} (h1 : 9223372036854775808 ≤ x) (h2 : x < 18446744073709551616) : IntKind.i64.wrap x = x - 18446744073709551616 := by
  simp [IntKind.wrap, IntKind.bits, IntKind.signed]
  omega
theorem s_rturned {H : Heap} {a : Option Ad} {n c : Nat} {o : Bool} {l : List Nat} {at_ : Int} {mask : Nat} (hs : Sl H 1 a n (nats .u8 l)) (hn : n ≤ 100000) (hl : l.length = n) (ha : i64 at_) (hm : mask < 4294967296) (hby : ∀ x ∈ l, x < 256) :
    WC F fn_rotaref07_turned [.c (.sl a n c o), .c (.int .i64 at_), .c (.int .u32 (mask : Nat))] H fun v H' => (∃ aa oo, v = .c (.sl aa n n oo) ∧ Gr H.length H' 1 aa n oo (nats .u8 (P3.corr l at_ mask))) ∧ Xt H H' := by
  refine WC_start e_rotaref07_turned (by simp) ?_
  unfold c_rotaref07_turned
  obtain ⟨a1, a2⟩ := ha
  have hgx : ∀ k, gx l k < 256 := fun k => by
    by_cases h : k < l.length
    · have : gx l k = l[k] := by simp [gx, h]
      rw [this]; exact hby _ (List.getElem_mem h)
    · have : gx l k = 0 := by simp [gx, Nat.le_of_not_lt h]
      omega
  have fin0 : Hid _ := fun (A : Prop) (h : _ → _ → _ → A) => h hs hl hgx
  clear hs hl hgx hby
  repeat (with_reducible first|(first|refine pI1 ?_|refine pS1 ?_);intros|refine pA1 ?_|refine pX1 ?_|refine pB1 ?_|exact True.intro)
  refine W_loop (fun mm st => ∃ ρ, ∃ k : Nat, ∃ oo Hk aa, st = ⟨L 75 ρ, [], Hk⟩ ∧ mm = n - k ∧ k ≤ n ∧ ρ 0 = .c (.sl a n c o) ∧ ρ 1 = .c (.int .i64 at_) ∧ ρ 2 = .c (.int .u32 (mask : Nat)) ∧ ρ 7 = .c (.sl aa k k oo) ∧ ρ 8 = .c (.int .i64 (k : Nat)) ∧ H.length ≤ Hk.length ∧ Hid (Gr H.length Hk 1 aa k oo (nats .u8 ((P3.corr l at_ mask).take k)) ∧ ∀ b, b < H.length → Hk[b]? = H[b]?)) n
    ⟨_, 0, false, H, none, rfl, rfl, by omega, zf, zf, zf, zf, zf, Nat.le_refl _, Gr.none _ _ _, fun _ _ => rfl⟩ ?_
  rintro mm st ⟨ρ, k, oo, Hk, aa, rfl, rfl, hk, e0, e1, e2, e7, e8, lk, hall⟩
  unfold b_rotaref07_turned_21
  by_cases hkn : k < n
  · have hxt : (k : Int) < (n : Int) := by omega
    obtain ⟨⟨lb, y⟩, ea⟩ := fin0 _ fun hs _ _ => hs.is_some (by omega)
    have hld := fin0 _ fun hs hl _ => slgx (by rw [ea] at hs; exact hs) hl hkn
    have hlb := fin0 _ fun hs _ _ => hs.lt ea
    dsimp only at hld
    rw [← hall.2 lb hlb] at hld
    have hx := fin0 _ fun _ _ h => h k
    have hct := fin0 _ fun _ hl hgx => corr_take (l := l) (at_ := at_) (mask := mask) (k := k) (by omega) (hgx k)
    generalize gx l k = x at *
    have f1 : Hid _ := fun (A : Prop) (h : _ → _ → A) => h hall hct
    clear hall hct
    subst ea
    repeat (with_reducible first|(first|refine pI1 ?_|refine pS1 ?_);intros|refine pA1 ?_|refine pX1 ?_|refine pB1 ?_|exact True.intro)
    refine W_loop (fun mm st => ∃ ρ, ∃ j : Nat, st = ⟨L 75 ρ, [], Hk⟩ ∧ mm = 8 - j ∧ j ≤ 8 ∧ ρ 0 = .c (.sl (some (lb, y)) n c o) ∧ ρ 1 = .c (.int .i64 at_) ∧ ρ 2 = .c (.int .u32 (mask : Nat)) ∧ ρ 7 = .c (.sl aa k k oo) ∧ ρ 8 = .c (.int .i64 (k : Nat)) ∧
      ρ 9 = .c (.int .i64 (tv x (fun i => hb at_ mask (8 * k + i)) j : Nat)) ∧ ρ 10 = .c (.int .i64 (x / 2 ^ j : Nat)) ∧ ρ 11 = .c (.int .i64 (2 ^ j : Nat)) ∧ ρ 12 = .c (.int .i64 (j : Nat))) 8 ⟨_, 0, rfl, rfl, by omega, zf, zf, zf, zf, zf, by rw [show tv x (fun i => hb at_ mask (8 * k + i)) 0 = 0 from rfl]; exact zf, by rw [Nat.pow_zero, Nat.div_one]; exact zf, by rw [Nat.pow_zero]; exact zf, zf⟩ ?_
    clear e0 e1 e2 e7 e8
    rintro mm st ⟨ρ, j, rfl, rfl, hj, e0, e1, e2, e7, e8, e9, e10, e11, e12⟩
    unfold b_rotaref07_turned_18
    by_cases hj8 : j < 8
    · have hxj : (j : Int) < 8 := by omega
      have htl := tv_lt x (fun i => hb at_ mask (8 * k + i)) j
      have hts : tv x (fun i => hb at_ mask (8 * k + i)) (j + 1) = tv x (fun i => hb at_ mask (8 * k + i)) j + if (x / 2 ^ j % 2 == 1) != hb at_ mask (8 * k + j) then 2 ^ j else 0 := rfl
      have hqs : x / 2 ^ (j + 1) = x / 2 ^ j / 2 := by rw [pow_s, Nat.mul_comm, Nat.div_div_eq_div_mul]
      have hps := pow_s j
      have hp8 : 2 ^ j ≤ 128 := by
        have : j = 0 ∨ j = 1 ∨ j = 2 ∨ j = 3 ∨ j = 4 ∨ j = 5 ∨ j = 6 ∨ j = 7 := by omega
        rcases this with rfl | rfl | rfl | rfl | rfl | rfl | rfl | rfl <;> decide
      have hq256 : x / 2 ^ j < 256 := Nat.lt_of_le_of_lt (Nat.div_le_self _ _) hx
      have hhb : hb at_ mask (8 * k + j) = decide (at_ ≤ ((8 * k + j : Nat) : Int) ∧ ((8 * k + j : Nat) : Int) - 31 ≤ at_ ∧ P3.bt mask (((8 * k + j : Nat) : Int) - at_).toNat = true) := rfl
      have hend : ∀ b : Bool, hb at_ mask (8 * k + j) = b → tv x (fun i => hb at_ mask (8 * k + i)) (j + 1) = tv x (fun i => hb at_ mask (8 * k + i)) j + if (x / 2 ^ j % 2 == 1) != b then 2 ^ j else 0 := fun b h => by rw [hts, h]
      generalize tv x (fun i => hb at_ mask (8 * k + i)) j = t at *
      generalize x / 2 ^ j = q at *
      generalize 2 ^ j = p at *
      have f2 : Hid _ := fun (A : Prop) (h : _ → _ → _ → _ → A) => h hend hqs hps hhb
      clear hend hqs hps hhb hts
      have hP : ((8 * k + j : Nat) : Int) = 8 * (k : Int) + j := by omega
      have hqd : ((q / 2 : Nat) : Int) = (q : Int) / 2 := by omega
      have hpd : ((2 * p : Nat) : Int) = 2 * (p : Int) := by omega
      have htd : ((t + p : Nat) : Int) = (t : Int) + p := by omega
      have fP : Hid _ := fun (A : Prop) (h : _ → A) => h hP
      clear hP
      by_cases c1 : at_ ≤ 8 * (k : Int) + j
      case neg =>
        have hf := f2 _ fun hend _ _ hhb => hend false (by rw [hhb]; exact decide_eq_false fun h => c1 (by have := fP _ fun h => h; rw [← this]; exact h.1))
        have ff : Hid _ := fun (A : Prop) (h : _ → A) => h hf
        clear hf
        by_cases hq : (q : Int) % 2 = 1
        · have hv : tv x (fun i => hb at_ mask (8 * k + i)) (j + 1) = t + p := ff _ fun h => by
            rw [h]
            have e1 : (q % 2 == 1) = true := by rw [show q % 2 = 1 by omega]; rfl
            rw [e1]; rfl
          have fe : Hid _ := fun (A : Prop) (h : _ → A) => h hv
          clear hv
          repeat (with_reducible first|(first|refine pI1 ?_|refine pS1 ?_);intros|refine pA1 ?_|refine pX1 ?_|refine pB1 ?_|exact True.intro)
          exact loopQ_n (8 - (j + 1)) (by omega) ⟨_, j + 1, rfl, rfl, by omega, zf, zf, zf, zf, zf, by rw [fe _ fun h => h]; exact zf, by rw [f2 _ fun _ h _ _ => h]; exact zf, by rw [f2 _ fun _ _ h _ => h]; exact zf, zf⟩
        · have hv : tv x (fun i => hb at_ mask (8 * k + i)) (j + 1) = t := ff _ fun h => by
            rw [h]
            have e1 : (q % 2 == 1) = false := by rw [show q % 2 = 0 by omega]; rfl
            rw [e1]; rfl
          have fe : Hid _ := fun (A : Prop) (h : _ → A) => h hv
          clear hv
          repeat (with_reducible first|(first|refine pI1 ?_|refine pS1 ?_);intros|refine pA1 ?_|refine pX1 ?_|refine pB1 ?_|exact True.intro)
          exact loopQ_n (8 - (j + 1)) (by omega) ⟨_, j + 1, rfl, rfl, by omega, zf, zf, zf, zf, zf, by rw [fe _ fun h => h]; exact zf, by rw [f2 _ fun _ h _ _ => h]; exact zf, by rw [f2 _ fun _ _ h _ => h]; exact zf, zf⟩
      by_cases c2 : 8 * (k : Int) + j - at_ < 32
      · obtain ⟨i, hi⟩ : ∃ i : Nat, (i : Int) = 8 * (k : Int) + j - at_ := ⟨(8 * (k : Int) + j - at_).toNat, by omega⟩
        have hcl := s_rbit (H := Hk) (mask := mask) (i := i) hm (by omega)
        have hi' : i = (((8 * k + j : Nat) : Int) - at_).toNat := by have := fP _ fun h => h; omega
        have hbb : hb at_ mask (8 * k + j) = P3.bt mask i := f2 _ fun _ _ _ hhb => by
          rw [hhb, hi']
          have h1 : at_ ≤ ((8 * k + j : Nat) : Int) := by have := fP _ fun h => h; omega
          have h2 : ((8 * k + j : Nat) : Int) - 31 ≤ at_ := by have := fP _ fun h => h; omega
          cases hR : P3.bt mask (((8 * k + j : Nat) : Int) - at_).toNat with
          | true => exact decide_eq_true ⟨h1, h2, rfl⟩
          | false => exact decide_eq_false fun h => absurd h.2.2 (by decide)
        rw [hi] at hcl
        have fcl : Hid _ := fun (A : Prop) (h : _ → A) => h hcl
        have fbb : Hid _ := fun (A : Prop) (h : _ → A) => h hbb
        have hd1 : 0 ≤ 8 * (k : Int) + j - at_ := by omega
        clear hcl hbb hi' hi
        cases hbt : P3.bt mask i with
        | true =>
          have hf := f2 _ fun hend _ _ hhb => hend true (by rw [fbb _ fun h => h]; exact hbt)
          have ff : Hid _ := fun (A : Prop) (h : _ → A) => h hf
          clear hf
          have hcl := fcl _ fun h => h
          rw [hbt] at hcl
          by_cases hq : (q : Int) % 2 = 1
          · have hv : tv x (fun i => hb at_ mask (8 * k + i)) (j + 1) = t := ff _ fun h => by
              rw [h]
              have e1 : (q % 2 == 1) = true := by rw [show q % 2 = 1 by omega]; rfl
              rw [e1]; rfl
            have fe : Hid _ := fun (A : Prop) (h : _ → A) => h hv
            clear hv
            repeat (with_reducible first|(first|refine pI1 ?_|refine pS1 ?_);intros|refine pA1 ?_|refine pX1 ?_|refine pB1 ?_|exact True.intro)
            refine outM_call hcl ?_
            rintro _ Hk ⟨rfl, rfl⟩
            clear hcl
            repeat (with_reducible first|(first|refine pI1 ?_|refine pS1 ?_);intros|refine pA1 ?_|refine pX1 ?_|refine pB1 ?_|exact True.intro)
            exact loopQ_n (8 - (j + 1)) (by omega) ⟨_, j + 1, rfl, rfl, by omega, zf, zf, zf, zf, zf, by rw [fe _ fun h => h]; exact zf, by rw [f2 _ fun _ h _ _ => h]; exact zf, by rw [f2 _ fun _ _ h _ => h]; exact zf, zf⟩
          · have hv : tv x (fun i => hb at_ mask (8 * k + i)) (j + 1) = t + p := ff _ fun h => by
              rw [h]
              have e1 : (q % 2 == 1) = false := by rw [show q % 2 = 0 by omega]; rfl
              rw [e1]; rfl
            have fe : Hid _ := fun (A : Prop) (h : _ → A) => h hv
            clear hv
            repeat (with_reducible first|(first|refine pI1 ?_|refine pS1 ?_);intros|refine pA1 ?_|refine pX1 ?_|refine pB1 ?_|exact True.intro)
            refine outM_call hcl ?_
            rintro _ Hk ⟨rfl, rfl⟩
            clear hcl
            repeat (with_reducible first|(first|refine pI1 ?_|refine pS1 ?_);intros|refine pA1 ?_|refine pX1 ?_|refine pB1 ?_|exact True.intro)
            exact loopQ_n (8 - (j + 1)) (by omega) ⟨_, j + 1, rfl, rfl, by omega, zf, zf, zf, zf, zf, by rw [fe _ fun h => h]; exact zf, by rw [f2 _ fun _ h _ _ => h]; exact zf, by rw [f2 _ fun _ _ h _ => h]; exact zf, zf⟩
        | false =>
          have hf := f2 _ fun hend _ _ hhb => hend false (by rw [fbb _ fun h => h]; exact hbt)
          have ff : Hid _ := fun (A : Prop) (h : _ → A) => h hf
          clear hf
          have hcl := fcl _ fun h => h
          rw [hbt] at hcl
          by_cases hq : (q : Int) % 2 = 1
          · have hv : tv x (fun i => hb at_ mask (8 * k + i)) (j + 1) = t + p := ff _ fun h => by
              rw [h]
              have e1 : (q % 2 == 1) = true := by rw [show q % 2 = 1 by omega]; rfl
              rw [e1]; rfl
            have fe : Hid _ := fun (A : Prop) (h : _ → A) => h hv
            clear hv
            repeat (with_reducible first|(first|refine pI1 ?_|refine pS1 ?_);intros|refine pA1 ?_|refine pX1 ?_|refine pB1 ?_|exact True.intro)
            refine outM_call hcl ?_
            rintro _ Hk ⟨rfl, rfl⟩
            clear hcl
            repeat (with_reducible first|(first|refine pI1 ?_|refine pS1 ?_);intros|refine pA1 ?_|refine pX1 ?_|refine pB1 ?_|exact True.intro)
            exact loopQ_n (8 - (j + 1)) (by omega) ⟨_, j + 1, rfl, rfl, by omega, zf, zf, zf, zf, zf, by rw [fe _ fun h => h]; exact zf, by rw [f2 _ fun _ h _ _ => h]; exact zf, by rw [f2 _ fun _ _ h _ => h]; exact zf, zf⟩
          · have hv : tv x (fun i => hb at_ mask (8 * k + i)) (j + 1) = t := ff _ fun h => by
              rw [h]
              have e1 : (q % 2 == 1) = false := by rw [show q % 2 = 0 by omega]; rfl
              rw [e1]; rfl
            have fe : Hid _ := fun (A : Prop) (h : _ → A) => h hv
            clear hv
            repeat (with_reducible first|(first|refine pI1 ?_|refine pS1 ?_);intros|refine pA1 ?_|refine pX1 ?_|refine pB1 ?_|exact True.intro)
            refine outM_call hcl ?_
            rintro _ Hk ⟨rfl, rfl⟩
            clear hcl
            repeat (with_reducible first|(first|refine pI1 ?_|refine pS1 ?_);intros|refine pA1 ?_|refine pX1 ?_|refine pB1 ?_|exact True.intro)
            exact loopQ_n (8 - (j + 1)) (by omega) ⟨_, j + 1, rfl, rfl, by omega, zf, zf, zf, zf, zf, by rw [fe _ fun h => h]; exact zf, by rw [f2 _ fun _ h _ _ => h]; exact zf, by rw [f2 _ fun _ _ h _ => h]; exact zf, zf⟩
      have hno : hb at_ mask (8 * k + j) = false := f2 _ fun _ _ _ hhb => by rw [hhb]; exact decide_eq_false fun h => c2 (by have := fP _ fun h => h; have := h.2.1; omega)
      have fno : Hid _ := fun (A : Prop) (h : _ → A) => h hno
      clear hno
      by_cases c3 : 8 * (k : Int) + j - at_ < 9223372036854775808
      · skip
        have hf := f2 _ fun hend _ _ hhb => hend false (by rw [fno _ fun h => h])
        have ff : Hid _ := fun (A : Prop) (h : _ → A) => h hf
        clear hf
        by_cases hq : (q : Int) % 2 = 1
        · have hv : tv x (fun i => hb at_ mask (8 * k + i)) (j + 1) = t + p := ff _ fun h => by
            rw [h]
            have e1 : (q % 2 == 1) = true := by rw [show q % 2 = 1 by omega]; rfl
            rw [e1]; rfl
          have fe : Hid _ := fun (A : Prop) (h : _ → A) => h hv
          clear hv
          repeat (with_reducible first|(first|refine pI1 ?_|refine pS1 ?_);intros|refine pA1 ?_|refine pX1 ?_|refine pB1 ?_|exact True.intro)
          exact loopQ_n (8 - (j + 1)) (by omega) ⟨_, j + 1, rfl, rfl, by omega, zf, zf, zf, zf, zf, by rw [fe _ fun h => h]; exact zf, by rw [f2 _ fun _ h _ _ => h]; exact zf, by rw [f2 _ fun _ _ h _ => h]; exact zf, zf⟩
        · have hv : tv x (fun i => hb at_ mask (8 * k + i)) (j + 1) = t := ff _ fun h => by
            rw [h]
            have e1 : (q % 2 == 1) = false := by rw [show q % 2 = 0 by omega]; rfl
            rw [e1]; rfl
          have fe : Hid _ := fun (A : Prop) (h : _ → A) => h hv
          clear hv
          repeat (with_reducible first|(first|refine pI1 ?_|refine pS1 ?_);intros|refine pA1 ?_|refine pX1 ?_|refine pB1 ?_|exact True.intro)
          exact loopQ_n (8 - (j + 1)) (by omega) ⟨_, j + 1, rfl, rfl, by omega, zf, zf, zf, zf, zf, by rw [fe _ fun h => h]; exact zf, by rw [f2 _ fun _ h _ _ => h]; exact zf, by rw [f2 _ fun _ _ h _ => h]; exact zf, zf⟩
      · have hwl := wrap_low (x := 8 * (k : Int) + j - at_) (by omega) (by omega)
        have hd1 : 8 * (k : Int) + j - at_ - 18446744073709551616 < 32 := by omega
        have hd2 : ¬ 0 ≤ 8 * (k : Int) + j - at_ - 18446744073709551616 := by omega
        have hf := f2 _ fun hend _ _ hhb => hend false (by rw [fno _ fun h => h])
        have ff : Hid _ := fun (A : Prop) (h : _ → A) => h hf
        clear hf
        by_cases hq : (q : Int) % 2 = 1
        · have hv : tv x (fun i => hb at_ mask (8 * k + i)) (j + 1) = t + p := ff _ fun h => by
            rw [h]
            have e1 : (q % 2 == 1) = true := by rw [show q % 2 = 1 by omega]; rfl
            rw [e1]; rfl
          have fe : Hid _ := fun (A : Prop) (h : _ → A) => h hv
          clear hv
          repeat (with_reducible first|(first|refine pI1 ?_|refine pS1 ?_);intros|refine pA1 ?_|refine pX1 ?_|refine pB1 ?_|exact True.intro)
          exact loopQ_n (8 - (j + 1)) (by omega) ⟨_, j + 1, rfl, rfl, by omega, zf, zf, zf, zf, zf, by rw [fe _ fun h => h]; exact zf, by rw [f2 _ fun _ h _ _ => h]; exact zf, by rw [f2 _ fun _ _ h _ => h]; exact zf, zf⟩
        · have hv : tv x (fun i => hb at_ mask (8 * k + i)) (j + 1) = t := ff _ fun h => by
            rw [h]
            have e1 : (q % 2 == 1) = false := by rw [show q % 2 = 0 by omega]; rfl
            rw [e1]; rfl
          have fe : Hid _ := fun (A : Prop) (h : _ → A) => h hv
          clear hv
          repeat (with_reducible first|(first|refine pI1 ?_|refine pS1 ?_);intros|refine pA1 ?_|refine pX1 ?_|refine pB1 ?_|exact True.intro)
          exact loopQ_n (8 - (j + 1)) (by omega) ⟨_, j + 1, rfl, rfl, by omega, zf, zf, zf, zf, zf, by rw [fe _ fun h => h]; exact zf, by rw [f2 _ fun _ h _ _ => h]; exact zf, by rw [f2 _ fun _ _ h _ => h]; exact zf, zf⟩
    · obtain rfl : j = 8 := by omega
      have hxj : ¬ ((8 : Nat) : Int) < 8 := by omega
      have htl := tv_lt x (fun i => hb at_ mask (8 * k + i)) 8
      have htl : tv x (fun i => hb at_ mask (8 * k + i)) 8 < 256 := htl
      generalize tv x (fun i => hb at_ mask (8 * k + i)) 8 = t at *
      have f3 : Hid _ := fun (A : Prop) (h : _ → A) => h htl
      clear e10 e11
      repeat (with_reducible first|(first|refine pI1 ?_|refine pS1 ?_);intros|refine pA1 ?_|refine pX1 ?_|refine pB1 ?_|exact True.intro)
      rename_i b3 H3 p3 g3 x3
      have hgr : Gr H.length H3 1 aa k oo (nats .u8 ((P3.corr l at_ mask).take k)) := f1 _ fun hall _ => hall.1.keepX fun b hb => x3 b (by omega)
      refine outM_appG (j := 1) hgr (by omega) (Sl.blk g3 rfl) (by omega) (by omega) ?_
      intro a' H4 q1 q2 q3 q4 q5
      rw [show nats .u8 ((P3.corr l at_ mask).take k) ++ [Cell.int .u8 (t : Nat)] = nats .u8 ((P3.corr l at_ mask).take (k + 1)) by rw [f1 _ fun _ h => h]; simp [nats]] at q1
      have f4 : Hid _ := fun (A : Prop) (h : _ → _ → _ → A) => h q1 q3 x3
      clear q1 q3 q4 q5 hgr x3 g3 hld
      repeat (with_reducible first|(first|refine pI1 ?_|refine pS1 ?_);intros|refine pA1 ?_|refine pX1 ?_|refine pB1 ?_|exact True.intro)
      exact loopQ_n (n - (k + 1)) (by omega) ⟨_, k + 1, true, H4, a', rfl, rfl, by omega, zf, zf, zf, zf, zf, by omega, f4 _ fun q1 q3 x3 => f1 _ fun hall _ => ⟨q1, fun b hb => by rw [q3 b hb, x3 b (by omega)]; exact hall.2 b hb⟩⟩
  · obtain rfl : k = n := by omega
    have hxt : ¬ (k : Int) < (k : Int) := by omega
    have htk : (P3.corr l at_ mask).take k = P3.corr l at_ mask := List.take_of_length_le (by rw [P3.corr_len]; exact fin0 _ fun _ hl _ => by omega)
    rw [htk] at hall
    have fh : Hid _ := fun (A : Prop) (h : _ → A) => h hall
    clear hall htk
    repeat (with_reducible first|(first|refine pI1 ?_|refine pS1 ?_);intros|refine pA1 ?_|refine pX1 ?_|refine pB1 ?_|exact True.intro)
    exact ⟨⟨aa, oo, rfl, fh _ fun h => h.1⟩, by omega, fh _ fun h => h.2⟩
end Go.Proofs.Ytbgmbnikpjjmcaa.AM.D07
