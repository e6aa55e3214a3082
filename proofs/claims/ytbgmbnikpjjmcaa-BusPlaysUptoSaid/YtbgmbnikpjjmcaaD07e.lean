/- What the functions of chapter 3 come to, fifth part: bits that are turned. -/
import Derived.Test.YtbgmbnikpjjmcaaP03
import Derived.Test.YtbgmbnikpjjmcaaA4
import Derived.Test.YtbgmbnikpjjmcaaIRD07
set_option linter.unusedVariables false
set_option linter.unusedSimpArgs false
set_option linter.unusedSectionVars false
namespace Go.Proofs.Ytbgmbnikpjjmcaa.AM.D07
open Go Go.Proofs.Ytbgmbnikpjjmcaa.AM Go.Proofs.Ytbgmbnikpjjmcaa.AM.P3
set_option maxHeartbeats 2000000
set_option maxRecDepth 100000
theorem keepX : ExtKeep F := ExtKeep.funsX fun f g h => by
  unfold X at h
  split at h
  · cases h; exact fun args H v H' e => loadX_keep e
  split at h
  · cases h; exact fun args H v H' e => addX_keep e
  cases h
theorem s_Clone {H : Heap} {a : Option Ad} {n c : Nat} {o : Bool} {xs : List Cell} (hs : Sl H 1 a n xs) (hn : n ≤ 100000) :
    WC F fn_slices_Clone_byte_byte [.c (.sl a n c o)] H fun v H' => Ob H.length H' v xs ∧ X1 H H' := by
  refine WC_start e_slices_Clone_byte_byte (by simp) ?_
  unfold c_slices_Clone_byte_byte
  cases a with
  | none =>
    have h0 := hs.nil rfl
    subst h0
    obtain rfl : xs = [] := by have := hs.len; simpa using this
    repeat (with_reducible first|(first|refine pI1 ?_|refine pS1 ?_);intros|refine pA1 ?_|refine pX1 ?_|refine pB1 ?_|exact True.intro)
    exact ⟨⟨none, _, _, rfl, Own.none _ _, fun x e => by cases e⟩, Nat.le_refl _, fun _ _ => rfl⟩
  | some a =>
    repeat (with_reducible first|(first|refine pI1 ?_|refine pS1 ?_);intros|refine pA1 ?_|refine pX1 ?_|refine pB1 ?_|exact True.intro)
    rename_i b1 H1 l1 g1 x1
    repeat (with_reducible first|(first|refine pI1 ?_|refine pS1 ?_);intros|refine pA1 ?_|refine pX1 ?_|refine pB1 ?_|exact True.intro)
    refine outM_appE (lo := H.length) (ys := xs) (fun y e => by cases e; exact ⟨rfl, by omega, _, _, _, g1⟩) (by omega) (hs.to fun b hb => by simp (disch := first | with_reducible assumption | omega) only [go_sem, *, reduceCtorEq, ↓reduceIte, Nat.reduceLT, Nat.reduceBEq, Nat.reduceAdd, Nat.reduceSub, Nat.reduceMul, Nat.reduceDiv, Nat.reduceMod, Nat.reducePow, Nat.reduceEqDiff, Nat.reduceLeDiff, Int.reduceLT, Int.reduceLE, Int.reduceNeg, Int.reduceToNat, Int.reduceAdd, Int.reduceSub, Int.reduceMul, Int.reduceEq, Int.reduceNe, Int.reduceBEq, Int.reduceBNe, Int.reducePow]) (by omega) ?_
    intro v H2 h2 l2 x2
    repeat (with_reducible first|(first|refine pI1 ?_|refine pS1 ?_);intros|refine pA1 ?_|refine pX1 ?_|refine pB1 ?_|exact True.intro)
    exact ⟨h2, by omega, fun b hb => by simp (disch := first | with_reducible assumption | omega) only [go_sem, *, reduceCtorEq, ↓reduceIte, Nat.reduceLT, Nat.reduceBEq, Nat.reduceAdd, Nat.reduceSub, Nat.reduceMul, Nat.reduceDiv, Nat.reduceMod, Nat.reducePow, Nat.reduceEqDiff, Nat.reduceLeDiff, Int.reduceLT, Int.reduceLE, Int.reduceNeg, Int.reduceToNat, Int.reduceAdd, Int.reduceSub, Int.reduceMul, Int.reduceEq, Int.reduceNe, Int.reduceBEq, Int.reduceBNe, Int.reducePow]⟩
theorem it_bits {b mask : Nat} (hm : mask < 4294967296) : Iter F fn_frame_bits_1 [] [(b, 0)] (fun x => x = b) (fun H => H[b]? = some (.cells [.int .u32 (mask : Nat)] false none)) (bl mask 32 0) := by
  intro l H J E hP hl hSl hJ hE hr h0 hfin
  refine WC_start e_frame_bits_1 (by simp) ?_
  unfold c_frame_bits_1
  repeat (with_reducible first|(first|refine pI1 ?_|refine pS1 ?_);intros|refine pA1 ?_|refine pX1 ?_|refine pB1 ?_|exact True.intro)
  refine W_loop (fun m st => ∃ ρ j Hk, st = ⟨L 23 ρ, [], Hk⟩ ∧ m = 32 - j ∧ j ≤ 32 ∧ ρ 0 = .c (.yld l) ∧ ρ 1 = .c (.ptr (some (b, 0))) ∧ ρ 4 = .c (.int .i64 (j : Nat)) ∧ Hk[b]? = some (.cells [.int .u32 (mask : Nat)] false none) ∧ J (bl mask (32 - j) j) Hk) 32 ⟨_, 0, H, rfl, rfl, by omega, zf, zf, zf, hP, h0⟩ ?_
  rintro m st ⟨ρ, j, Hk, rfl, rfl, hj, e0, e1, e4, hb, hJk⟩
  unfold b_frame_bits_1_6
  clear hJ hE
  repeat (with_reducible first|(first|refine pI1 ?_|refine pS1 ?_);intros|refine pA1 ?_|refine pX1 ?_|refine pB1 ?_|exact True.intro)
  first | refine ifM_d ?_ ?_ | refine gM_dt ?_ ?_ | refine gM_df ?_ ?_
  · intro hlt
    obtain ⟨q, hq⟩ : ∃ q, mask / 2 ^ j = q := ⟨_, rfl⟩
    repeat (with_reducible first|(first|refine pI1 ?_|refine pS1 ?_);intros|refine pA1 ?_|refine pX1 ?_|refine pB1 ?_|exact True.intro)
    first | refine ifM_d ?_ ?_ | refine gM_dt ?_ ?_ | refine gM_df ?_ ?_
    · intro hz
      repeat (with_reducible first|(first|refine pI1 ?_|refine pS1 ?_);intros|refine pA1 ?_|refine pX1 ?_|refine pB1 ?_|exact True.intro)
      rw [bl_none _ _ (by omega)] at hJk
      exact hfin _ hJk
    · intro hz
      have step : bl mask (32 - j) j = if bt mask j then [.c (.int .i64 (j : Nat))] :: bl mask (32 - (j + 1)) (j + 1) else bl mask (32 - (j + 1)) (j + 1) := by
        rw [show 32 - j = (32 - (j + 1)) + 1 by omega]; rfl
      rw [step] at hJk
      clear step
      by_cases hbit : q % 2 = 1
      · rw [if_pos (by unfold bt; rw [hq, hbit]; rfl)] at hJk
        repeat (with_reducible first|(first|refine pI1 ?_|refine pS1 ?_);intros|refine pA1 ?_|refine pX1 ?_|refine pB1 ?_|exact True.intro)
        refine outM_yld (hr _ _ Hk hJk) ?_
        rintro v H' ⟨k1, k2, ⟨rfl, k3⟩ | ⟨rfl, k3⟩⟩
        · have hb' := (k1 b rfl).trans hb
          repeat (with_reducible first|(first|refine pI1 ?_|refine pS1 ?_);intros|refine pA1 ?_|refine pX1 ?_|refine pB1 ?_|exact True.intro)
          refine loopQ_n (32 - (j + 1)) (by omega) ⟨_, j + 1, H', rfl, rfl, by omega, zf, zf, zf, hb', k3⟩
        · repeat (with_reducible first|(first|refine pI1 ?_|refine pS1 ?_);intros|refine pA1 ?_|refine pX1 ?_|refine pB1 ?_|exact True.intro)
          exact k3
      · rw [if_neg (by unfold bt; rw [hq]; simp; omega)] at hJk
        repeat (with_reducible first|(first|refine pI1 ?_|refine pS1 ?_);intros|refine pA1 ?_|refine pX1 ?_|refine pB1 ?_|exact True.intro)
        refine loopQ_n (32 - (j + 1)) (by omega) ⟨_, j + 1, Hk, rfl, rfl, by omega, zf, zf, zf, hb, hJk⟩
  · intro hge
    obtain rfl : j = 32 := by omega
    repeat (with_reducible first|(first|refine pI1 ?_|refine pS1 ?_);intros|refine pA1 ?_|refine pX1 ?_|refine pB1 ?_|exact True.intro)
    exact hfin _ ((by simpa [bl] using hJk))
theorem s_bits {H : Heap} {mask : Nat} : WC F fn_frame_bits [.c (.int .u32 (mask : Nat))] H fun v H' => ∃ b, v = .c (.fn fn_frame_bits_1 [] [(b, 0)]) ∧ H.length ≤ b ∧ b < H'.length ∧ H'[b]? = some (.cells [.int .u32 (mask : Nat)] false none) ∧ X1 H H' := by
  refine WC_start e_frame_bits (by simp) ?_
  unfold c_frame_bits
  repeat (with_reducible first|(first|refine pI1 ?_|refine pS1 ?_);intros|refine pA1 ?_|refine pX1 ?_|refine pB1 ?_|exact True.intro)
  exact ⟨_, rfl, by omega, by omega, by assumption, by omega, fun b hb => by simp (disch := first | with_reducible assumption | omega) only [go_sem, *, reduceCtorEq, ↓reduceIte, Nat.reduceLT, Nat.reduceBEq, Nat.reduceAdd, Nat.reduceSub, Nat.reduceMul, Nat.reduceDiv, Nat.reduceMod, Nat.reducePow, Nat.reduceEqDiff, Nat.reduceLeDiff, Int.reduceLT, Int.reduceLE, Int.reduceNeg, Int.reduceToNat, Int.reduceAdd, Int.reduceSub, Int.reduceMul, Int.reduceEq, Int.reduceNe, Int.reduceBEq, Int.reduceBNe, Int.reducePow]⟩
theorem s_Corrupt {H : Heap} {a : Option Ad} {n c : Nat} {o : Bool} {l : List Nat} {at_ : Int} {mask : Nat} (hs : Sl H 1 a n (nats .u8 l)) (hn : n ≤ 100000) (ha1 : -9223372036854775808 ≤ at_) (ha2 : at_ < 9223372036854775808) (hm : mask < 4294967296) (hby : ∀ x ∈ l, x < 256) :
    WC F fn_frame_Corrupt [.c (.sl a n c o), .c (.int .i64 at_), .c (.int .u32 (mask : Nat))] H fun v H' => Ob H.length H' v (nats .u8 (corr l at_ mask)) ∧ X1 H H' := by
  refine WC_start e_frame_Corrupt (by simp) ?_
  unfold c_frame_Corrupt
  have hlen := hs.len
  rw [nats_len, Nat.mul_one] at hlen
  repeat (with_reducible first|(first|refine pI1 ?_|refine pS1 ?_);intros|refine pA1 ?_|refine pX1 ?_|refine pB1 ?_|exact True.intro)
  rename_i b1 H1 l1 g1 x1 b2 H2 l2 g2 x2
  repeat (with_reducible first|(first|refine pI1 ?_|refine pS1 ?_);intros|refine pA1 ?_|refine pX1 ?_|refine pB1 ?_|exact True.intro)
  refine outM_call (s_Clone (hs.to fun b hb => by simp (disch := first | with_reducible assumption | omega) only [go_sem, *, reduceCtorEq, ↓reduceIte, Nat.reduceLT, Nat.reduceBEq, Nat.reduceAdd, Nat.reduceSub, Nat.reduceMul, Nat.reduceDiv, Nat.reduceMod, Nat.reducePow, Nat.reduceEqDiff, Nat.reduceLeDiff, Int.reduceLT, Int.reduceLE, Int.reduceNeg, Int.reduceToNat, Int.reduceAdd, Int.reduceSub, Int.reduceMul, Int.reduceEq, Int.reduceNe, Int.reduceBEq, Int.reduceBNe, Int.reducePow]) (by omega)) ?_
  rintro v H3 ⟨hv, l3, x3⟩
  have hnl : (nats .u8 l).length = n := by rw [nats_len, hlen]
  have hv' := hv
  obtain ⟨a', c', o', rfl, own3, hlo⟩ := hv'
  rw [hnl] at hv own3 ⊢
  have hob : ∀ x, a' = some x → x.1 < H3.length := fun x e => own3.lt (b := x.1) (x := x.2) e
  repeat (with_reducible first|(first|refine pI1 ?_|refine pS1 ?_);intros|refine pA1 ?_|refine pX1 ?_|refine pB1 ?_|exact True.intro)
  rename_i b4 H4 l4 g4 x4 H5 l5 g5 x5
  have hv5 := hv.keep (H' := H5) fun b hb hb' => by simp (disch := first | with_reducible assumption | omega) only [go_sem, *, reduceCtorEq, ↓reduceIte, Nat.reduceLT, Nat.reduceBEq, Nat.reduceAdd, Nat.reduceSub, Nat.reduceMul, Nat.reduceDiv, Nat.reduceMod, Nat.reducePow, Nat.reduceEqDiff, Nat.reduceLeDiff, Int.reduceLT, Int.reduceLE, Int.reduceNeg, Int.reduceToNat, Int.reduceAdd, Int.reduceSub, Int.reduceMul, Int.reduceEq, Int.reduceNe, Int.reduceBEq, Int.reduceBNe, Int.reducePow]
  by_cases c1 : at_ < -32
  · have e : corr l at_ mask = l := R_same (a := 0) (Nat.zero_le _) (fun k _ h2 h3 => by have := h3.2.1; omega)
    rw [e]
    repeat (with_reducible first|(first|refine pI1 ?_|refine pS1 ?_);intros|refine pA1 ?_|refine pX1 ?_|refine pB1 ?_|exact True.intro)
    exact ⟨hv5.mono (lo' := H.length) (by omega), by omega, fun b hb => by simp (disch := first | with_reducible assumption | omega) only [go_sem, *, reduceCtorEq, ↓reduceIte, Nat.reduceLT, Nat.reduceBEq, Nat.reduceAdd, Nat.reduceSub, Nat.reduceMul, Nat.reduceDiv, Nat.reduceMod, Nat.reducePow, Nat.reduceEqDiff, Nat.reduceLeDiff, Int.reduceLT, Int.reduceLE, Int.reduceNeg, Int.reduceToNat, Int.reduceAdd, Int.reduceSub, Int.reduceMul, Int.reduceEq, Int.reduceNe, Int.reduceBEq, Int.reduceBNe, Int.reducePow]⟩
  · by_cases c2 : ((8 * n : Nat) : Int) < at_
    · have e : corr l at_ mask = l := R_same (a := 0) (Nat.zero_le _) (fun k _ h2 h3 => by have := h3.1; rw [hlen] at h2; omega)
      rw [e]
      repeat (with_reducible first|(first|refine pI1 ?_|refine pS1 ?_);intros|refine pA1 ?_|refine pX1 ?_|refine pB1 ?_|exact True.intro)
      exact ⟨hv5.mono (lo' := H.length) (by omega), by omega, fun b hb => by simp (disch := first | with_reducible assumption | omega) only [go_sem, *, reduceCtorEq, ↓reduceIte, Nat.reduceLT, Nat.reduceBEq, Nat.reduceAdd, Nat.reduceSub, Nat.reduceMul, Nat.reduceDiv, Nat.reduceMod, Nat.reducePow, Nat.reduceEqDiff, Nat.reduceLeDiff, Int.reduceLT, Int.reduceLE, Int.reduceNeg, Int.reduceToNat, Int.reduceAdd, Int.reduceSub, Int.reduceMul, Int.reduceEq, Int.reduceNe, Int.reduceBEq, Int.reduceBNe, Int.reducePow]⟩
    · repeat (with_reducible first|(first|refine pI1 ?_|refine pS1 ?_);intros|refine pA1 ?_|refine pX1 ?_|refine pB1 ?_|exact True.intro)
      repeat (with_reducible first|(first|refine pI1 ?_|refine pS1 ?_);intros|refine pA1 ?_|refine pX1 ?_|refine pB1 ?_|exact True.intro)
      refine outM_call (s_bits (mask := mask)) ?_
      rintro _ H6 ⟨b6, rfl, hb6, hb6', g6, l6, x6⟩
      repeat (with_reducible first|(first|refine pI1 ?_|refine pS1 ?_);intros|refine pA1 ?_|refine pX1 ?_|refine pB1 ?_|exact True.intro)
      generalize hρ : Env.up _ 23 _ = ρ0
      have e3 : ρ0 3 = .c (.ptr (some (b1, 0))) := by rw [← hρ]; exact zf
      have e4 : ρ0 4 = .c (.ptr (some (b2, 0))) := by rw [← hρ]; exact zf
      have e7 : ρ0 7 = .c (.ptr (some (b4, 0))) := by rw [← hρ]; exact zf
      have e23 : ρ0 23 = .c (.fn fn_frame_bits_1 [] [(b6, 0)]) := by rw [← hρ]; exact zf
      clear hρ
      unfold a_frame_Corrupt_9
      refine W_range (F := F) keepX zf (it_bits hm) (fun r Hx => ∃ j, j ≤ 32 ∧ r = bl mask (32 - j) j ∧ H6.length ≤ Hx.length ∧ (∀ b, b < H2.length ∨ b = b4 → Hx[b]? = H5[b]?) ∧ Own Hx 1 a' n c' o' (nats .u8 (R l at_ mask (clamp n (at_ + j)))))
        (fun _ _ => False) (fun J => get_app' J g6) (fun b hb => by subst hb; exact hb6') ?_ (fun _ _ _ h => h.elim) ?_ ?_ ?_ (fun _ _ h => h.elim)
      · rintro r H7 H8 ⟨j, j1, j2, j3, j4, j5⟩ hf
        have hl := hf.len
        have hx : ∀ b, b < H7.length → b ≠ b6 → b ≠ H6.length + 1 → H8[b]? = H7[b]? := fun b h1 h2 h3 => hf.old b h1 (by omega)
        exact ⟨j, j1, j2, by omega, fun b hb => by simp (disch := first | with_reducible assumption | omega) only [go_sem, *, reduceCtorEq, ↓reduceIte, Nat.reduceLT, Nat.reduceBEq, Nat.reduceAdd, Nat.reduceSub, Nat.reduceMul, Nat.reduceDiv, Nat.reduceMod, Nat.reducePow, Nat.reduceEqDiff, Nat.reduceLeDiff, Int.reduceLT, Int.reduceLE, Int.reduceNeg, Int.reduceToNat, Int.reduceAdd, Int.reduceSub, Int.reduceMul, Int.reduceEq, Int.reduceNe, Int.reduceBEq, Int.reduceBNe, Int.reducePow], j5.keep fun b x e => hx b (j5.lt e) (by have := hob _ e; simp only at this; omega) (by have := hob _ e; simp only at this; omega)⟩
      · intro rr
        have hx : ∀ b, b < H6.length → (H6 ++ [.defd, .loop .ready none rr])[b]? = H6[b]? := fun b hb => get_app _ hb
        refine ⟨0, by omega, rfl, by simp, fun b hb => by simp (disch := first | with_reducible assumption | omega) only [go_sem, *, reduceCtorEq, ↓reduceIte, Nat.reduceLT, Nat.reduceBEq, Nat.reduceAdd, Nat.reduceSub, Nat.reduceMul, Nat.reduceDiv, Nat.reduceMod, Nat.reducePow, Nat.reduceEqDiff, Nat.reduceLeDiff, Int.reduceLT, Int.reduceLE, Int.reduceNeg, Int.reduceToNat, Int.reduceAdd, Int.reduceSub, Int.reduceMul, Int.reduceEq, Int.reduceNe, Int.reduceBEq, Int.reduceBNe, Int.reducePow], ?_⟩
        have : R l at_ mask (clamp n (at_ + (0 : Nat))) = l := by
          rw [R_same (a := 0) (Nat.zero_le _) (fun k _ h2 h3 => by unfold clamp at h2; have := h3.1; omega)]; rfl
        rw [this]
        refine own3.keep fun b x e => ?_
        have := hob _ e; simp only at this
        simp (disch := first | with_reducible assumption | omega) only [go_sem, *, reduceCtorEq, ↓reduceIte, Nat.reduceLT, Nat.reduceBEq, Nat.reduceAdd, Nat.reduceSub, Nat.reduceMul, Nat.reduceDiv, Nat.reduceMod, Nat.reducePow, Nat.reduceEqDiff, Nat.reduceLeDiff, Int.reduceLT, Int.reduceLE, Int.reduceNeg, Int.reduceToNat, Int.reduceAdd, Int.reduceSub, Int.reduceMul, Int.reduceEq, Int.reduceNe, Int.reduceBEq, Int.reduceBNe, Int.reducePow]
      · rintro x rest H7 ⟨j, j1, j2, j3, j4, j5⟩
        obtain ⟨i, i1, i2, i3, i4, rfl, rfl⟩ := bl_cons j2.symm
        refine ⟨rfl, ?_⟩
        simp only [List.zip_cons_cons, List.zip_nil_left, List.foldl_cons, List.foldl_nil, L_set]
        repeat (with_reducible first|(first|refine pI1 ?_|refine pS1 ?_);intros|refine pA1 ?_|refine pX1 ?_|refine pB1 ?_|exact True.intro)
        refine ⟨rfl, rfl, rfl, ?_⟩
        rintro H8 ⟨q, q1, q2, q3, q4, q5⟩ hlp
        obtain ⟨i', p1, p2, p3, p4, p5, p6⟩ := bl_cons q2.symm
        obtain rfl : i' = i := by simp at p5; omega
        unfold b_frame_Corrupt_10
        have hcl : (R l at_ mask (clamp n (at_ + q))).length = n := by rw [R_len, hlen]
        have y1 := q4 b1 (by omega)
        have y2 := q4 b2 (by omega)
        have y3 := q4 b4 (by omega)
        have z1 := lt_of_get g1
        have z2 := lt_of_get g2
        try dsimp only
        have hst : bl mask (j + (32 - j) - (i' + 1)) (i' + 1) = bl mask (32 - (i' + 1)) (i' + 1) := by rw [show j + (32 - j) - (i' + 1) = 32 - (i' + 1) by omega]
        have hsk : ∀ m, clamp n (at_ + q) ≤ m → m < clamp n (at_ + i') → ¬ hit at_ mask m := by
          intro m m1 m2 m3
          unfold clamp at m1 m2
          have := p4 ((m : Int) - at_).toNat (by have := m3.1; omega) (by have := m3.1; omega)
          rw [m3.2.2] at this; cases this
        have hR1 : R l at_ mask (clamp n (at_ + i')) = R l at_ mask (clamp n (at_ + q)) := R_same (by unfold clamp; omega) hsk
        by_cases h1 : 0 ≤ at_ + i' ∧ at_ + i' < 8 * n
        · obtain ⟨k, hk⟩ : ∃ k : Nat, at_ + (i' : Int) = (k : Int) := ⟨(at_ + i').toNat, by omega⟩
          have hk8 : k / 8 < n := by omega
          obtain ⟨b, rfl, hb1, hb2, hblk⟩ : ∃ b, a' = some (b, 0) ∧ H2.length ≤ b ∧ b < H3.length ∧ H8[b]? = some (.cells (nats .u8 (R l at_ mask (clamp n (at_ + q)))) false (some 1)) := by
            rcases q5 with ⟨_, h, _⟩ | ⟨b, rfl, _, _, _, hb⟩ | ⟨b, _, h, _⟩
            · omega
            · exact ⟨b, rfl, hlo _ rfl, hob _ rfl, hb⟩
            · omega
          have hq8 : ((k : Int) / 8).toNat = k / 8 := by omega
          have hr8 : ((k : Int) % 8).toNat = k % 8 := by omega
          have hp8 : 1 * 2 ^ (k % 8) % 256 = 2 ^ (k % 8) := by
            have : ∀ j, j < 8 → 1 * 2 ^ j % 256 = 2 ^ j := by decide
            exact this _ (Nat.mod_lt _ (by decide))
          have hkc : clamp n (at_ + q) ≤ k := by unfold clamp; omega
          have hR2 : R l at_ mask (clamp n (at_ + (i' + 1 : Nat))) = fl k (R l at_ mask (clamp n (at_ + q))) := by
            have e1 : clamp n (at_ + (i' + 1 : Nat)) = k + 1 := by unfold clamp; omega
            have e2 : clamp n (at_ + i') = k := by unfold clamp; omega
            rw [e1, R_flip ⟨by omega, by omega, by rw [show ((k : Int) - at_).toNat = i' by omega]; exact p3⟩, ← hR1, e2]
          have hgl : gx (R l at_ mask (clamp n (at_ + q))) (k / 8) < 256 := lt_gx (R_by hby at_ mask _) _
          generalize R l at_ mask (clamp n (at_ + q)) = xs at *
          repeat (with_reducible first|(first|refine pI1 ?_|refine pS1 ?_);intros|refine pA1 ?_|refine pX1 ?_|refine pB1 ?_|exact True.intro)
          rename_i H9 l9 g9 x9
          refine ⟨⟨none, by rw [x9 _ (by omega)]; exact hlp⟩, fun b' hb' => by subst hb'; exact x9 _ (by omega), (by show H8.length ≤ H9.length; omega), i' + 1, by omega, hst, (by show H6.length ≤ H9.length; omega), fun b' hb' => ?_, ?_⟩
          · rw [x9 _ (by omega), q4 b' hb']
          · rw [hR2]
            rcases q5 with ⟨h, _⟩ | ⟨_, _, e1, e2, e3, _⟩ | ⟨_, _, h, _⟩
            · cases h
            · exact .inr (.inl ⟨b, rfl, e1, e2, by rw [nats_len, fl_len]; rw [nats_len] at e3; exact e3, by rw [g9, nats_set]; rfl⟩)
            · omega
        · have hR2 : R l at_ mask (clamp n (at_ + (i' + 1 : Nat))) = R l at_ mask (clamp n (at_ + q)) := by
            rw [← hR1]
            exact R_same (by unfold clamp; omega) fun m m1 m2 m3 => by unfold clamp at m1 m2; omega
          by_cases h2 : 0 ≤ at_ + i'
          · repeat (with_reducible first|(first|refine pI1 ?_|refine pS1 ?_);intros|refine pA1 ?_|refine pX1 ?_|refine pB1 ?_|exact True.intro)
            exact ⟨⟨none, hlp⟩, fun _ _ => rfl, Nat.le_refl _, i' + 1, by omega, hst, q3, q4, by rw [hR2]; exact q5⟩
          · repeat (with_reducible first|(first|refine pI1 ?_|refine pS1 ?_);intros|refine pA1 ?_|refine pX1 ?_|refine pB1 ?_|exact True.intro)
            exact ⟨⟨none, hlp⟩, fun _ _ => rfl, Nat.le_refl _, i' + 1, by omega, hst, q3, q4, by rw [hR2]; exact q5⟩
      · rintro H7 ⟨j, j1, j2, j3, j4, j5⟩ hd hl
        have : R l at_ mask (8 * n) = R l at_ mask (clamp n (at_ + j)) := by
          refine R_same (by unfold clamp; omega) (fun k h1 h2 h3 => ?_)
          unfold clamp at h1
          have h4 := bl_end j2.symm ((k : Int) - at_).toNat (by have := h3.1; omega) (by have := h3.1; have := h3.2.1; omega)
          rw [h3.2.2] at h4
          cases h4
        rw [← this, ← hlen] at j5
        have y3 := j4 b4 (by omega)
        repeat (with_reducible first|(first|refine pI1 ?_|refine pS1 ?_);intros|refine pA1 ?_|refine pX1 ?_|refine pB1 ?_|exact True.intro)
        refine callQ_1 hd ?_
        intro H8 l8 x8
        repeat (with_reducible first|(first|refine pI1 ?_|refine pS1 ?_);intros|refine pA1 ?_|refine pX1 ?_|refine pB1 ?_|exact True.intro)
        refine ⟨⟨a', c', o', by rw [nats_len, corr_len, hlen], ?_, fun x e => by have := hlo x e; omega⟩, by omega, fun b hb => ?_⟩
        · subst hlen
          rw [nats_len, corr_len]
          unfold corr
          refine j5.keep fun b x e => x8 b (by have := hob _ e; simp only at this; omega)
        · rw [x8 b (by omega), j4 b (by omega)]
          simp (disch := first | with_reducible assumption | omega) only [go_sem, *, reduceCtorEq, ↓reduceIte, Nat.reduceLT, Nat.reduceBEq, Nat.reduceAdd, Nat.reduceSub, Nat.reduceMul, Nat.reduceDiv, Nat.reduceMod, Nat.reducePow, Nat.reduceEqDiff, Nat.reduceLeDiff, Int.reduceLT, Int.reduceLE, Int.reduceNeg, Int.reduceToNat, Int.reduceAdd, Int.reduceSub, Int.reduceMul, Int.reduceEq, Int.reduceNe, Int.reduceBEq, Int.reduceBNe, Int.reducePow]
end Go.Proofs.Ytbgmbnikpjjmcaa.AM.D07
