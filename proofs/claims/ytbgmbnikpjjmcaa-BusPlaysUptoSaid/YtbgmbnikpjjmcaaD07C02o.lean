/- What the document's functions of chapter 2 come to: ports. -/
import Derived.Test.YtbgmbnikpjjmcaaD07C02n
set_option linter.unusedVariables false
set_option linter.unusedSimpArgs false
set_option linter.unusedSectionVars false
namespace Go.Proofs.Ytbgmbnikpjjmcaa.AM.D07
open Go Go.Proofs.Ytbgmbnikpjjmcaa.AM Go.Proofs.Ytbgmbnikpjjmcaa.AM.C02
set_option maxHeartbeats 2000000
set_option maxRecDepth 100000
attribute [local go_sem] tn_add1 tn_sub1 put_all' nums_len sub12 sub3 sub6
section
variable {N : Nat} {H : Heap} {c : Cfg} {h : Hd}
theorem s_rAlone {p : Pt} : WC F fn_rotaref02_Alone [.agg p.cells] H fun v H' => v = .c (.bool (dB p.ok)) ∧ Xt H H' := by
  refine WC_start e_rotaref02_Alone (by simp) ?_
  unfold c_rotaref02_Alone Pt.cells
  have hok : p.ok ↔ ((p.kind = 1 ∨ p.kind = 2) ∧ (p.dir = 1 ∨ p.dir = 2) ∧ 1 ≤ p.size ∧ p.size ≤ 32 ∧ (p.kind = 2 → 1 ≤ p.depth ∧ p.depth ≤ 8 ∧ p.fresh = 0) ∧ (p.kind ≠ 2 → p.depth = 0 ∧ (p.dir = 2 → 1 ≤ p.fresh ∧ p.fresh ≤ 65535) ∧ (p.dir ≠ 2 → p.fresh = 0))) := Iff.rfl
  generalize p.ok = P at *
  obtain ⟨pa, kd, dr, sz, dp, fr⟩ := p
  dsimp only at hok ⊢
  have fo : Hid _ := fun (A : Prop) (h : _ → A) => h hok
  clear hok
  by_cases a1 : kd < 1
  · have e : dB P = false := dB_f fun h => fo _ fun hok => by have := (hok.1 h).1; omega
    rw [e]
    repeat (with_reducible first|(first|refine pI1 ?_|refine pS1 ?_);intros|refine pA1 ?_|refine pX1 ?_|refine pB1 ?_|exact True.intro)
    rename_i b1 H1 p1 g1 x1
    repeat (with_reducible first|(first|refine pI1 ?_|refine pS1 ?_);intros|refine pA1 ?_|refine pX1 ?_|refine pB1 ?_|exact True.intro)
    exact ⟨rfl, by omega, fun b hb => x1 b (by omega)⟩
  by_cases a2 : 2 < kd
  · have e : dB P = false := dB_f fun h => fo _ fun hok => by have := (hok.1 h).1; omega
    rw [e]
    repeat (with_reducible first|(first|refine pI1 ?_|refine pS1 ?_);intros|refine pA1 ?_|refine pX1 ?_|refine pB1 ?_|exact True.intro)
    rename_i b1 H1 p1 g1 x1
    repeat (with_reducible first|(first|refine pI1 ?_|refine pS1 ?_);intros|refine pA1 ?_|refine pX1 ?_|refine pB1 ?_|exact True.intro)
    exact ⟨rfl, by omega, fun b hb => x1 b (by omega)⟩
  by_cases a3 : dr < 1
  · have e : dB P = false := dB_f fun h => fo _ fun hok => by have := (hok.1 h).2.1; omega
    rw [e]
    repeat (with_reducible first|(first|refine pI1 ?_|refine pS1 ?_);intros|refine pA1 ?_|refine pX1 ?_|refine pB1 ?_|exact True.intro)
    rename_i b1 H1 p1 g1 x1
    repeat (with_reducible first|(first|refine pI1 ?_|refine pS1 ?_);intros|refine pA1 ?_|refine pX1 ?_|refine pB1 ?_|exact True.intro)
    exact ⟨rfl, by omega, fun b hb => x1 b (by omega)⟩
  by_cases a4 : 2 < dr
  · have e : dB P = false := dB_f fun h => fo _ fun hok => by have := (hok.1 h).2.1; omega
    rw [e]
    repeat (with_reducible first|(first|refine pI1 ?_|refine pS1 ?_);intros|refine pA1 ?_|refine pX1 ?_|refine pB1 ?_|exact True.intro)
    rename_i b1 H1 p1 g1 x1
    repeat (with_reducible first|(first|refine pI1 ?_|refine pS1 ?_);intros|refine pA1 ?_|refine pX1 ?_|refine pB1 ?_|exact True.intro)
    exact ⟨rfl, by omega, fun b hb => x1 b (by omega)⟩
  by_cases a5 : sz < 1
  · have e : dB P = false := dB_f fun h => fo _ fun hok => by have := (hok.1 h).2.2.1; omega
    rw [e]
    repeat (with_reducible first|(first|refine pI1 ?_|refine pS1 ?_);intros|refine pA1 ?_|refine pX1 ?_|refine pB1 ?_|exact True.intro)
    rename_i b1 H1 p1 g1 x1
    repeat (with_reducible first|(first|refine pI1 ?_|refine pS1 ?_);intros|refine pA1 ?_|refine pX1 ?_|refine pB1 ?_|exact True.intro)
    exact ⟨rfl, by omega, fun b hb => x1 b (by omega)⟩
  by_cases a6 : 32 < sz
  · have e : dB P = false := dB_f fun h => fo _ fun hok => by have := (hok.1 h).2.2.2.1; omega
    rw [e]
    repeat (with_reducible first|(first|refine pI1 ?_|refine pS1 ?_);intros|refine pA1 ?_|refine pX1 ?_|refine pB1 ?_|exact True.intro)
    rename_i b1 H1 p1 g1 x1
    repeat (with_reducible first|(first|refine pI1 ?_|refine pS1 ?_);intros|refine pA1 ?_|refine pX1 ?_|refine pB1 ?_|exact True.intro)
    exact ⟨rfl, by omega, fun b hb => x1 b (by omega)⟩
  by_cases k2 : kd = 2
  · by_cases d1 : 1 ≤ dp
    case neg =>
      have e : dB P = false := dB_f fun h => fo _ fun hok => by have := (hok.1 h).2.2.2.2.1 k2; omega
      rw [e]
      repeat (with_reducible first|(first|refine pI1 ?_|refine pS1 ?_);intros|refine pA1 ?_|refine pX1 ?_|refine pB1 ?_|exact True.intro)
      rename_i b1 H1 p1 g1 x1
      repeat (with_reducible first|(first|refine pI1 ?_|refine pS1 ?_);intros|refine pA1 ?_|refine pX1 ?_|refine pB1 ?_|exact True.intro)
      exact ⟨rfl, by omega, fun b hb => x1 b (by omega)⟩
    by_cases d2 : dp ≤ 8
    case neg =>
      have e : dB P = false := dB_f fun h => fo _ fun hok => by have := (hok.1 h).2.2.2.2.1 k2; omega
      rw [e]
      repeat (with_reducible first|(first|refine pI1 ?_|refine pS1 ?_);intros|refine pA1 ?_|refine pX1 ?_|refine pB1 ?_|exact True.intro)
      rename_i b1 H1 p1 g1 x1
      repeat (with_reducible first|(first|refine pI1 ?_|refine pS1 ?_);intros|refine pA1 ?_|refine pX1 ?_|refine pB1 ?_|exact True.intro)
      exact ⟨rfl, by omega, fun b hb => x1 b (by omega)⟩
    by_cases d3 : fr = 0
    · have e : dB P = true := dB_t (fo _ fun hok => hok.2 ⟨by omega, by omega, by omega, by omega, fun _ => ⟨d1, d2, d3⟩, fun h => absurd k2 h⟩)
      rw [e]
      repeat (with_reducible first|(first|refine pI1 ?_|refine pS1 ?_);intros|refine pA1 ?_|refine pX1 ?_|refine pB1 ?_|exact True.intro)
      rename_i b1 H1 p1 g1 x1
      repeat (with_reducible first|(first|refine pI1 ?_|refine pS1 ?_);intros|refine pA1 ?_|refine pX1 ?_|refine pB1 ?_|exact True.intro)
      exact ⟨rfl, by omega, fun b hb => x1 b (by omega)⟩
    · have e : dB P = false := dB_f fun h => fo _ fun hok => by have := (hok.1 h).2.2.2.2.1 k2; omega
      rw [e]
      repeat (with_reducible first|(first|refine pI1 ?_|refine pS1 ?_);intros|refine pA1 ?_|refine pX1 ?_|refine pB1 ?_|exact True.intro)
      rename_i b1 H1 p1 g1 x1
      repeat (with_reducible first|(first|refine pI1 ?_|refine pS1 ?_);intros|refine pA1 ?_|refine pX1 ?_|refine pB1 ?_|exact True.intro)
      exact ⟨rfl, by omega, fun b hb => x1 b (by omega)⟩
  by_cases d1 : dp = 0
  case neg =>
    have e : dB P = false := dB_f fun h => fo _ fun hok => d1 ((hok.1 h).2.2.2.2.2 k2).1
    rw [e]
    by_cases r2 : dr = 2
    · repeat (with_reducible first|(first|refine pI1 ?_|refine pS1 ?_);intros|refine pA1 ?_|refine pX1 ?_|refine pB1 ?_|exact True.intro)
      rename_i b1 H1 p1 g1 x1
      repeat (with_reducible first|(first|refine pI1 ?_|refine pS1 ?_);intros|refine pA1 ?_|refine pX1 ?_|refine pB1 ?_|exact True.intro)
      exact ⟨rfl, by omega, fun b hb => x1 b (by omega)⟩
    · repeat (with_reducible first|(first|refine pI1 ?_|refine pS1 ?_);intros|refine pA1 ?_|refine pX1 ?_|refine pB1 ?_|exact True.intro)
      rename_i b1 H1 p1 g1 x1
      repeat (with_reducible first|(first|refine pI1 ?_|refine pS1 ?_);intros|refine pA1 ?_|refine pX1 ?_|refine pB1 ?_|exact True.intro)
      exact ⟨rfl, by omega, fun b hb => x1 b (by omega)⟩
  by_cases r2 : dr = 2
  · by_cases f1 : 1 ≤ fr
    case neg =>
      have e : dB P = false := dB_f fun h => fo _ fun hok => by have := ((hok.1 h).2.2.2.2.2 k2).2.1 r2; omega
      rw [e]
      repeat (with_reducible first|(first|refine pI1 ?_|refine pS1 ?_);intros|refine pA1 ?_|refine pX1 ?_|refine pB1 ?_|exact True.intro)
      rename_i b1 H1 p1 g1 x1
      repeat (with_reducible first|(first|refine pI1 ?_|refine pS1 ?_);intros|refine pA1 ?_|refine pX1 ?_|refine pB1 ?_|exact True.intro)
      exact ⟨rfl, by omega, fun b hb => x1 b (by omega)⟩
    by_cases f2 : fr ≤ 65535
    · have e : dB P = true := dB_t (fo _ fun hok => hok.2 ⟨by omega, by omega, by omega, by omega, fun h => absurd h k2, fun _ => ⟨d1, fun _ => ⟨f1, f2⟩, fun h => absurd r2 h⟩⟩)
      rw [e]
      repeat (with_reducible first|(first|refine pI1 ?_|refine pS1 ?_);intros|refine pA1 ?_|refine pX1 ?_|refine pB1 ?_|exact True.intro)
      rename_i b1 H1 p1 g1 x1
      repeat (with_reducible first|(first|refine pI1 ?_|refine pS1 ?_);intros|refine pA1 ?_|refine pX1 ?_|refine pB1 ?_|exact True.intro)
      exact ⟨rfl, by omega, fun b hb => x1 b (by omega)⟩
    · have e : dB P = false := dB_f fun h => fo _ fun hok => by have := ((hok.1 h).2.2.2.2.2 k2).2.1 r2; omega
      rw [e]
      repeat (with_reducible first|(first|refine pI1 ?_|refine pS1 ?_);intros|refine pA1 ?_|refine pX1 ?_|refine pB1 ?_|exact True.intro)
      rename_i b1 H1 p1 g1 x1
      repeat (with_reducible first|(first|refine pI1 ?_|refine pS1 ?_);intros|refine pA1 ?_|refine pX1 ?_|refine pB1 ?_|exact True.intro)
      exact ⟨rfl, by omega, fun b hb => x1 b (by omega)⟩
  · by_cases f1 : fr = 0
    · have e : dB P = true := dB_t (fo _ fun hok => hok.2 ⟨by omega, by omega, by omega, by omega, fun h => absurd h k2, fun _ => ⟨d1, fun h => absurd h r2, fun _ => f1⟩⟩)
      rw [e]
      repeat (with_reducible first|(first|refine pI1 ?_|refine pS1 ?_);intros|refine pA1 ?_|refine pX1 ?_|refine pB1 ?_|exact True.intro)
      rename_i b1 H1 p1 g1 x1
      repeat (with_reducible first|(first|refine pI1 ?_|refine pS1 ?_);intros|refine pA1 ?_|refine pX1 ?_|refine pB1 ?_|exact True.intro)
      exact ⟨rfl, by omega, fun b hb => x1 b (by omega)⟩
    · have e : dB P = false := dB_f fun h => fo _ fun hok => f1 (((hok.1 h).2.2.2.2.2 k2).2.2 r2)
      rw [e]
      repeat (with_reducible first|(first|refine pI1 ?_|refine pS1 ?_);intros|refine pA1 ?_|refine pX1 ?_|refine pB1 ?_|exact True.intro)
      rename_i b1 H1 p1 g1 x1
      repeat (with_reducible first|(first|refine pI1 ?_|refine pS1 ?_);intros|refine pA1 ?_|refine pX1 ?_|refine pB1 ?_|exact True.intro)
      exact ⟨rfl, by omega, fun b hb => x1 b (by omega)⟩
theorem s_rports (hc : CfgM N H c h) (hN : N ≤ H.length) (hps : c.parts.length ≤ 32) (hpo : c.ports.length ≤ 10000000) : WC F fn_rotaref02_ports [.agg (c.cells h)] H fun v H' => v = .c (.bool (dB c.okPorts)) ∧ Xt H H' := by
  refine WC_start e_rotaref02_ports (by simp) ?_
  unfold c_rotaref02_ports Cfg.cells
  obtain ⟨n, hn⟩ : ∃ n, c.ports.length = n := ⟨_, rfl⟩
  obtain ⟨np, hnp⟩ : ∃ n, c.parts.length = n := ⟨_, rfl⟩
  rw [hn, hnp]
  rw [hnp] at hps
  rw [hn] at hpo
  have fin0 : Hid _ := fun (A : Prop) (h : _ → _ → _ → A) => h hc hn hnp
  clear hc hn hnp
  repeat (with_reducible first|(first|refine pI1 ?_|refine pS1 ?_);intros|refine pA1 ?_|refine pX1 ?_|refine pB1 ?_|exact True.intro)
  rename_i b1 H1 p1 g1 x1
  have fx : Hid _ := fun (A : Prop) (h : _ → A) => h x1
  clear x1
  repeat (with_reducible first|(first|refine pI1 ?_|refine pS1 ?_);intros|refine pA1 ?_|refine pX1 ?_|refine pB1 ?_|exact True.intro)
  refine W_loop (fun m st => ∃ ρ, ∃ i : Nat, ∃ Hk, st = ⟨L 43 ρ, [], Hk⟩ ∧ m = n - i ∧ i ≤ n ∧ ρ 1 = .c (.ptr (some (b1, 0))) ∧ ρ 3 = .c (.int .i64 (i : Nat)) ∧ H1.length ≤ Hk.length ∧ Hid ((∀ d, d < H1.length → Hk[d]? = H1[d]?) ∧ ∀ j, j < i → c.okPort (c.port (j : Nat)))) n ⟨_, 0, H1, rfl, rfl, by omega, zf, zf, Nat.le_refl _, fun _ _ => rfl, fun j hj => by omega⟩ ?_
  rintro m st ⟨ρ, i, Hk, rfl, rfl, hi, e1, e3, lk, hall⟩
  unfold b_rotaref02_ports_6
  have k1 := (hall.1 b1 (by omega)).trans g1
  clear g1
  by_cases hin : i < n
  · have hxt : (i : Int) < (n : Int) := by omega
    obtain ⟨la, y, ea, hla, hld, hmem⟩ := fin0 _ fun hc hn _ => port_at hc (i := i) (by omega)
    have yk : ∀ b, b < H.length → Hk[b]? = H[b]? := fun b hb => (hall.1 b (by omega)).trans (fx _ fun x1 => x1 b (by omega))
    rw [← yk la (by omega)] at hld
    have hokp : c.okPort (c.port (i : Nat)) ↔ ((c.port (i : Nat)).ok ∧ 0 ≤ (c.port (i : Nat)).part ∧ (c.port (i : Nat)).part < np) := fin0 _ fun _ _ hnp => by rw [← hnp]; exact Iff.rfl
    have hnot : ¬ c.okPort (c.port (i : Nat)) → dB c.okPorts = false := fun h => dB_f fun h' => h (h'.2 _ hmem)
    have hnext : c.okPort (c.port (i : Nat)) → ∀ j, j < i + 1 → c.okPort (c.port (j : Nat)) := fun h j hj => by
      by_cases e : j = i
      · subst e; exact h
      · exact hall.2 j (by omega)
    generalize c.okPort (c.port (i : Nat)) = P at *
    generalize c.port (i : Nat) = p at *
    have hal := fun Hx => s_rAlone (H := Hx) (p := p)
    obtain ⟨pa, kd, dr, sz, dp, fr⟩ := p
    generalize (Pt.mk pa kd dr sz dp fr).ok = K at *
    dsimp only [Pt.cells] at hld hokp hal
    have fin2 : Hid _ := fun (A : Prop) (h : _ → _ → _ → _ → _ → A) => h hnot hnext hall yk hokp
    clear hnot hnext hmem hall yk hokp
    rw [ea] at k1
    have fea : Hid _ := fun (A : Prop) (h : _ → A) => h ea
    clear ea
    have halk := hal Hk
    have fal : Hid _ := fun (A : Prop) (h : _ → A) => h hal
    clear hal
    repeat (with_reducible first|(first|refine pI1 ?_|refine pS1 ?_);intros|refine pA1 ?_|refine pX1 ?_|refine pB1 ?_|exact True.intro)
    refine outM_call halk ?_
    rintro _ H2 ⟨rfl, l2, x2⟩
    clear halk
    have k2 := (x2 b1 (by omega)).trans k1
    rw [← x2 la (by omega)] at hld
    have hx : ∀ b, b < H.length → H2[b]? = H[b]? := fun b hb => by rw [x2 b (by omega)]; exact fin2 _ fun _ _ _ yk _ => yk b hb
    have hld1 : ldB H2[la]? (y + i * 6) = some (.int .i64 pa) := by
      unfold ldnB at hld
      unfold ldB
      generalize H2[la]? = q at *
      split at hld
      · unfold sub at hld
        split at hld
        · have h' := Option.some.inj hld
          have := congrArg (fun (l : List Cell) => l[0]?) h'
          simpa using this
        · cases hld
      · cases hld
    have f3 : Hid _ := fun (A : Prop) (h : _ → _ → A) => h x2 hx
    clear x2 hx k1
    by_cases hK : K
    case neg =>
      have e := fin2 _ fun hnot _ _ _ hokp => hnot fun h => hK (hokp.1 h).1
      rw [dB_f hK, e]
      clear hld
      repeat (with_reducible first|(first|refine pI1 ?_|refine pS1 ?_);intros|refine pA1 ?_|refine pX1 ?_|refine pB1 ?_|exact True.intro)
      exact ⟨rfl, by omega, f3 _ fun _ hx => hx⟩
    rw [dB_t hK]
    by_cases c1 : pa < 0
    · have e := fin2 _ fun hnot _ _ _ hokp => hnot fun h => by have := (hokp.1 h).2; omega
      rw [e]
      clear hK hld
      repeat (with_reducible first|(first|refine pI1 ?_|refine pS1 ?_);intros|refine pA1 ?_|refine pX1 ?_|refine pB1 ?_|exact True.intro)
      exact ⟨rfl, by omega, f3 _ fun _ hx => hx⟩
    by_cases c2 : (np : Int) ≤ pa
    · have e := fin2 _ fun hnot _ _ _ hokp => hnot fun h => by have := (hokp.1 h).2; omega
      rw [e]
      clear hK hld
      repeat (with_reducible first|(first|refine pI1 ?_|refine pS1 ?_);intros|refine pA1 ?_|refine pX1 ?_|refine pB1 ?_|exact True.intro)
      exact ⟨rfl, by omega, f3 _ fun _ hx => hx⟩
    have fK : Hid _ := fun (A : Prop) (h : _ → A) => h hK
    clear hK hld
    repeat (with_reducible first|(first|refine pI1 ?_|refine pS1 ?_);intros|refine pA1 ?_|refine pX1 ?_|refine pB1 ?_|exact True.intro)
    exact loopQ_n (n - (i + 1)) (by omega) ⟨_, i + 1, H2, rfl, rfl, by omega, zf, zf, by omega, f3 _ fun x2 _ => fin2 _ fun _ hnext hall _ hokp => fK _ fun hK => ⟨fun d hd => by rw [x2 d (by omega)]; exact hall.1 d hd, hnext (hokp.2 ⟨hK, by omega, by omega⟩)⟩⟩
  · obtain rfl : i = n := by omega
    have hxt : ¬ (i : Int) < (i : Int) := by omega
    have f1 : Hid _ := fun (A : Prop) (h : _ → A) => h hall
    have hx : ∀ b, b < H.length → Hk[b]? = H[b]? := fun b hb => (hall.1 b (by omega)).trans (fx _ fun x1 => x1 b (by omega))
    have fh : Hid _ := fun (A : Prop) (h : _ → A) => h hx
    clear hx
    by_cases c1 : i ≤ 64
    · have e : dB c.okPorts = true := dB_t (fin0 _ fun _ hn _ => ⟨by omega, fun p hp => by
        obtain ⟨j, hj, rfl⟩ := List.mem_iff_getElem.1 hp
        have := hall.2 j (by omega)
        rwa [show c.port (j : Nat) = c.ports[j] by simp [Cfg.port, hj]] at this⟩)
      rw [e]
      clear hall
      repeat (with_reducible first|(first|refine pI1 ?_|refine pS1 ?_);intros|refine pA1 ?_|refine pX1 ?_|refine pB1 ?_|exact True.intro)
      exact ⟨rfl, by omega, fh _ fun h => h⟩
    · have e : dB c.okPorts = false := dB_f fun h => fin0 _ fun _ hn _ => by have := h.1; omega
      rw [e]
      clear hall
      repeat (with_reducible first|(first|refine pI1 ?_|refine pS1 ?_);intros|refine pA1 ?_|refine pX1 ?_|refine pB1 ?_|exact True.intro)
      exact ⟨rfl, by omega, fh _ fun h => h⟩
end
end Go.Proofs.Ytbgmbnikpjjmcaa.AM.D07
