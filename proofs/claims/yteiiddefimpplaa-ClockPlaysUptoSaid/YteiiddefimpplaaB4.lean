/- What the functions that this law reaches come to, each walked once, and the plain laws that stand behind them. -/
import Derived.Test.YteiiddefimpplaaB3
import Derived.KernelRfl
set_option linter.unusedVariables false
set_option linter.unusedSimpArgs false
set_option linter.unusedSectionVars false
namespace Go.Proofs.Yteiiddefimpplaa.AM.D08
open Go Go.Proofs.Yteiiddefimpplaa.AM Go.Proofs.Yteiiddefimpplaa.AM.C08
set_option maxHeartbeats 2000000
set_option maxRecDepth 100000
attribute [local go_sem] tn_add1 tn_sub1 put_all' nums_len aop_mn aop_mx mnO_int mxO_int
theorem kF8 : ExtKeep F := ExtKeep.funsX fun f g h => by
  unfold X at h
  split at h
  · cases h
    exact fun args H v H' e => sortX_keep e
  cases h
def enci (n : Int) : List V := [.c (.int .i64 n)]
def OfP (p b3 b4 b5 : Nat) (k : Clk) (ms : Nat) (own : Int) (H : Heap) : Prop :=
  H[b3]? = some (.cells [.ptr (some (p, 0))] false none) ∧ H[b4]? = some (.cells [.int .u16 (ms : Nat)] false none) ∧ H[b5]? = some (.cells [.int .i64 own] false none) ∧ ClkM H p k
theorem it_of {p b3 b4 b5 ms : Nat} {k : Clk} {own : Int} (ho : ClkOk k) (hms : ms < 65536) : IterT F fn_clock_Clock_of_1 [] [(b3, 0), (b4, 0), (b5, 0)] (fun b => b = p ∨ b = b3 ∨ b = b4 ∨ b = b5) nob (OfP p b3 b4 b5 k ms own) ((ofL k ms own k.nodes).map enci) := by
  intro l H J E hP hlt hSl hJ hE hr h0 hfin
  obtain ⟨g3, g4, g5, C, gp, hC⟩ := hP
  refine WC_start e_clock_Clock_of_1 (by simp) ?_
  unfold c_clock_Clock_of_1
  rw [← restL_0] at h0
  have c0 := hC.c0
  have n16 := ho.n16
  obtain ⟨N, hN⟩ : ∃ N, k.nodes = N := ⟨_, rfl⟩
  rw [hN] at c0 n16
  have fin0 : Hid _ := fun (A : Prop) (h : _ → _ → _ → _ → _ → _ → A) => h hr hfin hC h0 hJ hN
  have fr : Hid _ := fun (A : Prop) (h : _ → A) => h hE
  clear hJ hE hr hfin hC h0 hN ho
  repeat (with_reducible first|(first|refine pI1 ?_|refine pS1 ?_);intros|refine pA1 ?_|refine pX1 ?_|refine pB1 ?_|exact True.intro)
  refine W_loop (fun m st => ∃ ρ, ∃ i : Nat, ∃ Hk, st = ⟨L 47 ρ, [], Hk⟩ ∧ m = N - i ∧ i ≤ N ∧ ρ 0 = .c (.yld l) ∧ ρ 1 = .c (.ptr (some (b3, 0))) ∧ ρ 2 = .c (.ptr (some (b4, 0))) ∧ ρ 3 = .c (.ptr (some (b5, 0))) ∧ ρ 10 = .c (.int .i64 (N : Nat)) ∧ ρ 11 = .c (.int .i64 (i : Nat)) ∧ H.length ≤ Hk.length ∧
    Hk[b3]? = some (.cells [.ptr (some (p, 0))] false none) ∧ Hk[b4]? = some (.cells [.int .u16 (ms : Nat)] false none) ∧ Hk[b5]? = some (.cells [.int .i64 own] false none) ∧ Hk[p]? = some (.cells C false none) ∧ Hid (J ((restL k ms own i).map enci) Hk)) N
    ⟨_, 0, H, rfl, rfl, by omega, zf, zf, zf, zf, zf, zf, Nat.le_refl _, g3, g4, g5, gp, fin0 _ fun _ _ _ h _ _ => h⟩ ?_
  clear g3 g4 g5 gp c0
  rintro m st ⟨ρ, i, Hk, rfl, rfl, hi, e0, e1, e2, e3, e10, e11, lk, g3, g4, g5, gp, hJk⟩
  unfold b_clock_Clock_of_1_9
  by_cases hin : i < N
  · have hxt : (i : Int) < (N : Int) := by omega
    have hs := fin0 _ fun _ _ _ _ _ hN => restL_s (k := k) (ms := ms) (own := own) (i := i) (by omega)
    have ch := fin0 _ fun _ _ hC _ _ _ => hC.ch i (by omega)
    have cr := fin0 _ fun _ _ hC _ _ _ => hC.cr i (by omega)
    have hrd : rd k ms own i = if P3.bt ms i = true ∧ ((i : Int) = own ∨ k.heard i = true) then some (if (i : Int) = own then 0 else k.readings i) else none := rfl
    have hand : (ms &&& 2 ^ i) % 65536 = ms &&& 2 ^ i := Nat.mod_eq_of_lt (and_lt hms)
    have hp2 : 1 * 2 ^ i % 65536 = 2 ^ i := by
      rw [Nat.one_mul]
      exact Nat.mod_eq_of_lt (Nat.lt_of_le_of_lt (Nat.pow_le_pow_right (by decide) (show i ≤ 15 by omega)) (by decide))
    have hbit := and_bit ms i
    obtain ⟨mb, hmb⟩ : ∃ mb, ms &&& 2 ^ i = mb := ⟨_, rfl⟩
    rw [hmb] at hand hbit
    have hyn : ∀ v, rd k ms own i = some v → WR F l (enci v) Hk fun r H' => (∀ b, (b = p ∨ b = b3 ∨ b = b4 ∨ b = b5) → H'[b]? = Hk[b]?) ∧ Hk.length ≤ H'.length ∧ ((r = .c (.bool true) ∧ J ((restL k ms own (i + 1)).map enci) H') ∨ (r = .c (.bool false) ∧ E H')) := fun v hv => fin0 _ fun hr _ _ _ _ _ => by
      have hJ2 : J ((restL k ms own i).map enci) Hk := hJk
      rw [hs, hv] at hJ2
      exact hr _ _ Hk hJ2
    have hskip : rd k ms own i = none → J ((restL k ms own (i + 1)).map enci) Hk := fun hv => by
      have hJ2 : J ((restL k ms own i).map enci) Hk := hJk
      rw [hs, hv] at hJ2
      exact hJ2
    have f1 : Hid _ := fun (A : Prop) (h : _ → _ → _ → _ → A) => h hrd hyn hskip hbit
    clear hrd hyn hskip hbit hJk hs
    generalize k.heard i = hd at *
    generalize k.readings i = v at *
    by_cases c1 : mb = 0
    · have hv := f1 _ fun hrd _ hskip hbit => hskip (by rw [hrd, if_neg (by rw [hbit.1 c1]; simp)])
      have fv : Hid _ := fun (A : Prop) (h : _ → A) => h hv
      have c1' : (mb : Int) = 0 := by omega
      clear hv
      repeat (with_reducible first|(first|refine pI1 ?_|refine pS1 ?_);intros|refine pA1 ?_|refine pX1 ?_|refine pB1 ?_|exact True.intro)
      exact loopQ_n (N - (i + 1)) (by omega) ⟨_, i + 1, Hk, rfl, rfl, by omega, zf, zf, zf, zf, zf, zf, lk, g3, g4, g5, gp, fv _ fun h => h⟩
    have c1' : ¬ (mb : Int) = 0 := by omega
    have hbt : P3.bt ms i = true := f1 _ fun _ _ _ hbit => by
      cases hb : P3.bt ms i with
      | true => rfl
      | false => exact absurd (hbit.2 hb) c1
    have fbt : Hid _ := fun (A : Prop) (h : _ → A) => h hbt
    clear hbt
    by_cases c2 : (i : Int) = own
    · have hy := f1 _ fun hrd hyn _ _ => hyn 0 (by rw [hrd, if_pos ⟨fbt _ fun h => h, .inl c2⟩, if_pos c2])
      have e : enci 0 = [.c (.int .i64 0)] := rfl
      rw [e] at hy
      clear e
      subst c2
      have fy : Hid _ := fun (A : Prop) (h : _ → A) => h hy
      clear hy
      repeat (with_reducible first|(first|refine pI1 ?_|refine pS1 ?_);intros|refine pA1 ?_|refine pX1 ?_|refine pB1 ?_|exact True.intro)
      refine outM_yld (fy _ fun h => h) ?_
      rintro r H' ⟨k1, k2, ⟨rfl, k3⟩ | ⟨rfl, k3⟩⟩
      · have q3 := (k1 b3 (.inr (.inl rfl))).trans g3
        have q4 := (k1 b4 (.inr (.inr (.inl rfl)))).trans g4
        have q5 := (k1 b5 (.inr (.inr (.inr rfl)))).trans g5
        have qp := (k1 p (.inl rfl)).trans gp
        have fk : Hid _ := fun (A : Prop) (h : _ → A) => h k3
        clear k1 k3 g3 g4 g5 gp
        repeat (with_reducible first|(first|refine pI1 ?_|refine pS1 ?_);intros|refine pA1 ?_|refine pX1 ?_|refine pB1 ?_|exact True.intro)
        exact loopQ_n (N - (i + 1)) (by omega) ⟨_, i + 1, H', rfl, rfl, by omega, zf, zf, zf, zf, zf, zf, by omega, q3, q4, q5, qp, fk _ fun h => h⟩
      · clear k1 g3 g4 g5 gp
        have fk : Hid _ := fun (A : Prop) (h : _ → A) => h k3
        clear k3
        repeat (with_reducible first|(first|refine pI1 ?_|refine pS1 ?_);intros|refine pA1 ?_|refine pX1 ?_|refine pB1 ?_|exact True.intro)
        exact fk _ fun h => h
    · cases hd with
      | false =>
        have hv := f1 _ fun hrd _ hskip _ => hskip (by rw [hrd, if_neg (fun h => by rcases h.2 with h | h; exact c2 h; cases h)])
        have fv : Hid _ := fun (A : Prop) (h : _ → A) => h hv
        clear hv
        repeat (with_reducible first|(first|refine pI1 ?_|refine pS1 ?_);intros|refine pA1 ?_|refine pX1 ?_|refine pB1 ?_|exact True.intro)
        exact loopQ_n (N - (i + 1)) (by omega) ⟨_, i + 1, Hk, rfl, rfl, by omega, zf, zf, zf, zf, zf, zf, lk, g3, g4, g5, gp, fv _ fun h => h⟩
      | true =>
        have hy := f1 _ fun hrd hyn _ _ => hyn v (by rw [hrd, if_pos ⟨fbt _ fun h => h, .inr rfl⟩, if_neg c2])
        have e : enci v = [.c (.int .i64 v)] := rfl
        rw [e] at hy
        clear e
        have fy : Hid _ := fun (A : Prop) (h : _ → A) => h hy
        clear hy
        repeat (with_reducible first|(first|refine pI1 ?_|refine pS1 ?_);intros|refine pA1 ?_|refine pX1 ?_|refine pB1 ?_|exact True.intro)
        refine outM_yld (fy _ fun h => h) ?_
        rintro r H' ⟨k1, k2, ⟨rfl, k3⟩ | ⟨rfl, k3⟩⟩
        · have q3 := (k1 b3 (.inr (.inl rfl))).trans g3
          have q4 := (k1 b4 (.inr (.inr (.inl rfl)))).trans g4
          have q5 := (k1 b5 (.inr (.inr (.inr rfl)))).trans g5
          have qp := (k1 p (.inl rfl)).trans gp
          have fk : Hid _ := fun (A : Prop) (h : _ → A) => h k3
          clear k1 k3 g3 g4 g5 gp
          repeat (with_reducible first|(first|refine pI1 ?_|refine pS1 ?_);intros|refine pA1 ?_|refine pX1 ?_|refine pB1 ?_|exact True.intro)
          exact loopQ_n (N - (i + 1)) (by omega) ⟨_, i + 1, H', rfl, rfl, by omega, zf, zf, zf, zf, zf, zf, by omega, q3, q4, q5, qp, fk _ fun h => h⟩
        · clear k1 g3 g4 g5 gp
          have fk : Hid _ := fun (A : Prop) (h : _ → A) => h k3
          clear k3
          repeat (with_reducible first|(first|refine pI1 ?_|refine pS1 ?_);intros|refine pA1 ?_|refine pX1 ?_|refine pB1 ?_|exact True.intro)
          exact fk _ fun h => h
  · obtain rfl : i = N := by omega
    have hxt : ¬ (i : Int) < (i : Int) := by omega
    have hE := fin0 _ fun _ hfin _ _ _ hN => hfin Hk (by
      have hJ2 : J ((restL k ms own i).map enci) Hk := hJk
      rw [← hN, restL_e] at hJ2
      exact hJ2)
    have fE : Hid _ := fun (A : Prop) (h : _ → A) => h hE
    clear hE hJk
    repeat (with_reducible first|(first|refine pI1 ?_|refine pS1 ?_);intros|refine pA1 ?_|refine pX1 ?_|refine pB1 ?_|exact True.intro)
    exact fE _ fun h => h
theorem s_of {H : Heap} {p ms : Nat} {own : Int} : WC F fn_clock_Clock_of [.c (.ptr (some (p, 0))), .c (.int .u16 (ms : Nat)), .c (.int .i64 own)] H fun v H' => ∃ b3 b4 b5, v = .c (.fn fn_clock_Clock_of_1 [] [(b3, 0), (b4, 0), (b5, 0)]) ∧ H.length ≤ b3 ∧ H.length ≤ b4 ∧ H.length ≤ b5 ∧ b3 < H'.length ∧ b4 < H'.length ∧ b5 < H'.length ∧
    H'[b3]? = some (.cells [.ptr (some (p, 0))] false none) ∧ H'[b4]? = some (.cells [.int .u16 (ms : Nat)] false none) ∧ H'[b5]? = some (.cells [.int .i64 own] false none) ∧ Xt H H' := by
  refine WC_start e_clock_Clock_of (by simp) ?_
  unfold c_clock_Clock_of
  repeat (with_reducible first|(first|refine pI1 ?_|refine pS1 ?_);intros|refine pA1 ?_|refine pX1 ?_|refine pB1 ?_|exact True.intro)
  rename_i b3 H3 p3 g3 x3 b4 H4 p4 g4 x4 b5 H5 p5 g5 x5
  have q3 := (x5 b3 (by omega)).trans ((x4 b3 (by omega)).trans g3)
  have q4 := (x5 b4 (by omega)).trans g4
  have fx : Hid _ := fun (A : Prop) (h : _ → _ → _ → A) => h x3 x4 x5
  clear x3 x4 x5 g3 g4
  repeat (with_reducible first|(first|refine pI1 ?_|refine pS1 ?_);intros|refine pA1 ?_|refine pX1 ?_|refine pB1 ?_|exact True.intro)
  exact ⟨b3, b4, b5, rfl, by omega, by omega, by omega, by omega, by omega, by omega, q3, q4, g5, by omega, fx _ fun x3 x4 x5 b hb => by rw [x5 b (by omega), x4 b (by omega), x3 b (by omega)]⟩
end Go.Proofs.Yteiiddefimpplaa.AM.D08

namespace Go.Proofs.Yteiiddefimpplaa.AM.D08
open Go Go.Proofs.Yteiiddefimpplaa.AM Go.Proofs.Yteiiddefimpplaa.AM.C08
set_option maxHeartbeats 2000000
set_option maxRecDepth 100000
attribute [local go_sem] tn_add1 tn_sub1 put_all' nums_len aop_mn aop_mx mnO_int mxO_int
theorem ints_len (l : List Int) : (ints l).length = l.length := by simp [ints]
theorem ints_app (a b : List Int) : ints (a ++ b) = ints a ++ ints b := by simp [ints]
theorem ints_nums (l : List Int) : ints l = nums l := rfl
attribute [local go_sem] ints_len
theorem s_Sort {H : Heap} {lo n : Nat} {a : Option Ad} {o : Bool} {ws : List Int} (hn : n ≤ 100000) (h0 : n = 0 → a = none ∧ o = false) (h : Gr lo H 1 a n o (ints ws)) :
    WC F fn_slices_Sort_int_int [.c (.sl a n n o)] H fun _ H' => Gr lo H' 1 a n o (ints (sorted ws)) ∧ Same H H' ∧ ∀ c, c < H.length → away a c → H'[c]? = H[c]? := by
  have hf : F fn_slices_Sort_int_int = some (.ext sortX) := by rfl
  have hlen := h.len
  rw [ints_len, Nat.mul_one] at hlen
  cases n with
  | zero =>
    obtain rfl : ws = [] := List.length_eq_zero_iff.1 hlen
    obtain ⟨rfl, rfl⟩ := h0 rfl
    have e : sorted [] = [] := by simp [sorted]
    rw [e]
    exact WC_ext hf (v := .undef) (H' := H) rfl ⟨h, ⟨Nat.le_refl _, Nat.le_refl _⟩, fun _ _ _ => rfl⟩
  | succ m =>
    obtain ⟨b, rfl, rfl, h3, h4, h5⟩ := h.blk (by omega)
    have hx : H.ldn (b, 0) (m + 1) = some (ints ws) := by
      have := ldn_all h5
      rw [ints_len, hlen] at this; exact this
    have hz : H.st (b, 0) (ints (sorted ws)) = some (H.set b (.cells (ints (sorted ws)) false (some 1))) := by
      rw [st_of h5 (by rw [ints_len, ints_len, sorted_length]; omega), put_all' (by rw [ints_len, ints_len, sorted_length])]
    refine WC_ext hf (v := .undef) (H' := H.set b (.cells (ints (sorted ws)) false (some 1))) ?_ ⟨Gr.mk' (get_set_same _ h4) (by rw [ints_len, sorted_length]; omega) h3, ⟨by simp, by simp⟩, fun c hc ha => List.getElem?_set_ne fun e => ha _ rfl e.symm⟩
    unfold sortX
    dsimp only
    rw [if_neg (by omega), hx, Option.bind_some, intsO_ints, Option.bind_some, hz, Option.map_some]
theorem ofL_in {k : Clk} (ho : ClkOk k) (ms : Nat) (own : Int) (m : Nat) : ∀ x ∈ ofL k ms own m, -2 * E ≤ x ∧ x ≤ 2 * E := fun x hx => by
  unfold ofL at hx
  obtain ⟨n, -, hn⟩ := List.mem_filterMap.1 hx
  unfold rd at hn
  split at hn
  · injection hn with hn
    subst hn
    split
    · unfold E; omega
    · exact ho.rs n
  · cases hn
theorem s_Average {H : Heap} {p ms : Nat} {k : Clk} {own : Int} (hk : ClkM H p k) (ho : ClkOk k) (hms : ms < 65536) : WC F fn_clock_Clock_Average [.c (.ptr (some (p, 0))), .c (.int .u16 (ms : Nat)), .c (.int .i64 own)] H fun v H' => v = .tup [.c (.int .i64 (avg k ms own)), .c (.bool (decide (0 < (ofL k ms own k.nodes).length)))] ∧ Xt H H' := by
  refine WC_start e_clock_Clock_Average (by simp) ?_
  unfold c_clock_Clock_Average
  have hno := s_none hk ho
  have hpl := hk.lt
  obtain ⟨ws, hws⟩ : ∃ ws, ofL k ms own k.nodes = ws := ⟨_, rfl⟩
  have hwl : ws.length ≤ 16 := by rw [← hws]; have := ofL_len k ms own k.nodes; have := ho.n16; omega
  have hwi : ∀ x ∈ ws, -2 * E ≤ x ∧ x ≤ 2 * E := by rw [← hws]; exact ofL_in ho ms own k.nodes
  have havg : avg k ms own = avgS (sorted ws) := by unfold avg; rw [hws]
  rw [havg, hws]
  have hit := fun b3 b4 b5 => it_of (p := p) (b3 := b3) (b4 := b4) (b5 := b5) (ms := ms) (own := own) ho hms
  have fin0 : Hid _ := fun (A : Prop) (h : _ → _ → _ → A) => h hk hit hws
  clear hk hit hws havg ho
  repeat (with_reducible first|(first|refine pI1 ?_|refine pS1 ?_);intros|refine pA1 ?_|refine pX1 ?_|refine pB1 ?_|exact True.intro)
  refine outM_call hno ?_
  rintro _ H ⟨rfl, rfl⟩
  clear hno
  repeat (with_reducible first|(first|refine pI1 ?_|refine pS1 ?_);intros|refine pA1 ?_|refine pX1 ?_|refine pB1 ?_|exact True.intro)
  rename_i e H1 p1 g1 x1
  have fx1 : Hid _ := fun (A : Prop) (h : _ → A) => h x1
  clear x1
  repeat (with_reducible first|(first|refine pI1 ?_|refine pS1 ?_);intros|refine pA1 ?_|refine pX1 ?_|refine pB1 ?_|exact True.intro)
  refine outM_call s_of ?_
  rintro _ H2 ⟨b3, b4, b5, rfl, q3, q4, q5, r3, r4, r5, g3, g4, g5, l2, x2⟩
  have ge := (x2 e (by omega)).trans g1
  have hx2 : ∀ b, b < H.length → H2[b]? = H[b]? := fun b hb => by rw [x2 b (by omega)]; exact fx1 _ fun x1 => x1 b (by omega)
  have hof : OfP p b3 b4 b5 k ms own H2 := ⟨g3, g4, g5, fin0 _ fun hk _ _ => hk.keep (hx2 p hpl)⟩
  have f2 : Hid _ := fun (A : Prop) (h : _ → _ → A) => h hof hx2
  clear hof hx2 x2 g1 g3 g4 g5
  repeat (with_reducible first|(first|refine pI1 ?_|refine pS1 ?_);intros|refine pA1 ?_|refine pX1 ?_|refine pB1 ?_|exact True.intro)
  unfold a_clock_Clock_Average_7
  refine W_rangeT (F := F) (enc := enci) (T := nob) (P := OfP p b3 b4 b5 k ms own) (xs := ws) kF8 zf (fun _ h => h.elim) (fin0 _ fun _ hit hws => by rw [← hws]; exact hit b3 b4 b5)
    (fun d r Hx => ∃ a' o', (d.length = 0 → a' = none ∧ o' = false) ∧ Hx[e]? = some (.cells [.sl a' d.length d.length o'] false none) ∧ Gr (H2.length + 2) Hx 1 a' d.length o' (ints d) ∧ ∀ b, b < H.length → Hx[b]? = H2[b]?)
    (fun _ _ => False)
    (fun J => f2 _ fun h _ => ⟨get_app' J h.1, get_app' J h.2.1, get_app' J h.2.2.1, h.2.2.2.keep (get_app J h.2.2.2.lt)⟩) ?_ (fun _ => rfl) ?_ (fun _ _ _ h => h.elim) ?_ ?_ ?_ (fun _ _ h => h.elim)
  · rintro x (rfl | rfl | rfl | rfl) <;> omega
  · rintro d r H7 H8 ⟨a', o', k0, k1, k2, k3⟩ l7 l8 x8
    exact ⟨a', o', k0, by rw [x8 e (by omega) (fun h => h) (by omega)]; exact k1, k2.keep fun b hb hb2 _ => x8 b hb2 (fun h => h) (by omega), fun b hb => by rw [x8 b (by omega) (fun h => h) (by omega)]; exact k3 b hb⟩
  · intro H7 l7 x7
    exact ⟨none, false, fun _ => ⟨rfl, rfl⟩, by rw [x7 e (by omega)]; exact ge, Gr.none _ _ _, fun b hb => x7 b (by omega)⟩
  · intro d w r Ha hd
    simp only [enci, List.zip_cons_cons, List.zip_nil_left, List.foldl_cons, List.foldl_nil, L_set]
    have hdl : d.length < 16 := by have := congrArg List.length hd; simp at this; omega
    have fd : Hid _ := fun (A : Prop) (h : _ → A) => h hd
    clear hd ge
    repeat (with_reducible first|(first|refine pI1 ?_|refine pS1 ?_);intros|refine pA1 ?_|refine pX1 ?_|refine pB1 ?_|exact True.intro)
    refine ⟨rfl, ?_⟩
    rintro H7 ⟨a', o', -, k1, k2, k3⟩ hll l7
    unfold b_clock_Clock_Average_8
    have hlt := k2.lt
    have fk : Hid _ := fun (A : Prop) (h : _ → _ → A) => h k2 k3
    clear k2 k3
    repeat (with_reducible first|(first|refine pI1 ?_|refine pS1 ?_);intros|refine pA1 ?_|refine pX1 ?_|refine pB1 ?_|exact True.intro)
    rename_i b8 H8 p8 g8 x8
    have k2' := fk _ fun k2 _ => k2.keepX (H' := H8) fun b hb => x8 b (by omega)
    refine outM_appG (ys := [.int .i64 w]) k2' (by omega) (Sl.blk g8 rfl) (by omega) (by omega) ?_
    intro a2 H9 hg9 l9 x9 y9 z9
    clear k2'
    have ye : H9[e]? = some (.cells [.sl a' d.length d.length o'] false none) := by rw [x9 e (by omega), x8 e (by omega)]; exact k1
    have yl : H9[H2.length + 1]? = H7[H2.length + 1]? := by rw [x9 _ (by omega), x8 _ (by omega)]
    have hz : ∀ b, b < H2.length → H9[b]? = H7[b]? := fun b hb => by rw [x9 b (by omega), x8 b (by omega)]
    have hg9' : ∃ lo, lo = H2.length + 2 ∧ Gr lo H9 1 a2 (d.length + 1) true (ints d ++ [.int .i64 w]) := ⟨_, rfl, hg9⟩
    obtain ⟨lo, hlo, hg9'⟩ := hg9'
    have f9 : Hid _ := fun (A : Prop) (h : _ → _ → _ → _ → A) => h hlo hg9' hz yl
    clear hg9 y9 z9 x9 x8 g8 hlo hg9' hz yl k1 hll
    repeat (with_reducible first|(first|refine pI1 ?_|refine pS1 ?_);intros|refine pA1 ?_|refine pX1 ?_|refine pB1 ?_|exact True.intro)
    rename_i H10 l10 g10 x10
    have f10 : Hid _ := fun (A : Prop) (h : _ → _ → A) => h g10 x10
    clear g10 x10 ye
    repeat (with_reducible first|(first|refine pI1 ?_|refine pS1 ?_);intros|refine pA1 ?_|refine pX1 ?_|refine pB1 ?_|exact True.intro)
    refine f9 _ fun hlo hg9' hz yl => f10 _ fun g10 x10 => fk _ fun _ k3 => turnQ_n (by omega) ?_ (fun b hb => ?_) ⟨a2, true, fun h => by simp at h, ?_, ?_, fun b hb => ?_⟩
    · rw [x10 _ (by omega)]; exact yl
    · rcases hb with rfl | rfl | rfl | rfl <;> (rw [x10 _ (by omega)]; exact hz _ (by omega))
    · rw [List.length_append, List.length_singleton]; exact g10
    · rw [List.length_append, List.length_singleton, ints_app]
      subst hlo
      exact hg9'.keep fun b hb hb2 _ => x10 b (by omega)
    · rw [x10 _ (by omega), hz _ (by omega)]; exact k3 b hb
  · rintro H7 ⟨a', o', k0, k1, k2, k3⟩ hd l7
    have hso := s_Sort (by omega) k0 k2
    have hlt := k2.lt
    have f7 : Hid _ := fun (A : Prop) (h : _ → _ → A) => h k0 k3
    clear k0 k3 k2 ge
    obtain ⟨s, hs⟩ : ∃ s, sorted ws = s := ⟨_, rfl⟩
    obtain ⟨n, hn⟩ : ∃ n, ws.length = n := ⟨_, rfl⟩
    have hsl : s.length = n := by rw [← hs, sorted_length, hn]
    have hsi : ∀ i, i < n → -2 * E ≤ gn s i ∧ gn s i ≤ 2 * E := fun i hi => hwi _ ((sorted_perm ws).subset (by rw [hs]; exact gn_mem (by omega)))
    have hav : n ≠ 0 → avgS s = (gn s (loI n) + gn s (hiI n)) / 2 := fun h => by unfold avgS; rw [hsl, if_neg h]
    have hav0 : n = 0 → avgS s = 0 := fun h => by unfold avgS; rw [hsl, if_pos h]
    rw [hs] at hso ⊢
    rw [hn] at hso k1 hwl ⊢
    have fs : Hid _ := fun (A : Prop) (h : _ → _ → _ → _ → A) => h hsl hsi hav hav0
    clear hs hsl hsi hav hav0 hwi hn
    repeat (with_reducible first|(first|refine pI1 ?_|refine pS1 ?_);intros|refine pA1 ?_|refine pX1 ?_|refine pB1 ?_|exact True.intro)
    refine outM_call hso ?_
    rintro _ H8 ⟨s1, s2, s3⟩
    clear hso
    have ge8 := (s3 e (by omega) (fun x ex => by have := hlt x ex; omega)).trans k1
    have gd8 := (s3 H2.length (by omega) (fun x ex => by have := hlt x ex; omega)).trans hd
    have hx8 : ∀ b, b < H.length → H8[b]? = H[b]? := fun b hb => by
      rw [s3 b (by omega) (fun x ex => by have := hlt x ex; omega), f7 _ fun _ k3 => k3 b hb]; exact f2 _ fun _ h => h b hb
    have hss := s1.sl
    rw [ints_nums] at hss
    have f8 : Hid _ := fun (A : Prop) (h : _ → A) => h hx8
    have lh8 : H.length ≤ H8.length := by omega
    by_cases hn0 : n = 0
    · have ea := fs _ fun _ _ _ h => h hn0
      rw [ea]
      have en : decide (0 < n) = false := decide_eq_false (by omega)
      rw [en]
      clear hx8 hss s1 s3 hd k1 hlt ea en
      subst hn0
      repeat (with_reducible first|(first|refine pI1 ?_|refine pS1 ?_);intros|refine pA1 ?_|refine pX1 ?_|refine pB1 ?_|exact True.intro)
      refine callQ_1 gd8 fun H9 l9 x9 => ?_
      have fx9 : Hid _ := fun (A : Prop) (h : _ → A) => h x9
      clear x9
      repeat (with_reducible first|(first|refine pI1 ?_|refine pS1 ?_);intros|refine pA1 ?_|refine pX1 ?_|refine pB1 ?_|exact True.intro)
      exact ⟨rfl, by omega, fun b hb => by rw [fx9 _ fun h => h b (by omega)]; exact f8 _ fun h => h b hb⟩
    have ea := fs _ fun _ _ h _ => h hn0
    have en : decide (0 < n) = true := decide_eq_true (by omega)
    rw [en, ea]
    obtain ⟨sb, rfl, rfl, b1, b2, b3'⟩ := s1.blk (by omega)
    have hsb : sb ≠ e := by omega
    have hsb2 : sb ≠ H2.length := by omega
    have hnz : ¬ (n : Int) = 0 := by omega
    have hE : E = 1099511627776 := rfl
    have glo := fs _ fun _ h _ _ => h (loI n) (lo_lt (by omega))
    have ghi := fs _ fun _ h _ _ => h (hiI n) (hi_lt (by omega))
    rw [hE] at glo ghi
    obtain ⟨glo1, glo2⟩ := glo
    obtain ⟨ghi1, ghi2⟩ := ghi
    by_cases hn2 : 2 < n
    · have dlo := fs _ fun hsl _ _ _ => hss.gn hsl (i := 1) (by omega)
      have dhi := fs _ fun hsl _ _ _ => hss.gn hsl (i := n - 2) (by omega)
      have e1 : loI n = 1 := if_pos hn2
      have e2 : hiI n = n - 2 := if_pos hn2
      rw [e1] at glo1 glo2 ⊢
      rw [e2] at ghi1 ghi2 ⊢
      dsimp only at dlo dhi
      generalize gn s 1 = x1 at *
      generalize gn s (n - 2) = x2 at *
      obtain ⟨m, rfl⟩ : ∃ m, n = m + 3 := ⟨n - 3, by omega⟩
      have hm1 : ((m + 3 : Nat) : Int) - 1 = (m + 2 : Nat) := by omega
      rw [show 0 + (m + 3 - 2) = 1 + (m + 2 - 1 - 1) by omega] at dhi
      clear hx8 hss s1 s3 hd k1 hlt ea en e1 e2 b3'
      repeat (with_reducible first|(first|refine pI1 ?_|refine pS1 ?_);intros|refine pA1 ?_|refine pX1 ?_|refine pB1 ?_|exact True.intro)
      rename_i H9 l9 g9 x9
      have gd9 := (x9 H2.length (by omega)).trans gd8
      have hx9 : ∀ b, b < H.length → H9[b]? = H[b]? := fun b hb => by rw [x9 b (by omega)]; exact f8 _ fun h => h b hb
      have f9 : Hid _ := fun (A : Prop) (h : _ → A) => h hx9
      clear hx9 x9 gd8
      refine callQ_1 gd9 fun Ha la xa => ?_
      have fa : Hid _ := fun (A : Prop) (h : _ → A) => h xa
      clear xa
      repeat (with_reducible first|(first|refine pI1 ?_|refine pS1 ?_);intros|refine pA1 ?_|refine pX1 ?_|refine pB1 ?_|exact True.intro)
      exact ⟨rfl, by omega, fun b hb => by rw [fa _ fun h => h b (by omega)]; exact f9 _ fun h => h b hb⟩
    · have dlo := fs _ fun hsl _ _ _ => hss.gn hsl (i := 0) (by omega)
      have dhi := fs _ fun hsl _ _ _ => hss.gn hsl (i := n - 1) (by omega)
      have e1 : loI n = 0 := if_neg hn2
      have e2 : hiI n = n - 1 := if_neg hn2
      rw [e1] at glo1 glo2 ⊢
      rw [e2] at ghi1 ghi2 ⊢
      dsimp only at dlo dhi
      generalize gn s 0 = x1 at *
      generalize gn s (n - 1) = x2 at *
      rw [show 0 + (n - 1) = n - 1 by omega] at dhi
      have hni : ¬ (2 : Int) < (n : Nat) := by omega
      clear hx8 hss s1 s3 hd k1 hlt ea en e1 e2 b3'
      repeat (with_reducible first|(first|refine pI1 ?_|refine pS1 ?_);intros|refine pA1 ?_|refine pX1 ?_|refine pB1 ?_|exact True.intro)
      refine callQ_1 gd8 fun Ha la xa => ?_
      have fa : Hid _ := fun (A : Prop) (h : _ → A) => h xa
      clear xa
      repeat (with_reducible first|(first|refine pI1 ?_|refine pS1 ?_);intros|refine pA1 ?_|refine pX1 ?_|refine pB1 ?_|exact True.intro)
      exact ⟨rfl, by omega, fun b hb => by rw [fa _ fun h => h b (by omega)]; exact f8 _ fun h => h b hb⟩
end Go.Proofs.Yteiiddefimpplaa.AM.D08

namespace Go.Proofs.Yteiiddefimpplaa.AM.D08
open Go Go.Proofs.Yteiiddefimpplaa.AM Go.Proofs.Yteiiddefimpplaa.AM.C02 Go.Proofs.Yteiiddefimpplaa.AM.C08
set_option maxHeartbeats 2000000
set_option maxRecDepth 100000
attribute [local go_sem] tn_add1 tn_sub1 put_all' nums_len aop_mn aop_mx mnO_int mxO_int sub12
theorem s_Round {H : Heap} {p ms : Nat} {k : Clk} {own : Int} (hk : ClkM H p k) (ho : ClkOk k) (hms : ms < 65536) : WC F fn_clock_Clock_Round [.c (.ptr (some (p, 0))), .c (.int .u16 (ms : Nat)), .c (.int .i64 own)] H fun v H' => v = .tup [.c (.int .i64 (k.round ms own)), .c (.int .i64 0)] ∧ ClkM H' p (k.move (k.round ms own)).clear ∧ H.length ≤ H'.length ∧ ∀ b, b < H.length → b ≠ p → H'[b]? = H[b]? := by
  refine WC_start e_clock_Clock_Round (by simp) ?_
  unfold c_clock_Clock_Round
  have hno := s_none hk ho
  have hav := s_Average (own := own) hk ho hms
  have hpl := hk.lt
  obtain ⟨hb1, hb2⟩ := ho.b
  have hcl := cut_le (v := avg k ms own) (lo := -k.bound) (hi := k.bound) (by omega)
  have hmv := fun (Hx : Heap) (hx : Xt H Hx) => s_move (H := Hx) (by_ := cutZ (avg k ms own) (-k.bound) k.bound) (hk.keep (hx.2 p hpl)) ho (by omega)
  have hcut := fun Hx => s_cut (H := Hx) (v := avg k ms own) (lo := -k.bound) (hi := k.bound)
  have he : k.round ms own = cutZ (avg k ms own) (-k.bound) k.bound := rfl
  rw [← he] at hmv hcut hcl
  clear he
  have hkc := hk
  obtain ⟨C, g, h⟩ := hk
  have h4 := h.c4
  clear h ho hkc
  generalize k.move (k.round ms own) = k' at *
  generalize k.round ms own = r at *
  generalize avg k ms own = x at *
  generalize k.bound = d at *
  have fm : Hid _ := fun (A : Prop) (h : _ → _ → _ → _ → A) => h hmv hcut hno hav
  have hcut1 : ∀ Hx, WC F fn_clock_cut_int [.c (.int .i64 x), .c (.int .i64 (0 - d)), .c (.int .i64 d)] Hx fun v H' => v = .c (.int .i64 r) ∧ H' = Hx := fun Hx => by
    have := hcut Hx
    rw [show (-d : Int) = 0 - d by omega] at this
    exact this
  have fc : Hid _ := fun (A : Prop) (h : _ → A) => h hcut1
  clear hmv hcut hno hav hcut1
  repeat (with_reducible first|(first|refine pI1 ?_|refine pS1 ?_);intros|refine pA1 ?_|refine pX1 ?_|refine pB1 ?_|exact True.intro)
  refine outM_call (fm _ fun _ _ h _ => h) ?_
  rintro _ H ⟨rfl, rfl⟩
  repeat (with_reducible first|(first|refine pI1 ?_|refine pS1 ?_);intros|refine pA1 ?_|refine pX1 ?_|refine pB1 ?_|exact True.intro)
  refine outM_call (fm _ fun _ _ _ h => h) ?_
  rintro _ H1 ⟨rfl, l1, x1⟩
  have g1 := (x1 p (by omega)).trans g
  have f1 : Hid _ := fun (A : Prop) (h : _ → A) => h x1
  clear x1 g
  repeat (with_reducible first|(first|refine pI1 ?_|refine pS1 ?_);intros|refine pA1 ?_|refine pX1 ?_|refine pB1 ?_|exact True.intro)
  refine outM_call (fc _ fun h => h H1) ?_
  rintro _ H1 ⟨rfl, rfl⟩
  repeat (with_reducible first|(first|refine pI1 ?_|refine pS1 ?_);intros|refine pA1 ?_|refine pX1 ?_|refine pB1 ?_|exact True.intro)
  refine outM_call (fm _ fun h _ _ _ => f1 _ fun x1 => h H1 ⟨l1, x1⟩) ?_
  rintro _ H2 ⟨⟨C2, g2, hC2⟩, l2, x2⟩
  have hl2 := hC2.len
  have hclr := hC2.clr
  have hl3 : 6 + (List.replicate 16 (Cell.bool false)).length ≤ C2.length := by simp [hl2]
  have lp2 := lt_of_get g2
  have f2 : Hid _ := fun (A : Prop) (h : _ → _ → A) => h x2 hclr
  clear x2 hclr hC2 g1
  repeat (with_reducible first|(first|refine pI1 ?_|refine pS1 ?_);intros|refine pA1 ?_|refine pX1 ?_|refine pB1 ?_|exact True.intro)
  rename_i H3 l3 g3 x3
  have fx : Hid _ := fun (A : Prop) (h : _ → _ → A) => h g3 x3
  clear g3 x3
  repeat (with_reducible first|(first|refine pI1 ?_|refine pS1 ?_);intros|refine pA1 ?_|refine pX1 ?_|refine pB1 ?_|exact True.intro)
  exact ⟨rfl, ⟨_, fx _ fun g _ => g, f2 _ fun _ h => h⟩, by omega, fun b hb hp => by rw [fx _ fun _ x => x b hp, f2 _ fun x _ => x b hp]; exact f1 _ fun x1 => x1 b hb⟩
def clk0 (c : Cfg) : Clk := ⟨c.nodes.toNat, c.drift, c.reading, c.margin, c.bound, 0, fun _ => false, fun _ => 0⟩
theorem clk0_ok {c : Cfg} (h : c.check = 0) : ClkOk (clk0 c) := by
  obtain ⟨⟨n1, n2, -⟩, ⟨d1, d2, r1, r2, m1, m2, b1, b2, -⟩, -⟩ := Cfg.check_ok.1 h
  have hp : 0 ≤ c.prec := by unfold Cfg.prec; omega
  exact ⟨by show 4 ≤ c.nodes.toNat; omega, by show c.nodes.toNat ≤ 16; omega, ⟨d1, d2⟩, ⟨r1, r2⟩, ⟨by show 0 ≤ c.margin; omega, m2⟩, ⟨by show 0 ≤ c.bound; omega, b2⟩, by unfold E clk0; constructor <;> (dsimp only; omega), fun n => by unfold E clk0; constructor <;> (dsimp only; omega)⟩
theorem lit38 (a b c : Cell) : List.replicate 6 a ++ List.replicate 16 b ++ List.replicate 16 c = [a, a, a, a, a, a, b, b, b, b, b, b, b, b, b, b, b, b, b, b, b, b, c, c, c, c, c, c, c, c, c, c, c, c, c, c, c, c] := rfl
theorem s_New {N : Nat} {H : Heap} {c : Cfg} {h : Hd} (hc : CfgM N H c h) (hN : N ≤ H.length) : WC F fn_clock_New [.agg (c.cells h)] H fun v H' => Xt H H' ∧
    ((c.check ≠ 0 ∧ v = .tup [.c (.ptr none), .c (.int .i64 c.check)]) ∨ (c.check = 0 ∧ ∃ p, v = .tup [.c (.ptr (some (p, 0))), .c (.int .i64 0)] ∧ H.length ≤ p ∧ p < H'.length ∧ ClkM H' p (clk0 c))) := by
  refine WC_start e_clock_New (by simp) ?_
  unfold c_clock_New
  have hck := fun (Hx : Heap) (hx : Xt H Hx) => s_Check (H := Hx) (hc.keep fun b hb => hx.2 b (by omega)) (by have := hx.1; omega)
  unfold Cfg.cells at *
  obtain ⟨k, hk⟩ : ∃ k, k = c.check := ⟨_, rfl⟩
  rw [← hk] at hck ⊢
  have hn0 : k = 0 → 0 ≤ c.nodes := fun h0 => by obtain ⟨q1, _⟩ := (Cfg.check_ok.1 (by rw [← hk, h0])).nodes; omega
  have fin0 : Hid _ := fun (A : Prop) (h : _ → _ → A) => h hck hn0
  have hl := lit38 (.int .i64 0) (.bool false) (.int .i64 0)
  clear hck hc hk hn0
  repeat (with_reducible first|(first|refine pI1 ?_|refine pS1 ?_);intros|refine pA1 ?_|refine pX1 ?_|refine pB1 ?_|exact True.intro)
  rename_i b1 H1 p1 g1 x1
  have t1 : Xt H H1 := ⟨by omega, fun b hb => x1 b (by omega)⟩
  have f1 : Hid _ := fun (A : Prop) (h : _ → A) => h t1
  clear x1 t1
  repeat (with_reducible first|(first|refine pI1 ?_|refine pS1 ?_);intros|refine pA1 ?_|refine pX1 ?_|refine pB1 ?_|exact True.intro)
  refine outM_call (fin0 _ fun h _ => f1 _ fun t => h H1 t) ?_
  rintro _ H2 ⟨rfl, l2, x2⟩
  have g2 := (x2 b1 (by omega)).trans g1
  have t2 : Xt H H2 := f1 _ fun t => ⟨by omega, fun b hb => by rw [x2 b (by omega)]; exact t.2 b hb⟩
  have f2 : Hid _ := fun (A : Prop) (h : _ → A) => h t2
  clear x2 t2 g1 f1
  by_cases h0 : k = 0
  case neg =>
    clear hl
    repeat (with_reducible first|(first|refine pI1 ?_|refine pS1 ?_);intros|refine pA1 ?_|refine pX1 ?_|refine pB1 ?_|exact True.intro)
    exact ⟨f2 _ fun t => t, .inl ⟨h0, rfl⟩⟩
  subst h0
  have hnn := fin0 _ fun _ h => h rfl
  repeat (with_reducible first|(first|refine pI1 ?_|refine pS1 ?_);intros|refine pA1 ?_|refine pX1 ?_|refine pB1 ?_|exact True.intro)
  rename_i b3 H3 p3 g3 x3
  refine ⟨⟨by omega, fun b hb => by rw [x3 b (by omega)]; exact f2 _ fun t => t.2 b hb⟩, .inr ⟨rfl, b3, rfl, by omega, by omega, _, g3, ⟨rfl, ?_, rfl, rfl, rfl, rfl, rfl, fun n hn => ?_, fun n hn => ?_⟩⟩⟩
  · show some (Cell.int .i64 c.nodes) = some (.int .i64 ((c.nodes.toNat : Nat) : Int))
    rw [Int.toNat_of_nonneg hnn]
  · have : n = 0 ∨ n = 1 ∨ n = 2 ∨ n = 3 ∨ n = 4 ∨ n = 5 ∨ n = 6 ∨ n = 7 ∨ n = 8 ∨ n = 9 ∨ n = 10 ∨ n = 11 ∨ n = 12 ∨ n = 13 ∨ n = 14 ∨ n = 15 := by omega
    rcases this with rfl | rfl | rfl | rfl | rfl | rfl | rfl | rfl | rfl | rfl | rfl | rfl | rfl | rfl | rfl | rfl <;> rfl
  · have : n = 0 ∨ n = 1 ∨ n = 2 ∨ n = 3 ∨ n = 4 ∨ n = 5 ∨ n = 6 ∨ n = 7 ∨ n = 8 ∨ n = 9 ∨ n = 10 ∨ n = 11 ∨ n = 12 ∨ n = 13 ∨ n = 14 ∨ n = 15 := by omega
    rcases this with rfl | rfl | rfl | rfl | rfl | rfl | rfl | rfl | rfl | rfl | rfl | rfl | rfl | rfl | rfl | rfl <;> rfl
end Go.Proofs.Yteiiddefimpplaa.AM.D08

namespace Go.Proofs.Yteiiddefimpplaa.AM.D08
open Go Go.Proofs.Yteiiddefimpplaa.AM Go.Proofs.Yteiiddefimpplaa.AM.C02 Go.Proofs.Yteiiddefimpplaa.AM.C08
set_option maxHeartbeats 2000000
set_option maxRecDepth 100000
attribute [local go_sem] tn_add1 tn_sub1 put_all' nums_len sub12
def w4 : List Int := [-1, -1, -1, -1]
theorem rep6a : List.replicate 6 (Cell.int .i64 0) = [.int .i64 0, .int .i64 0, .int .i64 0, .int .i64 0, .int .i64 0, .int .i64 0] := rfl
theorem rep4a : List.replicate 4 (Cell.int .i64 0) = [.int .i64 0, .int .i64 0, .int .i64 0, .int .i64 0] := rfl
theorem rep4b : List.replicate 4 (Cell.sl none 0 0 false) = [.sl none 0 0 false, .sl none 0 0 false, .sl none 0 0 false, .sl none 0 0 false] := rfl
attribute [local go_sem high] rep6a rep4a rep4b
end Go.Proofs.Yteiiddefimpplaa.AM.D08

namespace Go.Proofs.Yteiiddefimpplaa.AM.D08
open Go Go.Proofs.Yteiiddefimpplaa.AM Go.Proofs.Yteiiddefimpplaa.AM.C02 Go.Proofs.Yteiiddefimpplaa.AM.C08
set_option maxHeartbeats 2000000
set_option maxRecDepth 100000
attribute [local go_sem] tn_add1 tn_sub1 put_all' nums_len
end Go.Proofs.Yteiiddefimpplaa.AM.D08

namespace Go.Proofs.Yteiiddefimpplaa.AM.D08
open Go Go.Proofs.Yteiiddefimpplaa.AM Go.Proofs.Yteiiddefimpplaa.AM.C02 Go.Proofs.Yteiiddefimpplaa.AM.C08
set_option maxHeartbeats 2000000
set_option maxRecDepth 100000
attribute [local go_sem] tn_add1 tn_sub1 put_all' nums_len
theorem s_rCut {H : Heap} {v m : Int} (hm : 0 ≤ m ∧ m ≤ 4000000000000) : WC F fn_rotaref08_Cut [.c (.int .i64 v), .c (.int .i64 m)] H fun r H' => r = .c (.int .i64 (cutZ v (-m) m)) ∧ H' = H := by
  refine WC_start e_rotaref08_Cut (by simp) ?_
  unfold c_rotaref08_Cut
  obtain ⟨m1, m2⟩ := hm
  have e1 : v > m → cutZ v (-m) m = m := fun h => by unfold cutZ; omega
  have e2 : ¬ v > m → v < 0 - m → cutZ v (-m) m = 0 - m := fun h h' => by unfold cutZ; omega
  have e3 : ¬ v > m → ¬ v < 0 - m → cutZ v (-m) m = v := fun h h' => by unfold cutZ; omega
  have fin0 : Hid _ := fun (A : Prop) (h : _ → _ → _ → A) => h e1 e2 e3
  clear e1 e2 e3
  by_cases h1 : v > m
  · rw [fin0 _ fun e _ _ => e h1]
    repeat (with_reducible first|(first|refine pI1 ?_|refine pS1 ?_);intros|refine pA1 ?_|refine pX1 ?_|refine pB1 ?_|exact True.intro)
    exact ⟨rfl, rfl⟩
  by_cases h2 : v < 0 - m
  · rw [fin0 _ fun _ e _ => e h1 h2]
    repeat (with_reducible first|(first|refine pI1 ?_|refine pS1 ?_);intros|refine pA1 ?_|refine pX1 ?_|refine pB1 ?_|exact True.intro)
    exact ⟨rfl, rfl⟩
  · rw [fin0 _ fun _ _ e => e h1 h2]
    repeat (with_reducible first|(first|refine pI1 ?_|refine pS1 ?_);intros|refine pA1 ?_|refine pX1 ?_|refine pB1 ?_|exact True.intro)
    exact ⟨rfl, rfl⟩
theorem s_rHalf {H : Heap} {s : Int} (hs : -4611686018427387904 ≤ s ∧ s ≤ 4611686018427387904) : WC F fn_rotaref08_Half [.c (.int .i64 s)] H fun r H' => r = .c (.int .i64 (s / 2)) ∧ H' = H := by
  refine WC_start e_rotaref08_Half (by simp) ?_
  unfold c_rotaref08_Half
  obtain ⟨s1, s2⟩ := hs
  have k1 := Int.mul_tdiv_add_tmod s 2
  have k2 : s < 0 → -2 < Int.tmod s 2 ∧ Int.tmod s 2 ≤ 0 := fun h => by
    have e : Int.tmod s 2 = -(Int.tmod (-s) 2) := by rw [Int.neg_tmod, Int.neg_neg]
    have := Int.tmod_eq_emod_of_nonneg (a := -s) (b := 2) (by omega)
    omega
  have e1 : s < 0 → Int.tmod s 2 ≠ 0 → s / 2 = Int.tdiv s 2 - 1 := fun h h' => by have := k2 h; omega
  have e2 : ¬ s < 0 → s / 2 = Int.tdiv s 2 := fun h => (Int.tdiv_eq_ediv_of_nonneg (by omega)).symm
  have e3 : Int.tmod s 2 = 0 → s / 2 = Int.tdiv s 2 := fun h => by omega
  have b1 : -4611686018427387904 ≤ Int.tdiv s 2 ∧ Int.tdiv s 2 ≤ 4611686018427387904 := by
    by_cases h : s < 0
    · have := k2 h; omega
    · rw [← e2 h]; omega
  have fin0 : Hid _ := fun (A : Prop) (h : _ → _ → _ → A) => h e1 e2 e3
  clear e1 e2 e3 k1 k2
  obtain ⟨b1, b2⟩ := b1
  by_cases h1 : s < 0
  · have hrem : binC .rem (.int .i64 s) (.int .i64 2) = some (.int .i64 (Int.tmod s 2)) := rem_int _ (by omega)
    have hquo : binC .quo (.int .i64 s) (.int .i64 2) = some (.int .i64 (Int.tdiv s 2)) := by rw [quo_int _ (by omega), wrap_i64 (by omega) (by omega)]
    have e1 := fin0 _ fun e _ _ => e h1
    have e3 := fin0 _ fun _ _ e => e
    generalize Int.tdiv s 2 = y at *
    generalize Int.tmod s 2 = z at *
    by_cases h2 : z = 0
    · rw [e3 h2]
      clear e1 e3 fin0
      repeat (with_reducible first|(first|refine pI1 ?_|refine pS1 ?_);intros|refine pA1 ?_|refine pX1 ?_|refine pB1 ?_|exact True.intro)
      exact ⟨rfl, rfl⟩
    · rw [e1 h2]
      clear e1 e3 fin0
      repeat (with_reducible first|(first|refine pI1 ?_|refine pS1 ?_);intros|refine pA1 ?_|refine pX1 ?_|refine pB1 ?_|exact True.intro)
      exact ⟨rfl, rfl⟩
  · repeat (with_reducible first|(first|refine pI1 ?_|refine pS1 ?_);intros|refine pA1 ?_|refine pX1 ?_|refine pB1 ?_|exact True.intro)
    exact ⟨rfl, rfl⟩
theorem s_rIs {H : Heap} {ms i : Nat} (hm : ms < 65536) (hi : i ≤ 100) : WC F fn_rotaref08_Is [.c (.int .u16 (ms : Nat)), .c (.int .i64 (i : Nat))] H fun v H' => v = .c (.bool (P3.bt ms i)) ∧ H' = H := by
  refine WC_start e_rotaref08_Is (by simp) ?_
  unfold c_rotaref08_Is
  have h0 : ms / 2 ^ 0 = ms := by simp
  have hb : ∀ k, ms / 2 ^ k < 65536 := fun k => Nat.lt_of_le_of_lt (Nat.div_le_self _ _) hm
  have hs : ∀ k, ms / 2 ^ (k + 1) = ms / 2 ^ k / 2 := fun k => by rw [Nat.pow_succ, Nat.div_div_eq_div_mul]
  have fin0 : Hid _ := fun (A : Prop) (h : _ → _ → _ → A) => h h0 hb hs
  clear h0 hb hs
  repeat (with_reducible first|(first|refine pI1 ?_|refine pS1 ?_);intros|refine pA1 ?_|refine pX1 ?_|refine pB1 ?_|exact True.intro)
  refine W_loop (fun mm st => ∃ ρ, ∃ k : Nat, st = ⟨L 16 ρ, [], H⟩ ∧ mm = i - k ∧ k ≤ i ∧ ρ 0 = .c (.int .u16 (ms / 2 ^ k : Nat)) ∧ ρ 1 = .c (.int .i64 (i : Nat)) ∧ ρ 5 = .c (.int .i64 (k : Nat))) i ⟨_, 0, rfl, rfl, by omega, by rw [fin0 _ fun h _ _ => h]; exact zf, zf, zf⟩ ?_
  rintro mm st ⟨ρ, k, rfl, rfl, hk, e0, e1, e5⟩
  unfold b_rotaref08_Is_5
  have hb := fin0 _ fun _ hb _ => hb k
  have hs := fin0 _ fun _ _ hs => hs k
  have hbt : P3.bt ms k = (ms / 2 ^ k % 2 == 1) := rfl
  by_cases hki : k < i
  · have hxt : (k : Int) < (i : Int) := by omega
    have fs : Hid _ := fun (A : Prop) (h : _ → A) => h hs
    clear hs hbt
    generalize ms / 2 ^ k = q at *
    repeat (with_reducible first|(first|refine pI1 ?_|refine pS1 ?_);intros|refine pA1 ?_|refine pX1 ?_|refine pB1 ?_|exact True.intro)
    exact loopQ_n (i - (k + 1)) (by omega) ⟨_, k + 1, rfl, rfl, by omega, by rw [fs _ fun h => h]; exact zf, zf, zf⟩
  · obtain rfl : k = i := by omega
    have hxt : ¬ (k : Int) < (k : Int) := by omega
    rw [hbt]
    clear hs hbt
    generalize ms / 2 ^ k = q at *
    by_cases hq : q % 2 = 1
    · repeat (with_reducible first|(first|refine pI1 ?_|refine pS1 ?_);intros|refine pA1 ?_|refine pX1 ?_|refine pB1 ?_|exact True.intro)
      exact ⟨by simp [hq], rfl⟩
    · have hq0 : q % 2 = 0 := by omega
      repeat (with_reducible first|(first|refine pI1 ?_|refine pS1 ?_);intros|refine pA1 ?_|refine pX1 ?_|refine pB1 ?_|exact True.intro)
      exact ⟨by simp [hq0], rfl⟩
end Go.Proofs.Yteiiddefimpplaa.AM.D08

namespace Go.Proofs.Yteiiddefimpplaa.AM.D08
open Go Go.Proofs.Yteiiddefimpplaa.AM Go.Proofs.Yteiiddefimpplaa.AM.C02 Go.Proofs.Yteiiddefimpplaa.AM.C08
set_option maxHeartbeats 2000000
set_option maxRecDepth 100000
attribute [local go_sem] tn_add1 tn_sub1 put_all' nums_len
theorem addA_0 (a : Ad) : addA a 0 = a := by unfold addA; rfl
theorem tail_sl {H : Heap} {a : Option Ad} {n l : Nat} {o : Bool} {xs : List Cell} (hs : Sl H 1 a n xs) (hl : l ≤ n) : ∃ b' o', slSO 1 (.c (.sl a n n o)) (some (.c (.int .i64 (l : Nat)))) none none = some (.c (.sl b' (n - l) (n - l) o')) ∧ Sl H 1 b' (n - l) (xs.drop l) := by
  have hlen := hs.len
  rw [Nat.mul_one] at hlen
  have e : slSO 1 (.c (.sl a n n o)) (some (.c (.int .i64 (l : Nat)))) none none = some (.c (.sl (if n = l ∧ o = false then a else a.map (addA · l)) (n - l) (n - l) o)) := by
    simp [slSO, bnds, bnd, asI, hl]
  refine ⟨_, _, e, ?_⟩
  cases a with
  | none =>
    have : n = 0 := hs.nil rfl
    subst this
    obtain rfl : l = 0 := by omega
    obtain rfl : xs = [] := List.length_eq_zero_iff.1 (by omega)
    split <;> exact hs
  | some a =>
    split
    · rename_i h
      obtain ⟨rfl, -⟩ := h
      have h := hs.sub1 (l := 0) (h := 0) (by omega) (by omega)
      rw [addA_0] at h
      rw [Nat.sub_self, List.drop_eq_nil_of_le (by omega)]
      exact h
    · have h := hs.sub1 (l := l) (h := n) hl (by omega)
      rw [List.take_of_length_le (by simp; omega)] at h
      exact h
theorem head_sl {H : Heap} {a : Option Ad} {n l : Nat} {xs : List Cell} (hs : Sl H 1 a n xs) (hl : l ≤ n) : Sl H 1 a l (xs.take l) := by
  have hlen := hs.len
  rw [Nat.mul_one] at hlen
  cases a with
  | none =>
    have : n = 0 := hs.nil rfl
    subst this
    obtain rfl : l = 0 := by omega
    obtain rfl : xs = [] := List.length_eq_zero_iff.1 (by omega)
    exact hs
  | some a =>
    have h := hs.sub1 (l := 0) (h := l) (by omega) hl
    rw [addA_0, List.drop_zero, Nat.sub_zero] at h
    exact h
end Go.Proofs.Yteiiddefimpplaa.AM.D08

namespace Go.Proofs.Yteiiddefimpplaa.AM.D08
open Go Go.Proofs.Yteiiddefimpplaa.AM Go.Proofs.Yteiiddefimpplaa.AM.C02 Go.Proofs.Yteiiddefimpplaa.AM.C08
set_option maxHeartbeats 2000000
set_option maxRecDepth 100000
attribute [local go_sem] tn_add1 tn_sub1 put_all' nums_len
theorem mid_find {ρ : Nat → V} {H : Heap} {a : Option Ad} {la y n c0 i : Nat} {o0 ob : Bool} {s : List Int} {x : Int} (e0 : ρ 0 = .c (.sl (some (la, y)) n c0 o0)) (e4 : ρ 4 = .c (.sl a i i ob)) (e5 : ρ 5 = .c (.int .i64 (i : Nat))) (e6 : ρ 6 = .c (.int .i64 0)) (hi : i < n) (hn : n ≤ 100) (hx : ldB H[la]? (y + i) = some (.int .i64 x)) (hs : Sl H 1 a i (nums s)) (hl : s.length = i) :
    W F none (.block 2 (.loop b_rotaref08_Middle_7)) ⟨L 78 ρ, [], H⟩ fun e st => e = .normal ∧ ∃ ρ', ∃ k : Nat, st = ⟨L 78 ρ', [], H⟩ ∧ ρ' 0 = .c (.sl (some (la, y)) n c0 o0) ∧ ρ' 4 = .c (.sl a i i ob) ∧ ρ' 5 = .c (.int .i64 (i : Nat)) ∧ ρ' 6 = .c (.int .i64 (k : Nat)) ∧ k ≤ i ∧ (∀ j z, j < k → s[j]? = some z → z < x) ∧ ∀ z, s[k]? = some z → x ≤ z := by
  have fin0 : Hid _ := fun (A : Prop) (h : _ → _ → A) => h hs hl
  clear hs hl
  repeat (with_reducible first|(first|refine pI1 ?_|refine pS1 ?_);intros|refine pA1 ?_|refine pX1 ?_|refine pB1 ?_|exact True.intro)
  refine W_loop (fun m st => ∃ ρ, ∃ k : Nat, st = ⟨L 78 ρ, [], H⟩ ∧ m = i - k ∧ k ≤ i ∧ ρ 0 = .c (.sl (some (la, y)) n c0 o0) ∧ ρ 4 = .c (.sl a i i ob) ∧ ρ 5 = .c (.int .i64 (i : Nat)) ∧ ρ 6 = .c (.int .i64 (k : Nat)) ∧ Hid (∀ j z, j < k → s[j]? = some z → z < x)) i ⟨_, 0, rfl, rfl, by omega, zf, zf, zf, zf, fun j z h => absurd h (by omega)⟩ ?_
  clear e0 e4 e5 e6
  rintro m st ⟨ρ, k, rfl, rfl, hk, e0, e4, e5, e6, hall⟩
  unfold b_rotaref08_Middle_7
  have fz : Hid _ := fun (A : Prop) (h : _ → A) => h hall
  clear hall
  by_cases hki : k < i
  · have hxt : (k : Int) < (i : Int) := by omega
    obtain ⟨⟨lb, z⟩, rfl⟩ := fin0 _ fun hs hl => hs.is_some (by omega)
    have hg := fin0 _ fun hs hl => hs.gn hl hki
    dsimp only at hg
    have hsk := fin0 _ fun _ hl => (show s[k]? = some (gn s k) by unfold gn; rw [List.getD_eq_getElem?_getD, List.getElem?_eq_getElem (by omega)]; rfl)
    have fk : Hid _ := fun (A : Prop) (h : _ → A) => h hsk
    clear hsk
    generalize gn s k = w at *
    by_cases hw : w < x
    · repeat (with_reducible first|(first|refine pI1 ?_|refine pS1 ?_);intros|refine pA1 ?_|refine pX1 ?_|refine pB1 ?_|exact True.intro)
      exact loopQ_n (i - (k + 1)) (by omega) ⟨_, k + 1, rfl, rfl, by omega, zf, zf, zf, zf, fun j z hj hz => by
        by_cases e : j = k
        · subst e
          have := fk _ fun h => h
          rw [this] at hz; cases hz; exact hw
        · exact fz _ fun h => h j z (by omega) hz⟩
    · repeat (with_reducible first|(first|refine pI1 ?_|refine pS1 ?_);intros|refine pA1 ?_|refine pX1 ?_|refine pB1 ?_|exact True.intro)
      exact ⟨rfl, _, k, rfl, zf, zf, zf, zf, hk, fz _ fun h => h, fun z hz => by
        have := fk _ fun h => h
        rw [this] at hz; cases hz; omega⟩
  · obtain rfl : k = i := by omega
    have hxt : ¬ (k : Int) < (k : Int) := by omega
    repeat (with_reducible first|(first|refine pI1 ?_|refine pS1 ?_);intros|refine pA1 ?_|refine pX1 ?_|refine pB1 ?_|exact True.intro)
    exact ⟨rfl, _, k, rfl, zf, zf, zf, zf, hk, fz _ fun h => h, fun z hz => by
      have := fin0 _ fun _ hl => hl
      rw [List.getElem?_eq_none (by omega)] at hz; cases hz⟩
end Go.Proofs.Yteiiddefimpplaa.AM.D08

namespace Go.Proofs.Yteiiddefimpplaa.AM.D08
open Go Go.Proofs.Yteiiddefimpplaa.AM Go.Proofs.Yteiiddefimpplaa.AM.C02 Go.Proofs.Yteiiddefimpplaa.AM.C08
set_option maxHeartbeats 2000000
set_option maxRecDepth 100000
attribute [local go_sem] tn_add1 tn_sub1 put_all' nums_len
theorem mid_cells (s : List Int) (k : Nat) (x : Int) : ([] ++ (nums s).take k) ++ [.int .i64 x] ++ (nums s).drop k = nums (s.take k ++ x :: s.drop k) := by
  unfold nums; simp [List.map_take, List.map_drop]
theorem mid_put {ρ : Nat → V} {H : Heap} {a : Option Ad} {la y n c0 i k : Nat} {o0 ob : Bool} {s : List Int} {x : Int} (e0 : ρ 0 = .c (.sl (some (la, y)) n c0 o0)) (e4 : ρ 4 = .c (.sl a i i ob)) (e5 : ρ 5 = .c (.int .i64 (i : Nat))) (e6 : ρ 6 = .c (.int .i64 (k : Nat))) (hi : i < n) (hn : n ≤ 100) (hk : k ≤ i) (hx : ldB H[la]? (y + i) = some (.int .i64 x)) (hla : la < H.length) (hs : Sl H 1 a i (nums s)) (hl : s.length = i) :
    W F none (.seq (.ops o_rotaref08_Middle_8) (.seq (.ops o_rotaref08_Middle_9) (.seq (.ops o_rotaref08_Middle_10) (.ops o_rotaref08_Middle_11)))) ⟨L 78 ρ, [], H⟩ fun e st => e = .normal ∧ ∃ ρ' H' a' o', st = ⟨L 78 ρ', [], H'⟩ ∧ ρ' 0 = .c (.sl (some (la, y)) n c0 o0) ∧ ρ' 4 = .c (.sl a' (i + 1) (i + 1) o') ∧ ρ' 5 = .c (.int .i64 (i : Nat)) ∧ Gr H.length H' 1 a' (i + 1) o' (nums (s.take k ++ x :: s.drop k)) ∧ Xt H H' := by
  have hhd := head_sl hs hk
  obtain ⟨b', o', hts, htl⟩ := tail_sl (o := ob) hs hk
  have ec := mid_cells s k x
  have fin0 : Hid _ := fun (A : Prop) (h : _ → _ → _ → A) => h hhd htl ec
  clear hhd htl ec hs hl
  repeat (with_reducible first|(first|refine pI1 ?_|refine pS1 ?_);intros|refine pA1 ?_|refine pX1 ?_|refine pB1 ?_|exact True.intro)
  refine outM_appA (n := 0) (xs := []) (Gr.none H.length H 1) (Nat.le_refl _) (fin0 _ fun h _ _ => h) (by omega) ?_
  intro a1 o1 H1 q1 l1 x1 _
  rw [Nat.zero_add] at q1
  rw [Nat.zero_add]
  have hx1 : ldB H1[la]? (y + i) = some (.int .i64 x) := by rw [x1 la hla]; exact hx
  have f1 : Hid _ := fun (A : Prop) (h : _ → _ → A) => h q1 x1
  clear q1 x1 hx
  repeat (with_reducible first|(first|refine pI1 ?_|refine pS1 ?_);intros|refine pA1 ?_|refine pX1 ?_|refine pB1 ?_|exact True.intro)
  rename_i bz H2 p2 g2 x2
  refine outM_appA (j := 1) ((f1 _ fun h _ => h).keepX fun b hb => x2 b (by omega)) (by omega) (Sl.blk g2 rfl) (by omega) ?_
  intro a2 o2 H3 q3 l3 x3 _
  have y3 : ∀ b, b < H.length → H3[b]? = H[b]? := fun b hb => by rw [x3 b hb, x2 b (by omega)]; exact f1 _ fun _ h => h b hb
  have f3 : Hid _ := fun (A : Prop) (h : _ → _ → A) => h q3 y3
  clear q3 y3 x3 x2 g2 hx1
  repeat (with_reducible first|(first|refine pI1 ?_|refine pS1 ?_);intros|refine pA1 ?_|refine pX1 ?_|refine pB1 ?_|exact True.intro)
  refine outM_appA (f3 _ fun h _ => h) (by omega) ((fin0 _ fun _ h _ => h).to fun b hb => f3 _ fun _ h => h b hb) (by omega) ?_
  intro a4 o4 H4 q4 l4 x4 _
  have en : k + 1 + (i - k) = i + 1 := by omega
  rw [fin0 _ fun _ _ h => h, en] at q4
  rw [en]
  have y4 : Xt H H4 := ⟨by omega, fun b hb => by rw [x4 b hb]; exact f3 _ fun _ h => h b hb⟩
  have f4 : Hid _ := fun (A : Prop) (h : _ → _ → A) => h q4 y4
  clear q4 y4 x4
  repeat (with_reducible first|(first|refine pI1 ?_|refine pS1 ?_);intros|refine pA1 ?_|refine pX1 ?_|refine pB1 ?_|exact True.intro)
  exact ⟨rfl, _, H4, a4, o4, rfl, zf, zf, zf, f4 _ fun h _ => h, f4 _ fun _ h => h⟩
end Go.Proofs.Yteiiddefimpplaa.AM.D08

namespace Go.Proofs.Yteiiddefimpplaa.AM.D08
open Go Go.Proofs.Yteiiddefimpplaa.AM Go.Proofs.Yteiiddefimpplaa.AM.C02 Go.Proofs.Yteiiddefimpplaa.AM.C08
set_option maxHeartbeats 2000000
set_option maxRecDepth 100000
attribute [local go_sem] tn_add1 tn_sub1 put_all' nums_len
theorem s_rMiddle {H : Heap} {a0 : Option Ad} {n c0 : Nat} {o0 : Bool} {l : List Int} (hs : Sl H 1 a0 n (nums l)) (hl : l.length = n) (hn : n ≤ 100) (hb : ∀ x ∈ l, -2199023255552 ≤ x ∧ x ≤ 2199023255552) : WC F fn_rotaref08_Middle [.c (.sl a0 n c0 o0)] H fun v H' => v = .tup [.c (.int .i64 (avgS (sorted l))), .c (.bool (decide (0 < l.length)))] ∧ Xt H H' := by
  refine WC_start e_rotaref08_Middle (by simp) ?_
  unfold c_rotaref08_Middle
  have h00 : Gr H.length H 1 none 0 false (nums (sorted (l.take 0))) := by
    rw [List.take_zero, show sorted ([] : List Int) = [] by simp [sorted]]; exact Gr.none _ _ _
  have hd : decide (0 < l.length) = decide (0 < n) := by rw [hl]
  rw [hd]
  have fin0 : Hid _ := fun (A : Prop) (h : _ → _ → _ → _ → A) => h hs hl hb h00
  clear hs hl hb h00 hd
  repeat (with_reducible first|(first|refine pI1 ?_|refine pS1 ?_);intros|refine pA1 ?_|refine pX1 ?_|refine pB1 ?_|exact True.intro)
  refine W_loop (fun m st => ∃ ρ, ∃ i : Nat, ∃ a ob Hk, st = ⟨L 78 ρ, [], Hk⟩ ∧ m = n - i ∧ i ≤ n ∧ ρ 0 = .c (.sl a0 n c0 o0) ∧ ρ 4 = .c (.sl a i i ob) ∧ ρ 5 = .c (.int .i64 (i : Nat)) ∧ H.length ≤ Hk.length ∧ Hid ((∀ b, b < H.length → Hk[b]? = H[b]?) ∧ Gr H.length Hk 1 a i ob (nums (sorted (l.take i))))) n
    ⟨_, 0, none, false, H, rfl, rfl, by omega, zf, zf, zf, Nat.le_refl _, fun _ _ => rfl, fin0 _ fun _ _ _ h => h⟩ ?_
  rintro m st ⟨ρ, i, a, ob, Hk, rfl, rfl, hi, e0, e4, e5, lk, hall⟩
  unfold b_rotaref08_Middle_13
  obtain ⟨Y, hY⟩ : ∃ Y, Y = IC.seq (.block 2 (.loop b_rotaref08_Middle_7)) (.seq (.ops o_rotaref08_Middle_8) (.seq (.ops o_rotaref08_Middle_9) (.seq (.ops o_rotaref08_Middle_10) (.ops o_rotaref08_Middle_11)))) := ⟨_, rfl⟩
  rw [← hY]
  have fY : Hid _ := fun (A : Prop) (h : _ → A) => h hY
  have fz : Hid _ := fun (A : Prop) (h : _ → A) => h hall
  clear hY hall
  by_cases hin : i < n
  · have hxt : (i : Int) < (n : Int) := by omega
    obtain ⟨⟨la, y⟩, rfl⟩ := fin0 _ fun hs _ _ _ => hs.is_some (by omega)
    have hla : la < H.length := fin0 _ fun hs _ _ _ => hs.lts
    obtain ⟨x, hx⟩ : ∃ x, x = gn l i := ⟨_, rfl⟩
    have hg : ldB Hk[la]? (y + i) = some (.int .i64 x) := by
      rw [fz _ fun h => h.1 la hla, hx]; exact fin0 _ fun hs hl _ _ => hs.gn hl hin
    have hlx : l[i]? = some x := fin0 _ fun _ hl _ _ => by rw [hx]; unfold gn; rw [List.getD_eq_getElem?_getD, List.getElem?_eq_getElem (by omega)]; rfl
    have hsl : (sorted (l.take i)).length = i := fin0 _ fun _ hl _ _ => by rw [sorted_length, List.length_take]; omega
    have fg : Hid _ := fun (A : Prop) (h : _ → _ → _ → A) => h hg hlx hsl
    clear hg hlx hsl hx
    repeat (with_reducible first|(first|refine pI1 ?_|refine pS1 ?_);intros|refine pA1 ?_|refine pX1 ?_|refine pB1 ?_|exact True.intro)
    rw [fY _ fun h => h]
    refine W_cut _ (mid_find (la := la) (y := y) (n := n) (i := i) (x := x) (s := sorted (l.take i)) zf zf zf zf hin hn (fg _ fun h _ _ => h) (fz _ fun h => h.2.sl) (fg _ fun _ _ h => h)) ?_
    rintro _ ⟨ρ2, k, rfl, z0, z4, z5, z6, hk, hlo, hhi⟩
    refine W.mono (mid_put (la := la) (y := y) (n := n) (i := i) (k := k) (x := x) (s := sorted (l.take i)) z0 z4 z5 z6 hin hn hk (fg _ fun h _ _ => h) (by omega) (fz _ fun h => h.2.sl) (fg _ fun _ _ h => h)) ?_
    rintro _ _ ⟨rfl, ρ3, H3, a', o', rfl, y0, y4, y5, hgr, hx3⟩
    have hst : sorted (l.take (i + 1)) = (sorted (l.take i)).take k ++ x :: (sorted (l.take i)).drop k := by
      obtain ⟨h1, h2⟩ := ins_at (sorted_pw _) hlo hhi
      exact sorted_step (fg _ fun _ h _ => h) h1 h2
    rw [← hst] at hgr
    have hg3 := hgr.mono (lo' := H.length) lk
    have x3 : ∀ b, b < H.length → H3[b]? = H[b]? := fun b hb => by rw [hx3.2 b (by omega)]; exact fz _ fun h => h.1 b hb
    have l3 := hx3.1
    have f3 : Hid _ := fun (A : Prop) (h : _ → _ → A) => h hg3 x3
    clear hst hgr hg3 x3 hx3 hlo hhi z0 z4 z5 z6 e0 e4 e5
    repeat (with_reducible first|(first|refine pI1 ?_|refine pS1 ?_);intros|refine pA1 ?_|refine pX1 ?_|refine pB1 ?_|exact True.intro)
    exact loopQ_n (n - (i + 1)) (by omega) ⟨_, i + 1, a', o', H3, rfl, rfl, by omega, zf, zf, zf, by omega, f3 _ fun _ h => h, f3 _ fun h _ => h⟩
  obtain rfl : n = i := by omega
  have hxt : ¬ (n : Int) < (n : Int) := by omega
  obtain ⟨s, hse⟩ : ∃ s, s = sorted l := ⟨_, rfl⟩
  have hsl : s.length = n := fin0 _ fun _ hl _ _ => by rw [hse, sorted_length, hl]
  have hg : Gr H.length Hk 1 a n ob (nums s) := fin0 _ fun _ hl _ _ => by
    have h := fz _ fun h => h.2
    rw [List.take_of_length_le (by omega)] at h
    rw [hse]; exact h
  have hsb : ∀ j, j < n → -2199023255552 ≤ gn s j ∧ gn s j ≤ 2199023255552 := fun j hj => fin0 _ fun _ _ hb _ => hb _ (by
    have := gn_mem (l := s) (i := j) (by omega)
    rw [hse] at this ⊢
    exact (sorted_perm l).mem_iff.1 this)
  have xt : Xt H Hk := ⟨lk, fz _ fun h => h.1⟩
  rw [← hse]
  clear hse
  have av0 : n = 0 → avgS s = 0 := fun h => by unfold avgS; rw [if_pos (by omega)]
  have av1 : 0 < n → ¬ 2 < n → avgS s = (gn s 0 + gn s (n - 1)) / 2 := fun h h' => by unfold avgS loI hiI; rw [if_neg (by omega), hsl, if_neg h', if_neg h']
  have av2 : 2 < n → avgS s = (gn s 1 + gn s (n - 2)) / 2 := fun h => by unfold avgS loI hiI; rw [if_neg (by omega), hsl, if_pos h, if_pos h]
  have fs : Hid _ := fun (A : Prop) (h : _ → _ → _ → _ → _ → _ → _ → A) => h hsl hg hsb xt av0 av1 av2
  clear hsl hg hsb xt av0 av1 av2
  by_cases h0 : n = 0
  · subst h0
    rw [fs _ fun _ _ _ _ h _ _ => h rfl]
    repeat (with_reducible first|(first|refine pI1 ?_|refine pS1 ?_);intros|refine pA1 ?_|refine pX1 ?_|refine pB1 ?_|exact True.intro)
    exact ⟨rfl, fs _ fun _ _ _ h _ _ _ => h⟩
  have h0' : ¬ (n : Int) = 0 := by omega
  obtain ⟨⟨lb, z⟩, rfl⟩ := fs _ fun _ hg _ _ _ _ _ => hg.sl.is_some (by omega)
  have g0 := fs _ fun hsl hg _ _ _ _ _ => hg.sl.gn hsl (show 0 < n by omega)
  have gl := fs _ fun hsl hg _ _ _ _ _ => hg.sl.gn hsl (show n - 1 < n by omega)
  dsimp only at g0 gl
  rw [Nat.add_zero] at g0
  have b0 := fs _ fun _ _ h _ _ _ _ => h 0 (by omega)
  have bl := fs _ fun _ _ h _ _ _ _ => h (n - 1) (by omega)
  have n1 : (n : Int) - 1 = ((n - 1 : Nat) : Int) := by omega
  have hdd : decide (0 < n) = true := decide_eq_true (by omega)
  rw [hdd]
  by_cases h2 : 2 < n
  · have g1 := fs _ fun hsl hg _ _ _ _ _ => hg.sl.gn hsl (show 1 < n by omega)
    have g2 := fs _ fun hsl hg _ _ _ _ _ => hg.sl.gn hsl (show n - 2 < n by omega)
    dsimp only at g1 g2
    have b1 := fs _ fun _ _ h _ _ _ _ => h 1 (by omega)
    have b2 := fs _ fun _ _ h _ _ _ _ => h (n - 2) (by omega)
    have n2 : (n : Int) - 2 = ((n - 2 : Nat) : Int) := by omega
    have h2' : (n : Int) > 2 := by omega
    rw [fs _ fun _ _ _ _ _ _ h => h h2]
    generalize gn s 0 = q0 at *
    generalize gn s (n - 1) = q1 at *
    generalize gn s 1 = q2 at *
    generalize gn s (n - 2) = q3 at *
    have hh := s_rHalf (H := Hk) (s := q2 + q3) (by omega)
    repeat (with_reducible first|(first|refine pI1 ?_|refine pS1 ?_);intros|refine pA1 ?_|refine pX1 ?_|refine pB1 ?_|exact True.intro)
    refine outM_call hh ?_
    rintro _ Hk ⟨rfl, rfl⟩
    repeat (with_reducible first|(first|refine pI1 ?_|refine pS1 ?_);intros|refine pA1 ?_|refine pX1 ?_|refine pB1 ?_|exact True.intro)
    exact ⟨rfl, fs _ fun _ _ _ h _ _ _ => h⟩
  · have h2' : ¬ (n : Int) > 2 := by omega
    rw [fs _ fun _ _ _ _ _ h _ => h (by omega) h2]
    generalize gn s 0 = q0 at *
    generalize gn s (n - 1) = q1 at *
    have hh := s_rHalf (H := Hk) (s := q0 + q1) (by omega)
    repeat (with_reducible first|(first|refine pI1 ?_|refine pS1 ?_);intros|refine pA1 ?_|refine pX1 ?_|refine pB1 ?_|exact True.intro)
    refine outM_call hh ?_
    rintro _ Hk ⟨rfl, rfl⟩
    repeat (with_reducible first|(first|refine pI1 ?_|refine pS1 ?_);intros|refine pA1 ?_|refine pX1 ?_|refine pB1 ?_|exact True.intro)
    exact ⟨rfl, fs _ fun _ _ _ h _ _ _ => h⟩
end Go.Proofs.Yteiiddefimpplaa.AM.D08

namespace Go.Proofs.Yteiiddefimpplaa.AM.D08
open Go Go.Proofs.Yteiiddefimpplaa.AM Go.Proofs.Yteiiddefimpplaa.AM.C02 Go.Proofs.Yteiiddefimpplaa.AM.C08
set_option maxHeartbeats 2000000
set_option maxRecDepth 100000
attribute [local go_sem] tn_add1 tn_sub1 put_all' nums_len
structure RclC (k : Clk) (rb hb : Nat) (C : List Cell) : Prop where
  len : C.length = 15
  c0 : C[0]? = some (.int .i64 (k.nodes : Nat))
  c2 : C[2]? = some (.int .i64 k.drift)
  c3 : C[3]? = some (.int .i64 k.reading)
  c4 : C[4]? = some (.int .i64 k.margin)
  c5 : C[5]? = some (.int .i64 k.bound)
  c12 : C[12]? = some (.int .i64 k.offset)
  c13 : C[13]? = some (.sl (some (rb, 0)) k.nodes k.nodes false)
  c14 : C[14]? = some (.sl (some (hb, 0)) k.nodes k.nodes false)
def RclM (H : Heap) (p rb hb : Nat) (k : Clk) : Prop :=
  (∃ C, H[p]? = some (.cells C false none) ∧ RclC k rb hb C) ∧ (∃ R g, H[rb]? = some (.cells R false g) ∧ R.length = k.nodes ∧ ∀ j, j < k.nodes → R[j]? = some (.int .i64 (k.readings j))) ∧
    (∃ Q g, H[hb]? = some (.cells Q false g) ∧ Q.length = k.nodes ∧ ∀ j, j < k.nodes → Q[j]? = some (.bool (k.heard j))) ∧ p ≠ rb ∧ p ≠ hb ∧ rb ≠ hb
theorem s_rRead {H : Heap} {p rb hb : Nat} {k : Clk} {o m : Int} (hk : RclM H p rb hb k) (ho : ClkOk k) : WC F fn_rotaref08_Clock_Read [.c (.ptr (some (p, 0))), .c (.int .i64 o), .c (.int .i64 m)] H fun v H' => v = .c (.int .i64 (k.read o m)) ∧ H' = H := by
  refine WC_start e_rotaref08_Clock_Read (by simp) ?_
  unfold c_rotaref08_Clock_Read
  obtain ⟨⟨C, g, h⟩, -⟩ := hk
  have h3 := h.c3
  have h12 := h.c12
  obtain ⟨r1, r2⟩ := ho.r
  obtain ⟨o1, o2⟩ := ho.o
  have hc1 := s_rCut (H := H) (v := o) (m := 1099511627776) (by omega)
  have hc2 := s_rCut (H := H) (v := m) (m := k.reading) (by omega)
  have b1 := cut_le (v := o) (lo := -1099511627776) (hi := 1099511627776) (by omega)
  have b2 := cut_le (v := m) (lo := -k.reading) (hi := k.reading) (by omega)
  have e : k.read o m = cutZ o (-1099511627776) 1099511627776 - k.offset + cutZ m (-k.reading) k.reading := rfl
  rw [e]
  unfold E at o1 o2
  clear h e ho
  generalize cutZ o (-1099511627776) 1099511627776 = x at *
  generalize cutZ m (-k.reading) k.reading = y at *
  generalize k.offset = w at *
  generalize k.reading = R at *
  repeat (with_reducible first|(first|refine pI1 ?_|refine pS1 ?_);intros|refine pA1 ?_|refine pX1 ?_|refine pB1 ?_|exact True.intro)
  refine outM_call hc1 ?_
  rintro _ H ⟨rfl, rfl⟩
  clear hc1
  repeat (with_reducible first|(first|refine pI1 ?_|refine pS1 ?_);intros|refine pA1 ?_|refine pX1 ?_|refine pB1 ?_|exact True.intro)
  refine outM_call hc2 ?_
  rintro _ H ⟨rfl, rfl⟩
  clear hc2
  repeat (with_reducible first|(first|refine pI1 ?_|refine pS1 ?_);intros|refine pA1 ?_|refine pX1 ?_|refine pB1 ?_|exact True.intro)
  exact ⟨rfl, rfl⟩
theorem s_rFits {H : Heap} {p rb hb : Nat} {k : Clk} {r : Int} (hk : RclM H p rb hb k) (ho : ClkOk k) : WC F fn_rotaref08_Clock_Fits [.c (.ptr (some (p, 0))), .c (.int .i64 r)] H fun v H' => v = .c (.bool (decide (-k.margin ≤ r ∧ r ≤ k.margin))) ∧ H' = H := by
  refine WC_start e_rotaref08_Clock_Fits (by simp) ?_
  unfold c_rotaref08_Clock_Fits
  obtain ⟨⟨C, g, h⟩, -⟩ := hk
  have h4 := h.c4
  obtain ⟨m1, m2⟩ := ho.m
  have hc := s_rCut (H := H) (v := r) (m := k.margin) (by omega)
  have e : decide (-k.margin ≤ r ∧ r ≤ k.margin) = decide (r = cutZ r (-k.margin) k.margin) := decide_eq_decide.2 (by unfold cutZ; omega)
  rw [e]
  clear h e ho
  generalize cutZ r (-k.margin) k.margin = x at *
  generalize k.margin = M at *
  repeat (with_reducible first|(first|refine pI1 ?_|refine pS1 ?_);intros|refine pA1 ?_|refine pX1 ?_|refine pB1 ?_|exact True.intro)
  refine outM_call hc ?_
  rintro _ H ⟨rfl, rfl⟩
  clear hc
  repeat (with_reducible first|(first|refine pI1 ?_|refine pS1 ?_);intros|refine pA1 ?_|refine pX1 ?_|refine pB1 ?_|exact True.intro)
  exact ⟨rfl, rfl⟩
theorem RclC.off {k : Clk} {rb hb : Nat} {C : List Cell} (h : RclC k rb hb C) (o : Int) : RclC { k with offset := o } rb hb (C.set 12 (.int .i64 o)) := by
  have hl := h.len
  exact ⟨by rw [List.length_set]; exact hl, by rw [List.getElem?_set_ne (by omega)]; exact h.c0, by rw [List.getElem?_set_ne (by omega)]; exact h.c2, by rw [List.getElem?_set_ne (by omega)]; exact h.c3, by rw [List.getElem?_set_ne (by omega)]; exact h.c4, by rw [List.getElem?_set_ne (by omega)]; exact h.c5, by rw [List.getElem?_set_self (by omega)], by rw [List.getElem?_set_ne (by omega)]; exact h.c13, by rw [List.getElem?_set_ne (by omega)]; exact h.c14⟩
theorem s_rDrift {H : Heap} {p rb hb : Nat} {k : Clk} {b : Int} (hk : RclM H p rb hb k) (ho : ClkOk k) : WC F fn_rotaref08_Clock_Drift [.c (.ptr (some (p, 0))), .c (.int .i64 b)] H fun _ H' => RclM H' p rb hb (k.drifts b) ∧ Only p H H' := by
  refine WC_start e_rotaref08_Clock_Drift (by simp) ?_
  unfold c_rotaref08_Clock_Drift
  obtain ⟨⟨C, g, h⟩, hR, hQ, n1, n2, n3⟩ := hk
  have h2 := h.c2
  have h12 := h.c12
  have hlen := h.len
  obtain ⟨d1, d2⟩ := ho.d
  obtain ⟨o1, o2⟩ := ho.o
  unfold E at o1 o2
  have b1 := cut_le (v := b) (lo := -k.drift) (hi := k.drift) (by omega)
  have hc1 := s_rCut (H := H) (v := b) (m := k.drift) (by omega)
  have hc2 := s_rCut (H := H) (v := k.offset + cutZ b (-k.drift) k.drift) (m := 1099511627776) (by omega)
  have e : k.drifts b = { k with offset := cutZ (k.offset + cutZ b (-k.drift) k.drift) (-1099511627776) 1099511627776 } := rfl
  have hnew := h.off (cutZ (k.offset + cutZ b (-k.drift) k.drift) (-1099511627776) 1099511627776)
  rw [← e] at hnew
  have hR' : ∃ R g, H[rb]? = some (.cells R false g) ∧ R.length = (k.drifts b).nodes ∧ ∀ j, j < (k.drifts b).nodes → R[j]? = some (.int .i64 ((k.drifts b).readings j)) := hR
  have hQ' : ∃ Q g, H[hb]? = some (.cells Q false g) ∧ Q.length = (k.drifts b).nodes ∧ ∀ j, j < (k.drifts b).nodes → Q[j]? = some (.bool ((k.drifts b).heard j)) := hQ
  have hlt := lt_of_get g
  have fin0 : Hid _ := fun (A : Prop) (h : _ → _ → _ → A) => h hnew hR' hQ'
  clear hnew h e ho hR hQ hR' hQ'
  generalize k.drifts b = k' at *
  generalize cutZ b (-k.drift) k.drift = x at *
  generalize cutZ (k.offset + x) (-1099511627776) 1099511627776 = z at *
  generalize k.offset = w at *
  generalize k.drift = D at *
  repeat (with_reducible first|(first|refine pI1 ?_|refine pS1 ?_);intros|refine pA1 ?_|refine pX1 ?_|refine pB1 ?_|exact True.intro)
  refine outM_call hc1 ?_
  rintro _ H ⟨rfl, rfl⟩
  clear hc1
  repeat (with_reducible first|(first|refine pI1 ?_|refine pS1 ?_);intros|refine pA1 ?_|refine pX1 ?_|refine pB1 ?_|exact True.intro)
  refine outM_call hc2 ?_
  rintro _ H ⟨rfl, rfl⟩
  clear hc2
  repeat (with_reducible first|(first|refine pI1 ?_|refine pS1 ?_);intros|refine pA1 ?_|refine pX1 ?_|refine pB1 ?_|exact True.intro)
  rename_i H2 l2 g2 x2
  have hq : RclM H2 p rb hb k' := fin0 _ fun hnew hR hQ => ⟨⟨_, g2, hnew⟩, by rw [x2 rb (by omega)]; exact hR, by rw [x2 hb (by omega)]; exact hQ, n1, n2, n3⟩
  have fq : Hid _ := fun (A : Prop) (h : _ → _ → A) => h hq x2
  clear hq x2 g2
  repeat (with_reducible first|(first|refine pI1 ?_|refine pS1 ?_);intros|refine pA1 ?_|refine pX1 ?_|refine pB1 ?_|exact True.intro)
  exact fq _ fun hq x2 => ⟨hq, by omega, x2⟩
end Go.Proofs.Yteiiddefimpplaa.AM.D08

namespace Go.Proofs.Yteiiddefimpplaa.AM.D08
open Go Go.Proofs.Yteiiddefimpplaa.AM Go.Proofs.Yteiiddefimpplaa.AM.C02 Go.Proofs.Yteiiddefimpplaa.AM.C08
set_option maxHeartbeats 2000000
set_option maxRecDepth 100000
attribute [local go_sem] tn_add1 tn_sub1 put_all' nums_len
def Only3 (p rb hb : Nat) (H H' : Heap) : Prop := H'.length = H.length ∧ ∀ b, b ≠ p → b ≠ rb → b ≠ hb → H'[b]? = H[b]?
theorem s_rHear {H : Heap} {p rb hb : Nat} {k : Clk} {n r : Int} (hk : RclM H p rb hb k) (ho : ClkOk k) : WC F fn_rotaref08_Clock_Hear [.c (.ptr (some (p, 0))), .c (.int .i64 n), .c (.int .i64 r)] H fun v H' => Only3 p rb hb H H' ∧ ((hearP k n r ∧ v = .c (.int .i64 0) ∧ RclM H' p rb hb (k.hear n.toNat r)) ∨ (¬ hearP k n r ∧ v = .c (.int .i64 2) ∧ H' = H)) := by
  refine WC_start e_rotaref08_Clock_Hear (by simp) ?_
  unfold c_rotaref08_Clock_Hear
  obtain ⟨⟨C, g, hC⟩, ⟨R, gr, hR, hRl, hRj⟩, ⟨Q, gq, hQ, hQl, hQj⟩, n1, n2, n3⟩ := hk
  have h0 := hC.c0
  have h13 := hC.c13
  have h14 := hC.c14
  have hcut := s_rCut (H := H) (v := r) (m := 2199023255552) (by omega)
  have hiff : hearP k n r ↔ (0 ≤ n ∧ n < k.nodes ∧ r = cutZ r (-2199023255552) 2199023255552) := by unfold hearP E cutZ; omega
  have hnew : ∀ i : Nat, i < k.nodes → (∀ j, j < k.nodes → (R.set i (.int .i64 r))[j]? = some (.int .i64 ((k.hear i r).readings j))) ∧ ∀ j, j < k.nodes → (Q.set i (.bool true))[j]? = some (.bool ((k.hear i r).heard j)) := fun i hi => by
    refine ⟨fun j hj => ?_, fun j hj => ?_⟩
    · show _ = some (Cell.int .i64 (if j = i then r else k.readings j))
      by_cases e : j = i
      · subst e; rw [if_pos rfl, List.getElem?_set_self (by omega)]
      · rw [if_neg e, List.getElem?_set_ne (by omega)]; exact hRj j hj
    · show _ = some (Cell.bool (if j = i then true else k.heard j))
      by_cases e : j = i
      · subst e; rw [if_pos rfl, List.getElem?_set_self (by omega)]
      · rw [if_neg e, List.getElem?_set_ne (by omega)]; exact hQj j hj
  have hp := lt_of_get g
  have hrb := lt_of_get hR
  have hhb := lt_of_get hQ
  have fin0 : Hid _ := fun (A : Prop) (h : _ → _ → _ → A) => h hiff hnew hC
  clear hiff hnew hC hRj hQj ho
  generalize cutZ r (-2199023255552) 2199023255552 = x at *
  by_cases hn0 : n < 0
  · have hno : ¬ hearP k n r := fun hh => by have := (fin0 _ fun h _ _ => h.1 hh); omega
    repeat (with_reducible first|(first|refine pI1 ?_|refine pS1 ?_);intros|refine pA1 ?_|refine pX1 ?_|refine pB1 ?_|exact True.intro)
    exact ⟨⟨rfl, fun _ _ _ _ => rfl⟩, .inr ⟨hno, rfl, rfl⟩⟩
  by_cases hnn : n ≥ (k.nodes : Nat)
  · have hno : ¬ hearP k n r := fun hh => by have := (fin0 _ fun h _ _ => h.1 hh); omega
    repeat (with_reducible first|(first|refine pI1 ?_|refine pS1 ?_);intros|refine pA1 ?_|refine pX1 ?_|refine pB1 ?_|exact True.intro)
    exact ⟨⟨rfl, fun _ _ _ _ => rfl⟩, .inr ⟨hno, rfl, rfl⟩⟩
  by_cases hrx : r = x
  case neg =>
    have hno : ¬ hearP k n r := fun hh => hrx (fin0 _ fun h _ _ => h.1 hh).2.2
    repeat (with_reducible first|(first|refine pI1 ?_|refine pS1 ?_);intros|refine pA1 ?_|refine pX1 ?_|refine pB1 ?_|exact True.intro)
    refine outM_call hcut ?_
    rintro _ H ⟨rfl, rfl⟩
    repeat (with_reducible first|(first|refine pI1 ?_|refine pS1 ?_);intros|refine pA1 ?_|refine pX1 ?_|refine pB1 ?_|exact True.intro)
    exact ⟨⟨rfl, fun _ _ _ _ => rfl⟩, .inr ⟨hno, rfl, rfl⟩⟩
  have hyes : hearP k n r := fin0 _ fun h _ _ => h.2 ⟨by omega, by omega, hrx⟩
  subst hrx
  repeat (with_reducible first|(first|refine pI1 ?_|refine pS1 ?_);intros|refine pA1 ?_|refine pX1 ?_|refine pB1 ?_|exact True.intro)
  refine outM_call hcut ?_
  rintro _ H ⟨rfl, rfl⟩
  repeat (with_reducible first|(first|refine pI1 ?_|refine pS1 ?_);intros|refine pA1 ?_|refine pX1 ?_|refine pB1 ?_|exact True.intro)
  rename_i H2 l2 g2 x2 H3 l3 g3 x3
  have hi : n.toNat < k.nodes := by omega
  exact ⟨⟨by omega, fun b a1 a2 a3 => by rw [x3 b a3, x2 b a2]⟩, .inl ⟨hyes, rfl, fin0 _ fun _ hnew hC => ⟨⟨C, by rw [x3 p n2, x2 p n1]; exact g, ⟨hC.len, hC.c0, hC.c2, hC.c3, hC.c4, hC.c5, hC.c12, hC.c13, hC.c14⟩⟩, ⟨_, gr, by rw [x3 rb n3]; exact g2, by rw [List.length_set]; exact hRl, (hnew _ hi).1⟩, ⟨_, gq, g3, by rw [List.length_set]; exact hQl, (hnew _ hi).2⟩, n1, n2, n3⟩⟩⟩
end Go.Proofs.Yteiiddefimpplaa.AM.D08

namespace Go.Proofs.Yteiiddefimpplaa.AM.D08
open Go Go.Proofs.Yteiiddefimpplaa.AM Go.Proofs.Yteiiddefimpplaa.AM.C02 Go.Proofs.Yteiiddefimpplaa.AM.C08
set_option maxHeartbeats 2000000
set_option maxRecDepth 100000
attribute [local go_sem] tn_add1 tn_sub1 put_all' nums_len
theorem grows_one (x : Cell) (n : Nat) : grows [x] n = List.replicate n x := by
  unfold grows
  induction n with
  | zero => rfl
  | succ n ih => rw [List.replicate_succ, List.flatten_cons, ih]; rfl
theorem mksl_b {n : Nat} {H : Heap} (h : n ≤ 16) : mkslO 1 1 [Cell.bool false] (.c (.int .i64 (n : Nat))) (.c (.int .i64 (n : Nat))) H = some (.v (.c (.sl (some (H.length, 0)) n n false)), H ++ [.cells (grows [Cell.bool false] n) false none]) := by
  rw [mkslO_int (sz := 1) (by omega) rfl, Int.toNat_natCast]
attribute [local go_sem] mksl_b
def Rst (p : Nat) (H H' : Heap) : Prop := H.length ≤ H'.length ∧ ∀ b, b < H.length → b ≠ p → H'[b]? = H[b]?
theorem RclC.hrd {k : Clk} {rb hb : Nat} {C : List Cell} (h : RclC k rb hb C) (hb' : Nat) : RclC k.clear rb hb' (C.set 14 (.sl (some (hb', 0)) k.nodes k.nodes false)) := by
  have hl := h.len
  exact ⟨by rw [List.length_set]; exact hl, by rw [List.getElem?_set_ne (by omega)]; exact h.c0, by rw [List.getElem?_set_ne (by omega)]; exact h.c2, by rw [List.getElem?_set_ne (by omega)]; exact h.c3, by rw [List.getElem?_set_ne (by omega)]; exact h.c4, by rw [List.getElem?_set_ne (by omega)]; exact h.c5, by rw [List.getElem?_set_ne (by omega)]; exact h.c12, by rw [List.getElem?_set_ne (by omega)]; exact h.c13, by rw [List.getElem?_set_self (by omega)]; rfl⟩
theorem RclM.anew {H H2 H3 H4 : Heap} {p rb hb b3 : Nat} {k : Clk} {o : Int} {C : List Cell} {g : Option Nat} (hk : RclM H p rb hb k) (hC : RclC k rb hb C) (h1 : H.length ≤ b3) (h2 : ∀ b, b < H.length → b ≠ p → H4[b]? = H[b]?)
    (h3 : H4[b3]? = some (.cells (grows [.bool false] k.nodes) false g)) (h4 : H4[p]? = some (.cells ((C.set 12 (.int .i64 o)).set 14 (.sl (some (b3, 0)) k.nodes k.nodes false)) false none)) : RclM H4 p rb b3 (k.set o) := by
  obtain ⟨⟨_, g0, -⟩, ⟨R, gr, hR, hRl, hRj⟩, -, n1, n2, n3⟩ := hk
  have hp := lt_of_get g0
  have hr := lt_of_get hR
  refine ⟨⟨_, h4, (hC.off o).hrd b3⟩, ⟨R, gr, by rw [h2 rb hr (fun e => n1 e.symm)]; exact hR, hRl, hRj⟩, ⟨_, g, h3, by rw [grows_one, List.length_replicate]; rfl, fun j hj => ?_⟩, n1, by omega, by omega⟩
  have hj : j < k.nodes := hj
  rw [grows_one, List.getElem?_replicate, if_pos hj]; rfl
theorem s_rSet {H : Heap} {p rb hb : Nat} {k : Clk} {o : Int} (hk : RclM H p rb hb k) (hn : k.nodes ≤ 16) : WC F fn_rotaref08_Clock_Set [.c (.ptr (some (p, 0))), .c (.int .i64 o)] H fun v H' => Rst p H H' ∧ (((-E ≤ o ∧ o ≤ E) ∧ v = .c (.int .i64 0) ∧ ∃ hb', H.length ≤ hb' ∧ RclM H' p rb hb' (k.set o)) ∨ (¬ (-E ≤ o ∧ o ≤ E) ∧ v = .c (.int .i64 2) ∧ H' = H)) := by
  refine WC_start e_rotaref08_Clock_Set (by simp) ?_
  unfold c_rotaref08_Clock_Set
  have hcut := s_rCut (H := H) (v := o) (m := 1099511627776) (by omega)
  have hiff : (-E ≤ o ∧ o ≤ E) ↔ o = cutZ o (-1099511627776) 1099511627776 := by unfold E cutZ; omega
  have hkk := hk
  obtain ⟨⟨C, g, hC⟩, -⟩ := hk
  have h0 : (C.set 12 (.int .i64 o))[0]? = some (.int .i64 (k.nodes : Nat)) := by rw [List.getElem?_set_ne (by omega)]; exact hC.c0
  have hlen := hC.len
  have hp := lt_of_get g
  have fin0 : Hid _ := fun (A : Prop) (h : _ → _ → _ → A) => h hkk hC hiff
  clear hkk hC hiff
  generalize hx : cutZ o (-1099511627776) 1099511627776 = x at *
  clear hx
  obtain ⟨nd, hnd⟩ : ∃ nd, k.nodes = nd := ⟨_, rfl⟩
  rw [hnd] at hn h0
  have fn : Hid _ := fun (A : Prop) (h : _ → A) => h hnd
  clear hnd
  by_cases hox : o = x
  case neg =>
    repeat (with_reducible first|(first|refine pI1 ?_|refine pS1 ?_);intros|refine pA1 ?_|refine pX1 ?_|refine pB1 ?_|exact True.intro)
    refine outM_call hcut ?_
    rintro _ H ⟨rfl, rfl⟩
    repeat (with_reducible first|(first|refine pI1 ?_|refine pS1 ?_);intros|refine pA1 ?_|refine pX1 ?_|refine pB1 ?_|exact True.intro)
    exact ⟨⟨Nat.le_refl _, fun _ _ _ => rfl⟩, .inr ⟨fun h => hox (fin0 _ fun _ _ i => i.1 h), rfl, rfl⟩⟩
  subst hox
  repeat (with_reducible first|(first|refine pI1 ?_|refine pS1 ?_);intros|refine pA1 ?_|refine pX1 ?_|refine pB1 ?_|exact True.intro)
  refine outM_call hcut ?_
  rintro _ H ⟨rfl, rfl⟩
  clear hcut
  repeat (with_reducible first|(first|refine pI1 ?_|refine pS1 ?_);intros|refine pA1 ?_|refine pX1 ?_|refine pB1 ?_|exact True.intro)
  rename_i H2 l2 g2 x2 b3 H3 l3 g3 x3 H4 l4 g4 x4
  have hr : ∀ b, b < H.length → b ≠ p → H4[b]? = H[b]? := fun b hb hp => by rw [x4 b hp, x3 b (by omega), x2 b hp]
  exact ⟨⟨by omega, hr⟩, .inl ⟨fin0 _ fun _ _ i => i.2 rfl, rfl, b3, by omega, fin0 _ fun hk hC _ => by
    have e := fn _ fun h => h
    subst e
    exact RclM.anew (H2 := H2) (H3 := H3) hk hC (by omega) hr (by rw [x4 b3 (by omega)]; exact g3) g4⟩⟩
end Go.Proofs.Yteiiddefimpplaa.AM.D08

namespace Go.Proofs.Yteiiddefimpplaa.AM.D08
open Go Go.Proofs.Yteiiddefimpplaa.AM Go.Proofs.Yteiiddefimpplaa.AM.C02 Go.Proofs.Yteiiddefimpplaa.AM.C08
set_option maxHeartbeats 2000000
set_option maxRecDepth 100000
attribute [local go_sem] tn_add1 tn_sub1 put_all' nums_len
theorem s_rAverage {H : Heap} {p rb hb ms : Nat} {k : Clk} {own : Int} (hk : RclM H p rb hb k) (ho : ClkOk k) (hms : ms < 65536) : WC F fn_rotaref08_Clock_Average [.c (.ptr (some (p, 0))), .c (.int .u16 (ms : Nat)), .c (.int .i64 own)] H fun v H' => v = .tup [.c (.int .i64 (avg k ms own)), .c (.bool (decide (0 < (ofL k ms own k.nodes).length)))] ∧ Xt H H' := by
  refine WC_start e_rotaref08_Clock_Average (by simp) ?_
  unfold c_rotaref08_Clock_Average
  obtain ⟨⟨C, g, hC⟩, ⟨R, gr, hR, hRl, hRj⟩, ⟨Q, gq, hQ, hQl, hQj⟩, n1, n2, n3⟩ := hk
  have h0 := hC.c0
  have h13 := hC.c13
  have h14 := hC.c14
  have hp := lt_of_get g
  have hrb := lt_of_get hR
  have hhb := lt_of_get hQ
  have n16 := ho.n16
  have hin := ofL_in ho ms own k.nodes
  have hln := ofL_len k ms own
  have hst := ofL_s k ms own
  have hz : ofL k ms own 0 = [] := rfl
  have havg : avg k ms own = avgS (sorted (ofL k ms own k.nodes)) := rfl
  have hrd : ∀ n, rd k ms own n = if P3.bt ms n = true ∧ ((n : Int) = own ∨ k.heard n = true) then some (if (n : Int) = own then 0 else k.readings n) else none := fun _ => rfl
  rw [havg]
  obtain ⟨nd, hnd⟩ : ∃ nd, nd = k.nodes := ⟨_, rfl⟩
  rw [← hnd] at h0 h13 h14 hRl hQl n16 hin hRj hQj ⊢
  have hgr0 : Gr H.length H 1 none 0 false (nums (ofL k ms own 0)) := by rw [hz]; exact Gr.none _ _ _
  have hl0 : (ofL k ms own 0).length = 0 := by rw [hz]; rfl
  generalize ofL k ms own = ol at *
  generalize rd k ms own = rdf at *
  have fin0 : Hid _ := fun (A : Prop) (h : _ → _ → _ → _ → _ → _ → A) => h hgr0 hin hln hst hrd hl0
  have finH : Hid _ := fun (A : Prop) (h : _ → _ → _ → _ → _ → A) => h g hR hQ hRj hQj
  clear hgr0 hin hln hst hrd hl0 hz havg hC g hR hQ hRj hQj hnd ho
  repeat (with_reducible first|(first|refine pI1 ?_|refine pS1 ?_);intros|refine pA1 ?_|refine pX1 ?_|refine pB1 ?_|exact True.intro)
  refine W_loop (fun mm st => ∃ ρ, ∃ n : Nat, ∃ m : Nat, ∃ a ob Hk, st = ⟨L 56 ρ, [], Hk⟩ ∧ mm = nd - n ∧ n ≤ nd ∧ m = (ol n).length ∧ ρ 0 = .c (.ptr (some (p, 0))) ∧ ρ 1 = .c (.int .u16 (ms : Nat)) ∧ ρ 2 = .c (.int .i64 own) ∧ ρ 8 = .c (.sl a m m ob) ∧ ρ 9 = .c (.int .i64 (n : Nat)) ∧ H.length ≤ Hk.length ∧ Hid ((∀ b, b < H.length → Hk[b]? = H[b]?) ∧ Gr H.length Hk 1 a m ob (nums (ol n)))) nd
    ⟨_, 0, 0, none, false, H, rfl, rfl, by omega, fin0 _ fun _ _ _ _ _ h => h.symm, zf, zf, zf, zf, zf, Nat.le_refl _, ⟨fun _ _ => rfl, fin0 _ fun h _ _ _ _ _ => h⟩⟩ ?_
  rintro mm st ⟨ρ, n, m, a, ob, Hk, rfl, rfl, hi, hml, e0, e1, e2, e8, e9, lk, hall⟩
  unfold b_rotaref08_Clock_Average_10
  have gk : Hk[p]? = some (.cells C false none) := by rw [hall.1 p hp]; exact finH _ fun g _ _ _ _ => g
  have gRk : Hk[rb]? = some (.cells R false gr) := by rw [hall.1 rb hrb]; exact finH _ fun _ g _ _ _ => g
  have gQk : Hk[hb]? = some (.cells Q false gq) := by rw [hall.1 hb hhb]; exact finH _ fun _ _ g _ _ => g
  have fz : Hid _ := fun (A : Prop) (h : _ → A) => h hall
  have fm : Hid _ := fun (A : Prop) (h : _ → A) => h hml
  have hmn : m ≤ n := by rw [hml]; exact fin0 _ fun _ _ h _ _ _ => h n
  clear hall hml
  by_cases hin : n < nd
  case neg =>
    obtain rfl : nd = n := by omega
    have hxt : ¬ (nd : Int) < (nd : Int) := by omega
    have hmid := s_rMiddle (H := Hk) (c0 := m) (o0 := ob) (l := ol nd) (fz _ fun h => h.2.sl) (fm _ fun h => h.symm) (by omega) (fin0 _ fun _ h _ _ _ _ x hx => h x hx)
    have fh : Hid _ := fun (A : Prop) (h : _ → A) => h hmid
    clear hmid
    generalize avgS (sorted (ol nd)) = av at *
    generalize decide (0 < (ol nd).length) = de at *
    repeat (with_reducible first|(first|refine pI1 ?_|refine pS1 ?_);intros|refine pA1 ?_|refine pX1 ?_|refine pB1 ?_|exact True.intro)
    refine outM_call (fh _ fun h => h) ?_
    rintro _ H2 ⟨rfl, l2, x2⟩
    have f2 : Hid _ := fun (A : Prop) (h : _ → A) => h x2
    clear x2
    repeat (with_reducible first|(first|refine pI1 ?_|refine pS1 ?_);intros|refine pA1 ?_|refine pX1 ?_|refine pB1 ?_|exact True.intro)
    exact ⟨rfl, by omega, fun b hb => by rw [f2 _ fun x => x b (by omega)]; exact fz _ fun h => h.1 b hb⟩
  have hxt : (n : Int) < (nd : Int) := by omega
  have his := s_rIs (H := Hk) (ms := ms) (i := n) hms (by omega)
  have hst : ∀ o, rdf n = o → ol (n + 1) = ol n ++ o.toList := fun o e => by rw [← e]; exact fin0 _ fun _ _ _ h _ _ => h n
  have hrn := fin0 _ fun _ _ _ _ h _ => h n
  obtain ⟨hv, hhv⟩ : ∃ v, v = k.heard n := ⟨_, rfl⟩
  obtain ⟨rv, hrv⟩ : ∃ v, v = k.readings n := ⟨_, rfl⟩
  rw [← hhv, ← hrv] at hrn
  have gQn : Q[n]? = some (.bool hv) := by rw [hhv]; exact finH _ fun _ _ _ _ h => h n hin
  have gRn : R[n]? = some (.int .i64 rv) := by rw [hrv]; exact finH _ fun _ _ _ h _ => h n hin
  obtain ⟨bt, hbt⟩ : ∃ bt, bt = P3.bt ms n := ⟨_, rfl⟩
  rw [← hbt] at his hrn
  have f1 : Hid _ := fun (A : Prop) (h : _ → _ → _ → A) => h his hst hrn
  clear his hst hrn hhv hrv hbt
  repeat (with_reducible first|(first|refine pI1 ?_|refine pS1 ?_);intros|refine pA1 ?_|refine pX1 ?_|refine pB1 ?_|exact True.intro)
  refine outM_call (f1 _ fun h _ _ => h) ?_
  rintro _ Hk ⟨rfl, rfl⟩
  have fadd : ∀ (w : Int) (a2 : Option Ad) (H9 : Heap), rdf n = some w → Gr H.length H9 1 a2 (m + 1) true (nums (ol n) ++ [.int .i64 w]) → (∀ c, c < H.length → H9[c]? = Hk[c]?) → m + 1 = (ol (n + 1)).length ∧ Hid ((∀ b, b < H.length → H9[b]? = H[b]?) ∧ Gr H.length H9 1 a2 (m + 1) true (nums (ol (n + 1)))) := fun w a2 H9 e hg hx => by
    have e2 : ol (n + 1) = ol n ++ [w] := f1 _ fun _ h _ => h _ e
    have e3 : nums (ol (n + 1)) = nums (ol n) ++ [.int .i64 w] := by rw [e2]; unfold nums; rw [List.map_append]; rfl
    refine ⟨by rw [e2, List.length_append, ← fm _ fun h => h]; rfl, fun b hb => by rw [hx b hb]; exact fz _ fun h => h.1 b hb, ?_⟩
    rw [e3]; exact hg
  have fnone : rdf n = none → m = (ol (n + 1)).length ∧ Hid ((∀ b, b < H.length → Hk[b]? = H[b]?) ∧ Gr H.length Hk 1 a m ob (nums (ol (n + 1)))) := fun e => by
    have e2 : ol (n + 1) = ol n := by have := f1 _ fun _ h _ => h _ e; rw [this]; simp
    rw [e2]
    exact ⟨fm _ fun h => h, fz _ fun h => h⟩
  have hrn := f1 _ fun _ _ h => h
  have fr : Hid _ := fun (A : Prop) (h : _ → _ → _ → A) => h hrn fadd fnone
  clear hrn fadd fnone
  have hgk : Gr H.length Hk 1 a m ob (nums (ol n)) := fz _ fun h => h.2
  have fg : Hid _ := fun (A : Prop) (h : _ → A) => h hgk
  clear hgk
  cases bt with
  | false =>
    have hno : rdf n = none := fr _ fun h _ _ => by rw [h, if_neg]; simp
    obtain ⟨q1, q2⟩ := fr _ fun _ _ h => h hno
    have fq : Hid _ := fun (A : Prop) (h : _ → _ → A) => h q1 q2
    clear q1 q2 hno
    repeat (with_reducible first|(first|refine pI1 ?_|refine pS1 ?_);intros|refine pA1 ?_|refine pX1 ?_|refine pB1 ?_|exact True.intro)
    exact loopQ_n (nd - (n + 1)) (by omega) ⟨_, n + 1, m, a, ob, Hk, rfl, rfl, by omega, fq _ fun h _ => h, zf, zf, zf, zf, zf, by omega, fq _ fun _ h => h⟩
  | true =>
    by_cases hno : (n : Int) = own
    · have hyes : rdf n = some 0 := fr _ fun h _ _ => by rw [h, if_pos ⟨rfl, .inl hno⟩, if_pos hno]
      have fy : Hid _ := fun (A : Prop) (h : _ → A) => h hyes
      clear hyes
      subst hno
      repeat (with_reducible first|(first|refine pI1 ?_|refine pS1 ?_);intros|refine pA1 ?_|refine pX1 ?_|refine pB1 ?_|exact True.intro)
      rename_i b8 H8 p8 g8 x8
      have k2' := fg _ fun k2 => k2.keepX (H' := H8) fun b hb => x8 b (by omega)
      refine outM_appG (ys := [.int .i64 0]) k2' (by omega) (Sl.blk g8 rfl) (by omega) (by omega) ?_
      intro a2 H9 hg9 l9 x9 y9 z9
      obtain ⟨q1, q2⟩ := fr _ fun _ h _ => fy _ fun hy => h 0 a2 H9 hy hg9 fun c hc => by rw [x9 c (by omega), x8 c (by omega)]
      have fq : Hid _ := fun (A : Prop) (h : _ → _ → A) => h q1 q2
      clear q1 q2 hg9 x9 y9 z9 k2' x8 g8 gk gRk gQk
      repeat (with_reducible first|(first|refine pI1 ?_|refine pS1 ?_);intros|refine pA1 ?_|refine pX1 ?_|refine pB1 ?_|exact True.intro)
      exact loopQ_n (nd - (n + 1)) (by omega) ⟨_, n + 1, m + 1, a2, true, H9, rfl, rfl, by omega, fq _ fun h _ => h, zf, zf, zf, zf, zf, by omega, fq _ fun _ h => h⟩
    · cases hv with
      | false =>
        have hno' : rdf n = none := fr _ fun h _ _ => by rw [h, if_neg]; simp [hno]
        obtain ⟨q1, q2⟩ := fr _ fun _ _ h => h hno'
        have fq : Hid _ := fun (A : Prop) (h : _ → _ → A) => h q1 q2
        clear q1 q2 hno'
        repeat (with_reducible first|(first|refine pI1 ?_|refine pS1 ?_);intros|refine pA1 ?_|refine pX1 ?_|refine pB1 ?_|exact True.intro)
        exact loopQ_n (nd - (n + 1)) (by omega) ⟨_, n + 1, m, a, ob, Hk, rfl, rfl, by omega, fq _ fun h _ => h, zf, zf, zf, zf, zf, by omega, fq _ fun _ h => h⟩
      | true =>
        have hyes : rdf n = some rv := fr _ fun h _ _ => by rw [h, if_pos ⟨rfl, .inr rfl⟩, if_neg hno]
        have fy : Hid _ := fun (A : Prop) (h : _ → A) => h hyes
        clear hyes
        repeat (with_reducible first|(first|refine pI1 ?_|refine pS1 ?_);intros|refine pA1 ?_|refine pX1 ?_|refine pB1 ?_|exact True.intro)
        rename_i b8 H8 p8 g8 x8
        have k2' := fg _ fun k2 => k2.keepX (H' := H8) fun b hb => x8 b (by omega)
        refine outM_appG (ys := [.int .i64 rv]) k2' (by omega) (Sl.blk g8 rfl) (by omega) (by omega) ?_
        intro a2 H9 hg9 l9 x9 y9 z9
        obtain ⟨q1, q2⟩ := fr _ fun _ h _ => fy _ fun hy => h rv a2 H9 hy hg9 fun c hc => by rw [x9 c (by omega), x8 c (by omega)]
        have fq : Hid _ := fun (A : Prop) (h : _ → _ → A) => h q1 q2
        clear q1 q2 hg9 x9 y9 z9 k2' x8 g8 gk gRk gQk
        repeat (with_reducible first|(first|refine pI1 ?_|refine pS1 ?_);intros|refine pA1 ?_|refine pX1 ?_|refine pB1 ?_|exact True.intro)
        exact loopQ_n (nd - (n + 1)) (by omega) ⟨_, n + 1, m + 1, a2, true, H9, rfl, rfl, by omega, fq _ fun h _ => h, zf, zf, zf, zf, zf, by omega, fq _ fun _ h => h⟩
end Go.Proofs.Yteiiddefimpplaa.AM.D08

namespace Go.Proofs.Yteiiddefimpplaa.AM.D08
open Go Go.Proofs.Yteiiddefimpplaa.AM Go.Proofs.Yteiiddefimpplaa.AM.C02 Go.Proofs.Yteiiddefimpplaa.AM.C08
set_option maxHeartbeats 2000000
set_option maxRecDepth 100000
attribute [local go_sem] tn_add1 tn_sub1 put_all' nums_len mksl_b
theorem s_rRound {H : Heap} {p rb hb ms : Nat} {k : Clk} {own : Int} (hk : RclM H p rb hb k) (ho : ClkOk k) (hms : ms < 65536) : WC F fn_rotaref08_Clock_Round [.c (.ptr (some (p, 0))), .c (.int .u16 (ms : Nat)), .c (.int .i64 own)] H fun v H' => v = .c (.int .i64 (k.round ms own)) ∧ Rst p H H' ∧ ∃ hb', H.length ≤ hb' ∧ RclM H' p rb hb' (k.move (k.round ms own)).clear := by
  refine WC_start e_rotaref08_Clock_Round (by simp) ?_
  unfold c_rotaref08_Clock_Round
  have hav := s_rAverage (own := own) hk ho hms
  obtain ⟨hb1, hb2⟩ := ho.b
  obtain ⟨ho1, ho2⟩ := ho.o
  unfold E at ho1 ho2
  have hcl := cut_le (v := avg k ms own) (lo := -k.bound) (hi := k.bound) (by omega)
  have hcut := fun Hx => s_rCut (H := Hx) (v := avg k ms own) (m := k.bound) (by omega)
  have hcut2 := fun Hx => s_rCut (H := Hx) (v := k.offset + cutZ (avg k ms own) (-k.bound) k.bound) (m := 1099511627776) (by omega)
  have he : k.round ms own = cutZ (avg k ms own) (-k.bound) k.bound := rfl
  rw [← he] at hcut hcl hcut2
  have hkk := hk
  have hn := ho.n16
  obtain ⟨⟨C, g, hC⟩, -⟩ := hk
  have h5 := hC.c5
  have h12 := hC.c12
  have hlen := hC.len
  have hp := lt_of_get g
  obtain ⟨z, hz⟩ : ∃ z, z = cutZ (k.offset + k.round ms own) (-1099511627776) 1099511627776 := ⟨_, rfl⟩
  rw [← hz] at hcut2
  have h0 : (C.set 12 (.int .i64 z))[0]? = some (.int .i64 (k.nodes : Nat)) := by rw [List.getElem?_set_ne (by omega)]; exact hC.c0
  have hfin : ∀ H1 H4 b3, Xt H H1 → Rst p H1 H4 → H1.length ≤ b3 → H4[b3]? = some (.cells (grows [.bool false] k.nodes) false none) → H4[p]? = some (.cells ((C.set 12 (.int .i64 z)).set 14 (.sl (some (b3, 0)) k.nodes k.nodes false)) false none) → RclM H4 p rb b3 (k.move (k.round ms own)).clear := fun H1 H4 b3 t1 t2 hb g3 g4 => by
    have := RclM.anew (H2 := H) (H3 := H) (o := z) hkk hC (by have := t1.1; omega) (fun b hb hp => by rw [t2.2 b (by have := t1.1; omega) hp, t1.2 b hb]) g3 g4
    rw [hz] at this
    exact this
  have fm : Hid _ := fun (A : Prop) (h : _ → _ → _ → _ → A) => h hcut hcut2 hav hfin
  clear hcut hcut2 hav hfin hkk hC he hz ho
  generalize k.round ms own = r at *
  generalize avg k ms own = x at *
  generalize k.bound = d at *
  generalize k.offset = w at *
  generalize k.nodes = nd at *
  repeat (with_reducible first|(first|refine pI1 ?_|refine pS1 ?_);intros|refine pA1 ?_|refine pX1 ?_|refine pB1 ?_|exact True.intro)
  refine outM_call (fm _ fun _ _ h _ => h) ?_
  rintro _ H1 ⟨rfl, l1, x1⟩
  have g1 := (x1 p hp).trans g
  have f1 : Hid _ := fun (A : Prop) (h : _ → A) => h x1
  clear x1 g
  repeat (with_reducible first|(first|refine pI1 ?_|refine pS1 ?_);intros|refine pA1 ?_|refine pX1 ?_|refine pB1 ?_|exact True.intro)
  refine outM_call (fm _ fun h _ _ _ => h H1) ?_
  rintro _ H1 ⟨rfl, rfl⟩
  repeat (with_reducible first|(first|refine pI1 ?_|refine pS1 ?_);intros|refine pA1 ?_|refine pX1 ?_|refine pB1 ?_|exact True.intro)
  refine outM_call (fm _ fun _ h _ _ => h H1) ?_
  rintro _ H1 ⟨rfl, rfl⟩
  repeat (with_reducible first|(first|refine pI1 ?_|refine pS1 ?_);intros|refine pA1 ?_|refine pX1 ?_|refine pB1 ?_|exact True.intro)
  rename_i H2 l2 g2 x2 b3 H3 l3 g3 x3 H4 l4 g4 x4
  have hr : Rst p H1 H4 := ⟨by omega, fun b hb hp => by rw [x4 b hp, x3 b (by omega), x2 b hp]⟩
  exact ⟨rfl, ⟨by omega, fun b hb hp => by rw [hr.2 b (by omega) hp]; exact f1 _ fun x => x b hb⟩, b3, by omega, fm _ fun _ _ _ hfin => f1 _ fun x1 => hfin H1 H4 b3 ⟨l1, x1⟩ hr (by omega) (by rw [x4 b3 (by omega)]; exact g3) g4⟩
theorem mksl_i {n : Nat} {H : Heap} (h : n ≤ 16) : mkslO 1 8 [Cell.int .i64 0] (.c (.int .i64 (n : Nat))) (.c (.int .i64 (n : Nat))) H = some (.v (.c (.sl (some (H.length, 0)) n n false)), H ++ [.cells (grows [Cell.int .i64 0] n) false none]) := by
  rw [mkslO_int (sz := 1) (by omega) rfl, Int.toNat_natCast]
attribute [local go_sem] mksl_i
def rclL (c : Cfg) (h : Hd) (n rb hb : Nat) : List Cell := c.cells h ++ [.int .i64 0, .sl (some (rb, 0)) n n false, .sl (some (hb, 0)) n n false]
theorem s_rNew {N : Nat} {H : Heap} {c : Cfg} {h : Hd} (hc : CfgM N H c h) (hN : N ≤ H.length) (hf : Few c) : WC F fn_rotaref08_New [.agg (c.cells h)] H fun v H' => Xt H H' ∧
    ((c.check ≠ 0 ∧ ∃ w, w.length = 15 ∧ v = .tup [.agg w, .c (.int .i64 c.check)]) ∨ (c.check = 0 ∧ ∃ rb hb, v = .tup [.agg (rclL c h c.nodes.toNat rb hb), .c (.int .i64 0)] ∧ H.length ≤ rb ∧ rb < hb ∧ H'[rb]? = some (.cells (grows [.int .i64 0] c.nodes.toNat) false none) ∧ H'[hb]? = some (.cells (grows [.bool false] c.nodes.toNat) false none))) := by
  refine WC_start e_rotaref08_New (by simp) ?_
  unfold c_rotaref08_New
  have hck := fun (Hx : Heap) (hx : Xt H Hx) => s_rCheck (H := Hx) (hc.keep fun b hb => hx.2 b (by omega)) (by have := hx.1; omega) hf
  have hn0 : c.check = 0 → c.nodes = ((c.nodes.toNat : Nat) : Int) ∧ c.nodes.toNat ≤ 16 := fun h0 => by obtain ⟨q1, q2⟩ := (Cfg.check_ok.1 h0).nodes; omega
  unfold rclL
  obtain ⟨C, hC⟩ : ∃ C, C = c.cells h := ⟨_, rfl⟩
  have hsub : sub C 0 12 = some C := by rw [hC]; rfl
  have hlen : C.length = 12 := by rw [hC]; rfl
  have hfld : C[0]? = some (.int .i64 c.nodes) := by rw [hC]; rfl
  have hput : put (Cell.int .i64 0 :: Cell.sl none 0 0 false :: (List.replicate 6 (Cell.int .i64 0) ++ List.replicate 4 (Cell.sl none 0 0 false) ++ [Cell.int .i64 0] ++ List.replicate 2 (Cell.sl none 0 0 false))) 0 C = C ++ [.int .i64 0, .sl none 0 0 false, .sl none 0 0 false] := by rw [hC]; rfl
  have hset : ∀ x y, ((C ++ [Cell.int .i64 0, .sl none 0 0 false, .sl none 0 0 false]).set 13 x).set 14 y = C ++ [.int .i64 0, x, y] := fun x y => by rw [hC]; rfl
  have hput2 : ∀ x y, put (Cell.int .i64 0 :: Cell.sl none 0 0 false :: (List.replicate 6 (Cell.int .i64 0) ++ List.replicate 4 (Cell.sl none 0 0 false) ++ [Cell.int .i64 0] ++ List.replicate 2 (Cell.sl none 0 0 false))) 0 (C ++ [Cell.int .i64 0, x, y]) = C ++ [.int .i64 0, x, y] := fun x y => by rw [hC]; rfl
  have hsub15 : ∀ x y, sub (C ++ [Cell.int .i64 0, x, y]) 0 15 = some (C ++ [.int .i64 0, x, y]) := fun x y => by rw [hC]; rfl
  rw [← hC] at hck ⊢
  obtain ⟨k, hk⟩ : ∃ k, k = c.check := ⟨_, rfl⟩
  rw [← hk] at hck hn0 ⊢
  have fin0 : Hid _ := fun (A : Prop) (h : _ → _ → A) => h hck hn0
  clear hck hC hc hf hk hn0
  repeat (with_reducible first|(first|refine pI1 ?_|refine pS1 ?_);intros|refine pA1 ?_|refine pX1 ?_|refine pB1 ?_|exact True.intro)
  rename_i b1 H1 p1 g1 x1 b2 H2 p2 g2 x2
  have t2 : Xt H H2 := ⟨by omega, fun b hb => by rw [x2 b (by omega), x1 b (by omega)]⟩
  have g12 := (x2 b1 (by omega)).trans g1
  have f2 : Hid _ := fun (A : Prop) (h : _ → A) => h t2
  clear x1 x2 g1 t2
  refine outM_call (fin0 _ fun h _ => f2 _ fun t => h H2 t) ?_
  rintro _ H3 ⟨rfl, l3, x3⟩
  have g13 := (x3 b1 (by omega)).trans g12
  have g23 := (x3 b2 (by omega)).trans g2
  have t3 : Xt H H3 := f2 _ fun t => ⟨by omega, fun b hb => by rw [x3 b (by omega)]; exact t.2 b hb⟩
  have f3 : Hid _ := fun (A : Prop) (h : _ → A) => h t3
  clear x3 t3 g12 g2
  by_cases h0 : k = 0
  case neg =>
    clear hput hset hput2 hsub15
    repeat (with_reducible first|(first|refine pI1 ?_|refine pS1 ?_);intros|refine pA1 ?_|refine pX1 ?_|refine pB1 ?_|exact True.intro)
    rename_i H4 l4 g4 x4
    repeat (with_reducible first|(first|refine pI1 ?_|refine pS1 ?_);intros|refine pA1 ?_|refine pX1 ?_|refine pB1 ?_|exact True.intro)
    exact ⟨⟨by omega, fun b hb => by rw [x4 b (by omega)]; exact f3 _ fun t => t.2 b hb⟩, .inl ⟨h0, _, rfl, rfl⟩⟩
  subst h0
  obtain ⟨nd, hnd⟩ : ∃ nd, nd = c.nodes.toNat := ⟨_, rfl⟩
  obtain ⟨e1, e2⟩ := fin0 _ fun _ h => h rfl
  rw [← hnd] at e1 e2 ⊢
  rw [e1] at hfld
  clear hnd e1
  repeat (with_reducible first|(first|refine pI1 ?_|refine pS1 ?_);intros|refine pA1 ?_|refine pX1 ?_|refine pB1 ?_|exact True.intro)
  rename_i b3 H4 p4 g4 x4 b5 H5 p5 g5 x5 H6 l6 g6 x6
  repeat (with_reducible first|(first|refine pI1 ?_|refine pS1 ?_);intros|refine pA1 ?_|refine pX1 ?_|refine pB1 ?_|exact True.intro)
  exact ⟨⟨by omega, fun b hb => by rw [x6 b (by omega), x5 b (by omega), x4 b (by omega)]; exact f3 _ fun t => t.2 b hb⟩, .inr ⟨rfl, b3, b5, rfl, by omega, by omega, by rw [x6 b3 (by omega), x5 b3 (by omega)]; exact g4, by rw [x6 b5 (by omega)]; exact g5⟩⟩
end Go.Proofs.Yteiiddefimpplaa.AM.D08

namespace Go.Proofs.Yteiiddefimpplaa.AM.D08
open Go Go.Proofs.Yteiiddefimpplaa.AM Go.Proofs.Yteiiddefimpplaa.AM.C02 Go.Proofs.Yteiiddefimpplaa.AM.C08
set_option maxHeartbeats 2000000
set_option maxRecDepth 100000
attribute [local go_sem] tn_add1 tn_sub1 put_all' nums_len
theorem RclM.keep {H H' : Heap} {p rb hb : Nat} {k : Clk} (h : RclM H p rb hb k) (h1 : H'[p]? = H[p]?) (h2 : H'[rb]? = H[rb]?) (h3 : H'[hb]? = H[hb]?) : RclM H' p rb hb k := by
  obtain ⟨⟨C, g, hC⟩, ⟨R, gr, hR, hRl⟩, ⟨Q, gq, hQ, hQl⟩, n⟩ := h
  exact ⟨⟨C, h1.trans g, hC⟩, ⟨R, gr, h2.trans hR, hRl⟩, ⟨Q, gq, h3.trans hQ, hQl⟩, n⟩
theorem RclM.lt {H : Heap} {p rb hb : Nat} {k : Clk} (h : RclM H p rb hb k) : p < H.length ∧ rb < H.length ∧ hb < H.length := by
  obtain ⟨⟨C, g, hC⟩, ⟨R, gr, hR, hRl⟩, ⟨Q, gq, hQ, hQl⟩, n⟩ := h
  exact ⟨lt_of_get g, lt_of_get hR, lt_of_get hQ⟩
def Both (H : Heap) (q p rb hb : Nat) (k : Clk) : Prop := ClkOk k ∧ ClkM H q k ∧ RclM H p rb hb k ∧ q ≠ p ∧ q ≠ rb ∧ q ≠ hb
def Bst (q p rb hb : Nat) (H H' : Heap) : Prop := H.length ≤ H'.length ∧ ∀ b, b < H.length → b ≠ q → b ≠ p → b ≠ rb → b ≠ hb → H'[b]? = H[b]?
def Goes (q p rb hb : Nat) (H H' : Heap) : Prop := ∃ k' hb', Both H' q p rb hb' k' ∧ Bst q p rb hb H H' ∧ (hb' = hb ∨ H.length ≤ hb')
theorem Both.goes {H : Heap} {q p rb hb : Nat} {k : Clk} (h : Both H q p rb hb k) : Goes q p rb hb H H := ⟨k, hb, h, ⟨Nat.le_refl _, fun _ _ _ _ _ _ => rfl⟩, .inl rfl⟩
theorem Both.xt {H H' : Heap} {q p rb hb : Nat} {k : Clk} (h : Both H q p rb hb k) (x : Xt H H') : Both H' q p rb hb k := by
  obtain ⟨h1, h2, h3, h4⟩ := h
  obtain ⟨l1, l2, l3⟩ := h3.lt
  exact ⟨h1, h2.keep (x.2 _ h2.lt), h3.keep (x.2 _ l1) (x.2 _ l2) (x.2 _ l3), h4⟩
theorem Goes.xt {H H1 H' : Heap} {q p rb hb : Nat} (x : Xt H H1) (h : Goes q p rb hb H1 H') : Goes q p rb hb H H' := by
  obtain ⟨k', hb', h1, ⟨h2, h3⟩, h4⟩ := h
  have := x.1
  exact ⟨k', hb', h1, ⟨by omega, fun b hb a1 a2 a3 a4 => by rw [h3 b (by omega) a1 a2 a3 a4, x.2 b hb]⟩, by omega⟩
theorem Both.two {H H1 H2 : Heap} {q p rb hb hb' : Nat} {k k' : Clk} (h : Both H q p rb hb k) (ho : ClkOk k') (h1 : ClkM H1 q k') (x1 : Xt H H1 ∨ (H.length ≤ H1.length ∧ ∀ b, b < H.length → b ≠ q → H1[b]? = H[b]?)) (h2 : RclM H2 p rb hb' k')
    (l2 : H1.length ≤ H2.length) (x2 : ∀ b, b < H1.length → b ≠ p → b ≠ rb → b ≠ hb → H2[b]? = H1[b]?) (hh : hb' = hb ∨ H1.length ≤ hb') : Goes q p rb hb H H2 := by
  obtain ⟨-, e1, e2, n1, n2, n3⟩ := h
  have hq := e1.lt
  have x1' : H.length ≤ H1.length ∧ ∀ b, b < H.length → b ≠ q → H1[b]? = H[b]? := x1.elim (fun x => ⟨x.1, fun b hb _ => x.2 b hb⟩) id
  have := x1'.1
  refine ⟨k', hb', ⟨ho, h1.keep (x2 q (by omega) n1 n2 n3), h2, n1, n2, by omega⟩, ⟨by omega, fun b hb a1 a2 a3 a4 => by rw [x2 b (by omega) a2 a3 a4, x1'.2 b hb a1]⟩, by omega⟩
theorem Both.mid {H H1 : Heap} {q p rb hb : Nat} {k : Clk} (h : Both H q p rb hb k) (x1 : ∀ b, b < H.length → b ≠ q → H1[b]? = H[b]?) : RclM H1 p rb hb k := by
  obtain ⟨-, e1, e2, n1, n2, n3⟩ := h
  obtain ⟨l1, l2, l3⟩ := e2.lt
  exact e2.keep (x1 _ l1 fun e => n1 e.symm) (x1 _ l2 fun e => n2 e.symm) (x1 _ l3 fun e => n3 e.symm)
theorem s_step {H : Heap} {q p rb hb ms : Nat} {k : Clk} {kd a b : Int} (hbo : Both H q p rb hb k) (hms : ms < 65536) : WC F fn_rotalaw08_step [.c (.ptr (some (q, 0))), .c (.ptr (some (p, 0))), .agg [.int .i64 kd, .int .i64 a, .int .i64 b, .int .u16 (ms : Nat)]] H fun v H' => v = .c (.bool true) ∧ Goes q p rb hb H H' := by
  refine WC_start e_rotalaw08_step (by simp) ?_
  unfold c_rotalaw08_step
  have fin0 : Hid _ := fun (A : Prop) (h : _ → A) => h hbo
  clear hbo
  repeat (with_reducible first|(first|refine pI1 ?_|refine pS1 ?_);intros|refine pA1 ?_|refine pX1 ?_|refine pB1 ?_|exact True.intro)
  rename_i b1 H1 p1 g1 x1
  have t1 : Xt H H1 := ⟨by omega, fun b hb => x1 b (by omega)⟩
  have hB : Both H1 q p rb hb k := fin0 _ fun h => h.xt t1
  have fG : ∀ {H2}, Goes q p rb hb H1 H2 → Goes q p rb hb H H2 := fun h => h.xt t1
  have hq : q ≠ b1 := fin0 _ fun h => by have := h.2.1.lt; omega
  have ho := hB.1
  have hk := hB.2.1
  have g1' : ∀ {H2 : Heap}, (∀ b, b < H1.length → b ≠ q → H2[b]? = H1[b]?) → H2[b1]? = some (.cells [.int .i64 kd, .int .i64 a, .int .i64 b, .int .u16 (ms : Nat)] false none) := fun x => by rw [x b1 (by omega) fun e => hq e.symm]; exact g1
  have fB : Hid _ := fun (A : Prop) (h : _ → _ → _ → _ → _ → A) => h hB (@fG) ho hk (@g1')
  clear hB fG ho hk x1 t1 g1'
  by_cases k0 : kd = 0
  · subst k0
    have s1 := fB _ fun _ _ ho hk _ => s_Set (o := a) hk ho
    have f1 : Hid _ := fun (A : Prop) (h : _ → A) => h s1
    clear s1
    repeat (with_reducible first|(first|refine pI1 ?_|refine pS1 ?_);intros|refine pA1 ?_|refine pX1 ?_|refine pB1 ?_|exact True.intro)
    refine outM_call (f1 _ fun h => h) ?_
    rintro v H2 ⟨⟨l2, x2⟩, hv⟩
    have g2 : H2[b1]? = some (.cells [.int .i64 0, .int .i64 a, .int .i64 b, .int .u16 (ms : Nat)] false none) := fB _ fun _ _ _ _ h => h fun b _ hb => x2 b hb
    have s2 := s_rSet (o := a) (fB _ fun h _ _ _ _ => h.mid fun b _ hb => x2 b hb) (fB _ fun _ _ h _ _ => h.n16)
    have f2 : Hid _ := fun (A : Prop) (h : _ → _ → A) => h x2 s2
    clear x2 s2 g1
    rcases hv with ⟨hE, rfl, hk2⟩ | ⟨hE, rfl, rfl⟩
    · have fk : Hid _ := fun (A : Prop) (h : _ → _ → A) => h hE hk2
      clear hE hk2
      repeat (with_reducible first|(first|refine pI1 ?_|refine pS1 ?_);intros|refine pA1 ?_|refine pX1 ?_|refine pB1 ?_|exact True.intro)
      refine outM_call (f2 _ fun _ h => h) ?_
      rintro _ H3 ⟨⟨l3, x3⟩, ⟨-, rfl, hb', hb1, hr⟩ | ⟨hn, -, -⟩⟩
      case inr => exact absurd (fk _ fun h _ => h) hn
      have f3 : Hid _ := fun (A : Prop) (h : _ → _ → A) => h x3 hr
      clear x3 hr
      repeat (with_reducible first|(first|refine pI1 ?_|refine pS1 ?_);intros|refine pA1 ?_|refine pX1 ?_|refine pB1 ?_|exact True.intro)
      exact ⟨rfl, fB _ fun hB fG ho _ _ => fG (fk _ fun hE hk2 => f3 _ fun x3 hr => f2 _ fun x2 _ => hB.two (ho.cut a hE).clear hk2 (.inr ⟨by omega, fun b _ hb => x2 b hb⟩) hr (by omega) (fun b hb h1 _ _ => x3 b hb h1) (.inr hb1))⟩
    · have fk : Hid _ := fun (A : Prop) (h : _ → A) => h hE
      clear hE
      repeat (with_reducible first|(first|refine pI1 ?_|refine pS1 ?_);intros|refine pA1 ?_|refine pX1 ?_|refine pB1 ?_|exact True.intro)
      refine outM_call (f2 _ fun _ h => h) ?_
      rintro _ H3 ⟨⟨l3, x3⟩, ⟨hn, -, -⟩ | ⟨-, rfl, rfl⟩⟩
      case inl => exact absurd hn (fk _ fun h => h)
      repeat (with_reducible first|(first|refine pI1 ?_|refine pS1 ?_);intros|refine pA1 ?_|refine pX1 ?_|refine pB1 ?_|exact True.intro)
      exact ⟨rfl, fB _ fun hB fG _ _ _ => fG hB.goes⟩
  by_cases k1 : kd = 1
  · subst k1
    have s1 := fB _ fun _ _ ho hk _ => s_Drift (b := a) hk ho
    have f1 : Hid _ := fun (A : Prop) (h : _ → A) => h s1
    clear s1
    repeat (with_reducible first|(first|refine pI1 ?_|refine pS1 ?_);intros|refine pA1 ?_|refine pX1 ?_|refine pB1 ?_|exact True.intro)
    refine outM_call (f1 _ fun h => h) ?_
    rintro v H2 ⟨rfl, hk2, l2, x2⟩
    have g2 : H2[b1]? = some (.cells [.int .i64 1, .int .i64 a, .int .i64 b, .int .u16 (ms : Nat)] false none) := fB _ fun _ _ _ _ h => h fun b _ hb => x2 b hb
    have s2 := s_rDrift (b := a) (fB _ fun h _ _ _ _ => h.mid fun b _ hb => x2 b hb) (fB _ fun _ _ h _ _ => h)
    have f2 : Hid _ := fun (A : Prop) (h : _ → _ → _ → A) => h x2 s2 hk2
    clear x2 s2 g1 hk2
    repeat (with_reducible first|(first|refine pI1 ?_|refine pS1 ?_);intros|refine pA1 ?_|refine pX1 ?_|refine pB1 ?_|exact True.intro)
    refine outM_call (f2 _ fun _ h _ => h) ?_
    rintro _ H3 ⟨hr, l3, x3⟩
    have f3 : Hid _ := fun (A : Prop) (h : _ → _ → A) => h x3 hr
    clear x3 hr
    repeat (with_reducible first|(first|refine pI1 ?_|refine pS1 ?_);intros|refine pA1 ?_|refine pX1 ?_|refine pB1 ?_|exact True.intro)
    exact ⟨rfl, fB _ fun hB fG ho _ _ => fG (f3 _ fun x3 hr => f2 _ fun x2 _ hk2 => hB.two (ho.move _) hk2 (.inr ⟨by omega, fun b _ hb => x2 b hb⟩) hr (by omega) (fun b hb h1 _ _ => x3 b h1) (.inl rfl))⟩
  by_cases k2 : kd = 2
  · subst k2
    have s1 := fB _ fun _ _ ho hk _ => s_Read (o := a) (m := b) hk ho
    have s2 := fB _ fun hB _ ho _ _ => s_rRead (o := a) (m := b) hB.2.2.1 ho
    have f1 : Hid _ := fun (A : Prop) (h : _ → _ → A) => h s1 s2
    clear s1 s2
    generalize k.read a b = rd at *
    repeat (with_reducible first|(first|refine pI1 ?_|refine pS1 ?_);intros|refine pA1 ?_|refine pX1 ?_|refine pB1 ?_|exact True.intro)
    refine outM_call (f1 _ fun h _ => h) ?_
    rintro _ H1 ⟨rfl, rfl⟩
    repeat (with_reducible first|(first|refine pI1 ?_|refine pS1 ?_);intros|refine pA1 ?_|refine pX1 ?_|refine pB1 ?_|exact True.intro)
    refine outM_call (f1 _ fun _ h => h) ?_
    rintro _ H1 ⟨rfl, rfl⟩
    repeat (with_reducible first|(first|refine pI1 ?_|refine pS1 ?_);intros|refine pA1 ?_|refine pX1 ?_|refine pB1 ?_|exact True.intro)
    exact ⟨rfl, fB _ fun hB fG _ _ _ => fG hB.goes⟩
  by_cases k3 : kd = 3
  · subst k3
    have s1 := fB _ fun _ _ ho hk _ => s_Fits (r := a) hk ho
    have s2 := fB _ fun hB _ ho _ _ => s_rFits (r := a) hB.2.2.1 ho
    have f1 : Hid _ := fun (A : Prop) (h : _ → _ → A) => h s1 s2
    clear s1 s2
    generalize decide (-k.margin ≤ a ∧ a ≤ k.margin) = rd at *
    repeat (with_reducible first|(first|refine pI1 ?_|refine pS1 ?_);intros|refine pA1 ?_|refine pX1 ?_|refine pB1 ?_|exact True.intro)
    refine outM_call (f1 _ fun h _ => h) ?_
    rintro _ H1 ⟨rfl, rfl⟩
    repeat (with_reducible first|(first|refine pI1 ?_|refine pS1 ?_);intros|refine pA1 ?_|refine pX1 ?_|refine pB1 ?_|exact True.intro)
    refine outM_call (f1 _ fun _ h => h) ?_
    rintro _ H1 ⟨rfl, rfl⟩
    cases rd with
    | false =>
      repeat (with_reducible first|(first|refine pI1 ?_|refine pS1 ?_);intros|refine pA1 ?_|refine pX1 ?_|refine pB1 ?_|exact True.intro)
      exact ⟨rfl, fB _ fun hB fG _ _ _ => fG hB.goes⟩
    | true =>
      repeat (with_reducible first|(first|refine pI1 ?_|refine pS1 ?_);intros|refine pA1 ?_|refine pX1 ?_|refine pB1 ?_|exact True.intro)
      exact ⟨rfl, fB _ fun hB fG _ _ _ => fG hB.goes⟩
  by_cases k4 : kd = 4
  · subst k4
    have s1 := fB _ fun _ _ ho hk _ => s_Hear (n := a) (r := b) hk ho
    have f1 : Hid _ := fun (A : Prop) (h : _ → A) => h s1
    clear s1
    repeat (with_reducible first|(first|refine pI1 ?_|refine pS1 ?_);intros|refine pA1 ?_|refine pX1 ?_|refine pB1 ?_|exact True.intro)
    refine outM_call (f1 _ fun h => h) ?_
    rintro v H2 ⟨⟨l2, x2⟩, hv⟩
    have g2 : H2[b1]? = some (.cells [.int .i64 4, .int .i64 a, .int .i64 b, .int .u16 (ms : Nat)] false none) := fB _ fun _ _ _ _ h => h fun b _ hb => x2 b hb
    have s2 := s_rHear (n := a) (r := b) (fB _ fun h _ _ _ _ => h.mid fun b _ hb => x2 b hb) (fB _ fun _ _ h _ _ => h)
    have f2 : Hid _ := fun (A : Prop) (h : _ → _ → A) => h x2 s2
    clear x2 s2 g1
    rcases hv with ⟨hE, rfl, hk2⟩ | ⟨hE, rfl, rfl⟩
    · have fk : Hid _ := fun (A : Prop) (h : _ → _ → A) => h hE hk2
      clear hE hk2
      repeat (with_reducible first|(first|refine pI1 ?_|refine pS1 ?_);intros|refine pA1 ?_|refine pX1 ?_|refine pB1 ?_|exact True.intro)
      refine outM_call (f2 _ fun _ h => h) ?_
      rintro _ H3 ⟨⟨l3, x3⟩, ⟨-, rfl, hr⟩ | ⟨hn, -, -⟩⟩
      case inr => exact absurd (fk _ fun h _ => h) hn
      have f3 : Hid _ := fun (A : Prop) (h : _ → _ → A) => h x3 hr
      clear x3 hr
      repeat (with_reducible first|(first|refine pI1 ?_|refine pS1 ?_);intros|refine pA1 ?_|refine pX1 ?_|refine pB1 ?_|exact True.intro)
      exact ⟨rfl, fB _ fun hB fG ho _ _ => fG (fk _ fun hE hk2 => f3 _ fun x3 hr => f2 _ fun x2 _ => hB.two (ho.hear hE.2.2) hk2 (.inr ⟨by omega, fun b _ hb => x2 b hb⟩) hr (by omega) (fun b hb h1 h2 h3 => x3 b h1 h2 h3) (.inl rfl))⟩
    · have fk : Hid _ := fun (A : Prop) (h : _ → A) => h hE
      clear hE
      repeat (with_reducible first|(first|refine pI1 ?_|refine pS1 ?_);intros|refine pA1 ?_|refine pX1 ?_|refine pB1 ?_|exact True.intro)
      refine outM_call (f2 _ fun _ h => h) ?_
      rintro _ H3 ⟨⟨l3, x3⟩, ⟨hn, -, -⟩ | ⟨-, rfl, rfl⟩⟩
      case inl => exact absurd hn (fk _ fun h => h)
      repeat (with_reducible first|(first|refine pI1 ?_|refine pS1 ?_);intros|refine pA1 ?_|refine pX1 ?_|refine pB1 ?_|exact True.intro)
      exact ⟨rfl, fB _ fun hB fG _ _ _ => fG hB.goes⟩
  by_cases k5 : kd = 5
  · subst k5
    have s1 := fB _ fun _ _ ho hk _ => s_Average (own := a) hk ho hms
    have f1 : Hid _ := fun (A : Prop) (h : _ → A) => h s1
    clear s1
    obtain ⟨av, hav⟩ : ∃ av, av = avg k ms a := ⟨_, rfl⟩
    obtain ⟨de, hde⟩ : ∃ de, de = decide (0 < (ofL k ms a k.nodes).length) := ⟨_, rfl⟩
    rw [← hav, ← hde] at f1
    repeat (with_reducible first|(first|refine pI1 ?_|refine pS1 ?_);intros|refine pA1 ?_|refine pX1 ?_|refine pB1 ?_|exact True.intro)
    refine outM_call (f1 _ fun h => h) ?_
    rintro v H2 ⟨rfl, l2, x2⟩
    have g2 : H2[b1]? = some (.cells [.int .i64 5, .int .i64 a, .int .i64 b, .int .u16 (ms : Nat)] false none) := fB _ fun _ _ _ _ h => h fun b h _ => x2 b h
    have s2 := s_rAverage (own := a) (ms := ms) (fB _ fun h _ _ _ _ => h.mid (H1 := H2) fun b h _ => x2 b h) (fB _ fun _ _ h _ _ => h) hms
    rw [← hav, ← hde] at s2
    have f2 : Hid _ := fun (A : Prop) (h : _ → _ → A) => h x2 s2
    clear x2 s2 g1 hav hde
    cases de with
    | false =>
      repeat (with_reducible first|(first|refine pI1 ?_|refine pS1 ?_);intros|refine pA1 ?_|refine pX1 ?_|refine pB1 ?_|exact True.intro)
      refine outM_call (f2 _ fun _ h => h) ?_
      rintro _ H3 ⟨rfl, l3, x3⟩
      have f3 : Hid _ := fun (A : Prop) (h : _ → A) => h x3
      clear x3
      repeat (with_reducible first|(first|refine pI1 ?_|refine pS1 ?_);intros|refine pA1 ?_|refine pX1 ?_|refine pB1 ?_|exact True.intro)
      exact ⟨rfl, fB _ fun hB fG _ _ _ => fG (f3 _ fun x3 => f2 _ fun x2 _ => Goes.xt ⟨l2, x2⟩ (Goes.xt ⟨l3, x3⟩ ((hB.xt ⟨l2, x2⟩).xt ⟨l3, x3⟩).goes))⟩
    | true =>
      repeat (with_reducible first|(first|refine pI1 ?_|refine pS1 ?_);intros|refine pA1 ?_|refine pX1 ?_|refine pB1 ?_|exact True.intro)
      refine outM_call (f2 _ fun _ h => h) ?_
      rintro _ H3 ⟨rfl, l3, x3⟩
      have f3 : Hid _ := fun (A : Prop) (h : _ → A) => h x3
      clear x3
      repeat (with_reducible first|(first|refine pI1 ?_|refine pS1 ?_);intros|refine pA1 ?_|refine pX1 ?_|refine pB1 ?_|exact True.intro)
      exact ⟨rfl, fB _ fun hB fG _ _ _ => fG (f3 _ fun x3 => f2 _ fun x2 _ => Goes.xt ⟨l2, x2⟩ (Goes.xt ⟨l3, x3⟩ ((hB.xt ⟨l2, x2⟩).xt ⟨l3, x3⟩).goes))⟩
  by_cases k6 : kd = 6
  · subst k6
    have s1 := fB _ fun _ _ ho hk _ => s_Round (own := a) hk ho hms
    have f1 : Hid _ := fun (A : Prop) (h : _ → A) => h s1
    clear s1
    obtain ⟨av, hav⟩ : ∃ av, av = k.round ms a := ⟨_, rfl⟩
    rw [← hav] at f1
    repeat (with_reducible first|(first|refine pI1 ?_|refine pS1 ?_);intros|refine pA1 ?_|refine pX1 ?_|refine pB1 ?_|exact True.intro)
    refine outM_call (f1 _ fun h => h) ?_
    rintro v H2 ⟨rfl, hk2, l2, x2⟩
    have g2 : H2[b1]? = some (.cells [.int .i64 6, .int .i64 a, .int .i64 b, .int .u16 (ms : Nat)] false none) := fB _ fun _ _ _ _ h => h fun b h hb => x2 b h hb
    have s2 := s_rRound (own := a) (ms := ms) (fB _ fun h _ _ _ _ => h.mid (H1 := H2) fun b h hb => x2 b h hb) (fB _ fun _ _ h _ _ => h) hms
    rw [← hav] at s2
    have f2 : Hid _ := fun (A : Prop) (h : _ → _ → _ → A) => h x2 s2 hk2
    clear x2 s2 g1 hav hk2
    repeat (with_reducible first|(first|refine pI1 ?_|refine pS1 ?_);intros|refine pA1 ?_|refine pX1 ?_|refine pB1 ?_|exact True.intro)
    refine outM_call (f2 _ fun _ h _ => h) ?_
    rintro _ H3 ⟨rfl, ⟨l3, x3⟩, hb', hb1, hr⟩
    have f3 : Hid _ := fun (A : Prop) (h : _ → _ → A) => h x3 hr
    clear x3 hr
    repeat (with_reducible first|(first|refine pI1 ?_|refine pS1 ?_);intros|refine pA1 ?_|refine pX1 ?_|refine pB1 ?_|exact True.intro)
    exact ⟨rfl, fB _ fun hB fG ho _ _ => fG (f3 _ fun x3 hr => f2 _ fun x2 _ hk2 => hB.two (ho.move _).clear hk2 (.inr ⟨by omega, fun b h hb => x2 b h hb⟩) hr (by omega) (fun b hb h1 _ _ => x3 b hb h1) (.inr hb1))⟩
  repeat (with_reducible first|(first|refine pI1 ?_|refine pS1 ?_);intros|refine pA1 ?_|refine pX1 ?_|refine pB1 ?_|exact True.intro)
  exact ⟨rfl, fB _ fun hB fG _ _ _ => fG hB.goes⟩
end Go.Proofs.Yteiiddefimpplaa.AM.D08

namespace Go.Proofs.Yteiiddefimpplaa.AM.D08
open Go Go.Proofs.Yteiiddefimpplaa.AM Go.Proofs.Yteiiddefimpplaa.AM.C02 Go.Proofs.Yteiiddefimpplaa.AM.C08
set_option maxHeartbeats 2000000
set_option maxRecDepth 100000
attribute [local go_sem] tn_add1 tn_sub1 put_all' nums_len
structure St where
  kind : Int
  a : Int
  b : Int
  ms : Nat
def St.cells (s : St) : List Cell := [.int .i64 s.kind, .int .i64 s.a, .int .i64 s.b, .int .u16 (s.ms : Nat)]
def StR (_ : Heap) (s : St) (cs : List Cell) : Prop := cs = s.cells ∧ s.ms < 65536
abbrev St.T : Ty := .pair I (.pair I (.pair I (.pair (.int .u16) .unit)))
theorem st_row {H : Heap} {x : St.T.D} {cs : List Cell} (h : Vw St.T H x cs) : ∃ e, StR H e cs := by
  obtain ⟨_, _, rfl, ⟨rfl, w1⟩, _, _, rfl, ⟨rfl, w2⟩, _, _, rfl, ⟨rfl, w3⟩, _, _, rfl, ⟨rfl, w4⟩, rfl⟩ := h
  obtain ⟨n, hn, hb⟩ := wf_u rfl w4
  refine ⟨⟨x.1, x.2.1, x.2.2.1, n⟩, ?_, hb⟩
  rw [hn]; rfl
theorem rcl0 {c : Cfg} (h : Hd) (h0 : 0 ≤ c.nodes) (rb hb : Nat) : RclC (clk0 c) rb hb (rclL c h c.nodes.toNat rb hb) :=
  ⟨rfl, by show some (Cell.int .i64 c.nodes) = some (.int .i64 ((c.nodes.toNat : Nat) : Int)); rw [Int.toNat_of_nonneg h0], rfl, rfl, rfl, rfl, rfl, rfl, rfl⟩
theorem RclM.off {H : Heap} {p rb hb : Nat} {k : Clk} (h : RclM H p rb hb k) : H.ld (p, 12) = some (.int .i64 k.offset) := by
  obtain ⟨⟨C, g, hC⟩, -⟩ := h
  rw [ld_blk, g]
  exact hC.c12
theorem plays_law {H : Heap} {c : Cfg} {h : Hd} {a : Option Ad} {n cc : Nat} {oo : Bool} {l : List St} (hc : CfgM H.length H c h) (hf : Few c) (ht : Tab 4 StR H.length H a l) (hn : l.length = n) (hn2 : n ≤ 1000000000) :
    WC F fn_rotalaw08_ClockPlays [.agg (c.cells h), .c (.sl a n cc oo)] H fun v _ => v = .c (.bool true) := by
  refine WC_start e_rotalaw08_ClockPlays (by simp) ?_
  unfold c_rotalaw08_ClockPlays
  have hnew := fun (Hx : Heap) (hx : Xt H Hx) => s_New (hc.keep (H' := Hx) hx.2) hx.1
  have hrnew := fun (Hx : Heap) (hx : Xt H Hx) => s_rNew (hc.keep (H' := Hx) hx.2) hx.1 hf
  obtain ⟨C, hC⟩ : ∃ C, C = c.cells h := ⟨_, rfl⟩
  have hsub : sub C 0 12 = some C := by rw [hC]; rfl
  rw [← hC] at hnew hrnew ⊢
  have fin0 : Hid _ := fun (A : Prop) (h : _ → _ → _ → _ → A) => h hnew hrnew ht hn
  clear hnew hrnew ht hn hc hf hC
  repeat (with_reducible first|(first|refine pI1 ?_|refine pS1 ?_);intros|refine pA1 ?_|refine pX1 ?_|refine pB1 ?_|exact True.intro)
  rename_i b2 H2 p2 g2 x2
  have t2 : Xt H H2 := ⟨by omega, fun b hb => x2 b (by omega)⟩
  have f2 : Hid _ := fun (A : Prop) (h : _ → A) => h t2
  clear x2 t2
  by_cases hbig : n > 1000
  · have hbig' : (n : Int) > 1000 := by omega
    repeat (with_reducible first|(first|refine pI1 ?_|refine pS1 ?_);intros|refine pA1 ?_|refine pX1 ?_|refine pB1 ?_|exact True.intro)
    exact rfl
  have hbig' : ¬ (n : Int) > 1000 := by omega
  repeat (with_reducible first|(first|refine pI1 ?_|refine pS1 ?_);intros|refine pA1 ?_|refine pX1 ?_|refine pB1 ?_|exact True.intro)
  refine outM_call (fin0 _ fun hnew _ _ _ => f2 _ fun t => hnew H2 t) ?_
  rintro v H3 ⟨t3, hv⟩
  have g3 := (t3.2 b2 (by omega)).trans g2
  have t3' : Xt H H3 := f2 _ fun t => ⟨by have := t.1; have := t3.1; omega, fun b hb => (t3.2 b (by have := t.1; omega)).trans (t.2 b hb)⟩
  have f3 : Hid _ := fun (A : Prop) (h : _ → A) => h t3'
  have hrn := fin0 _ fun _ h _ _ => h H3 t3'
  clear t3 t3' g2 f2
  rcases hv with ⟨hk, rfl⟩ | ⟨hk, q, rfl, w1, w2, hq⟩
  · generalize c.check = k at *
    have fr : Hid _ := fun (A : Prop) (h : _ → A) => h hrn
    clear hrn
    repeat (with_reducible first|(first|refine pI1 ?_|refine pS1 ?_);intros|refine pA1 ?_|refine pX1 ?_|refine pB1 ?_|exact True.intro)
    refine outM_call (fr _ fun h => h) ?_
    rintro _ H4 ⟨⟨l4, x4⟩, ⟨-, w, hw, rfl⟩ | ⟨h0, -⟩⟩
    case inr => exact absurd h0 hk
    repeat (with_reducible first|(first|refine pI1 ?_|refine pS1 ?_);intros|refine pA1 ?_|refine pX1 ?_|refine pB1 ?_|exact True.intro)
    exact rfl
  have hok := clk0_ok hk
  have hn0 : 0 ≤ c.nodes := by obtain ⟨q1, q2⟩ := (Cfg.check_ok.1 hk).nodes; omega
  have hrc := fun rb hb => rcl0 h hn0 rb hb
  rw [hk] at hrn
  have fr : Hid _ := fun (A : Prop) (h : _ → _ → _ → _ → A) => h hrn hrc hok hq
  clear hrn hk hrc hok hn0 hq
  repeat (with_reducible first|(first|refine pI1 ?_|refine pS1 ?_);intros|refine pA1 ?_|refine pX1 ?_|refine pB1 ?_|exact True.intro)
  refine outM_call (fr _ fun h _ _ _ => h) ?_
  rintro _ H4 ⟨⟨l4, x4⟩, ⟨h0, -⟩ | ⟨-, rb, hb, rfl, w3, w4, w5, w6⟩⟩
  case inl => exact absurd rfl h0
  have hr0 := fr _ fun _ h _ _ => h rb hb
  obtain ⟨W, hW⟩ : ∃ W, W = rclL c h c.nodes.toNat rb hb := ⟨_, rfl⟩
  rw [← hW] at hr0 ⊢
  have hlw := hr0.len
  clear hW
  have hput : put (Cell.int .i64 0 :: Cell.sl none 0 0 false :: (List.replicate 6 (Cell.int .i64 0) ++ List.replicate 4 (Cell.sl none 0 0 false) ++ [Cell.int .i64 0] ++ List.replicate 2 (Cell.sl none 0 0 false))) 0 W = W := put_all' (by rw [hlw]; rfl)
  have f4 : Hid _ := fun (A : Prop) (h : _ → _ → _ → _ → A) => h x4 w5 w6 hr0
  have lhb := lt_of_get w6
  clear x4 w5 w6 hr0
  repeat (with_reducible first|(first|refine pI1 ?_|refine pS1 ?_);intros|refine pA1 ?_|refine pX1 ?_|refine pB1 ?_|exact True.intro)
  rename_i b7 H5 p5 g5 x5 H6 l6 g6 x6
  have t6 : Xt H4 H6 := ⟨by omega, fun b hb => by rw [x6 b (by omega), x5 b (by omega)]⟩
  have hboth : Both H6 q b7 rb hb (clk0 c) := fr _ fun _ _ ho hq => f4 _ fun x4 w5 w6 hr => by
    refine ⟨ho, hq.keep (by rw [t6.2 q (by omega), x4 q (by omega)]), ⟨⟨W, g6, hr⟩, ⟨_, _, (t6.2 rb (by omega)).trans w5, by rw [grows_one, List.length_replicate]; rfl, fun j hj => ?_⟩, ⟨_, _, (t6.2 hb (by omega)).trans w6, by rw [grows_one, List.length_replicate]; rfl, fun j hj => ?_⟩, by omega, by omega, by omega⟩, by omega, by omega, by omega⟩
    · have hj : j < c.nodes.toNat := hj
      rw [grows_one, List.getElem?_replicate, if_pos hj]; rfl
    · have hj : j < c.nodes.toNat := hj
      rw [grows_one, List.getElem?_replicate, if_pos hj]; rfl
  have hx6 : ∀ b, b < H.length → H6[b]? = H[b]? := fun b hb => f3 _ fun t => f4 _ fun x4 _ _ _ => by rw [t6.2 b (by have := t.1; omega), x4 b (by have := t.1; omega), t.2 b hb]
  have hH6 : H.length ≤ H6.length ∧ H.length ≤ q ∧ H.length ≤ b7 ∧ H.length ≤ rb ∧ H.length ≤ hb := f3 _ fun t => by have := t.1; omega
  obtain ⟨z0, z1, z2, z3, z4⟩ := hH6
  have hinit : Hid ((∀ b, b < H.length → H6[b]? = H[b]?) ∧ ∃ k, Both H6 q b7 rb hb k) := ⟨hx6, _, hboth⟩
  clear x5 x6 g5 g6 t6 hboth hx6 g3 f3 f4 fr
  repeat (with_reducible first|(first|refine pI1 ?_|refine pS1 ?_);intros|refine pA1 ?_|refine pX1 ?_|refine pB1 ?_|exact True.intro)
  refine W_loop (fun mm st => ∃ ρ, ∃ i hb : Nat, ∃ Hk, st = ⟨L 63 ρ, [], Hk⟩ ∧ mm = n - i ∧ i ≤ n ∧ ρ 1 = .c (.sl a n cc oo) ∧ ρ 5 = .c (.ptr (some (q, 0))) ∧ ρ 7 = .c (.ptr (some (b7, 0))) ∧ ρ 9 = .c (.int .i64 (i : Nat)) ∧ H.length ≤ Hk.length ∧ H.length ≤ hb ∧ Hid ((∀ b, b < H.length → Hk[b]? = H[b]?) ∧ ∃ k, Both Hk q b7 rb hb k)) n
    ⟨_, 0, hb, H6, rfl, rfl, by omega, zf, zf, zf, zf, z0, z4, hinit⟩ ?_
  clear hinit
  rintro mm st ⟨ρ, i, hb', Hk, rfl, rfl, hi, e1, e5, e7, e9, lk, lb, hx, k, hB⟩
  unfold b_rotalaw08_ClockPlays_13
  have fa : Hid _ := fun (A : Prop) (h : _ → _ → A) => h hx hB
  clear hx hB
  by_cases hin : i < n
  · have hxt : (i : Int) < (n : Int) := by omega
    have hlt : i < l.length := fin0 _ fun _ _ _ h => by omega
    obtain ⟨⟨tb, ty⟩, cs, ea, ltb, hld, hcs, hms⟩ := fin0 _ fun _ _ ht _ => ht.at hlt
    dsimp only at ltb hld
    have hld : ldnB Hk[tb]? (ty + i * 4) 4 = some cs := by rw [fa _ fun h _ => h tb ltb]; exact hld
    have hs := fa _ fun _ hB => s_step (kd := l[i].kind) (a := l[i].a) (b := l[i].b) hB hms
    unfold St.cells at hcs
    rw [← hcs] at hs
    have fs : Hid _ := fun (A : Prop) (h : _ → A) => h hs
    clear hs hcs hms
    subst ea
    repeat (with_reducible first|(first|refine pI1 ?_|refine pS1 ?_);intros|refine pA1 ?_|refine pX1 ?_|refine pB1 ?_|exact True.intro)
    refine outM_call (fs _ fun h => h) ?_
    rintro _ H8 ⟨rfl, k8, hb8, hB8, ⟨l8, x8⟩, hh⟩
    have ho8 := hB8.2.2.1.off
    have hc8 := s_Offset hB8.2.1 hB8.1
    have hx8 : ∀ b, b < H.length → H8[b]? = H[b]? := fun b hb => by rw [x8 b (by omega) (by omega) (by omega) (by omega) (by omega)]; exact fa _ fun h _ => h b hb
    have f8 : Hid _ := fun (A : Prop) (h : _ → _ → A) => h hx8 hB8
    clear x8 hB8 hx8
    repeat (with_reducible first|(first|refine pI1 ?_|refine pS1 ?_);intros|refine pA1 ?_|refine pX1 ?_|refine pB1 ?_|exact True.intro)
    refine outM_call hc8 ?_
    rintro _ H8 ⟨rfl, rfl⟩
    clear hc8
    repeat (with_reducible first|(first|refine pI1 ?_|refine pS1 ?_);intros|refine pA1 ?_|refine pX1 ?_|refine pB1 ?_|exact True.intro)
    exact loopQ_n (n - (i + 1)) (by omega) ⟨_, i + 1, hb8, H8, rfl, rfl, by omega, zf, zf, zf, zf, by omega, by omega, f8 _ fun h1 h2 => ⟨h1, k8, h2⟩⟩
  · obtain rfl : i = n := by omega
    have hxt : ¬ (i : Int) < (i : Int) := by omega
    have ho8 := fa _ fun _ hB => hB.2.2.1.off
    have hc8 := fa _ fun _ hB => s_Offset hB.2.1 hB.1
    repeat (with_reducible first|(first|refine pI1 ?_|refine pS1 ?_);intros|refine pA1 ?_|refine pX1 ?_|refine pB1 ?_|exact True.intro)
    refine outM_call hc8 ?_
    rintro _ H8 ⟨rfl, rfl⟩
    clear hc8
    repeat (with_reducible first|(first|refine pI1 ?_|refine pS1 ?_);intros|refine pA1 ?_|refine pX1 ?_|refine pB1 ?_|exact True.intro)
    exact rfl
theorem plays_wc (H : Heap) (_ : Begins [] H) {x1 : Cfg.T.D} {x2 : List St.T.D} {v1 v2 : V} (h1 : VwV Cfg.T H x1 v1) (h2 : VwV (.sl St.T) H x2 v2)
    (hk : wt Cfg.T x1 + (wt (.sl St.T) x2 + 0) ≤ 1048576) : WC F fn_rotalaw08_ClockPlays [v1, v2] H fun v _ => v = .c (.bool true) := by
  obtain ⟨cs1, k1, ⟨-, rfl⟩ | ⟨h, -⟩⟩ := h1
  case inr => cases h
  obtain ⟨cs2, k2, ⟨h, -⟩ | ⟨-, w, rfl, rfl⟩⟩ := h2
  case inl => cases h
  obtain ⟨c, h, rfl, hc, hw1⟩ := cfg_rowW k1
  obtain ⟨a, cc, l, e, q1, q2, htab, hS⟩ := Vw.tabW (R := StR) (S := fun x _ => 1 ≤ wt St.T x) (fun _ _ h => (st_row h).imp fun _ h => ⟨h, by show 1 ≤ 1 + _; omega⟩) k2
  cases e
  have b1 := all2_wt (f := fun _ => 1) hS
  rw [len1] at b1
  have hw2 : wt (.sl St.T) x2 = 1 + (x2.map fun x => wt St.T x).sum := rfl
  exact plays_law hc (hw1 (by omega)) htab rfl (by omega)
end Go.Proofs.Yteiiddefimpplaa.AM.D08

