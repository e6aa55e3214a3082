/- What the functions of chapter 7 come to: two lists of bytes; what passes, handed out; a call at a slot below 0. -/
import Derived.Test.YtbgmbnikpjjmcaaD07m
set_option linter.unusedVariables false
set_option linter.unusedSimpArgs false
set_option linter.unusedSectionVars false
namespace Go.Proofs.Ytbgmbnikpjjmcaa.AM.D07
open Go Go.Proofs.Ytbgmbnikpjjmcaa.AM Go.Proofs.Ytbgmbnikpjjmcaa.AM.C02 Go.Proofs.Ytbgmbnikpjjmcaa.AM.C07
set_option maxHeartbeats 2000000
set_option maxRecDepth 100000
attribute [local go_sem] tn_add1 tn_sub1 put_all' nums_len
theorem slgx {H : Heap} {a : Ad} {n : Nat} {l : List Nat} (hs : Sl H 1 (some a) n (nats .u8 l)) (hl : l.length = n) {i : Nat} (h : i < n) : ldB H[a.1]? (a.2 + i) = some (.int .u8 (gx l i : Nat)) := by
  rw [hs.ld1 (o := i) (by omega)]; exact nats_get _ (by omega)
theorem gx_all : ∀ {l l2 : List Nat}, l.length = l2.length → (∀ j, j < l.length → gx l j = gx l2 j) → l = l2 := fun {l l2} h1 h2 =>
  List.ext_getElem h1 fun j q1 q2 => by have := h2 j q1; simpa [gx, q1, q2] using this
theorem s_Bytes {H : Heap} {a a2 : Option Ad} {n n2 c c2 : Nat} {o o2 : Bool} {l l2 : List Nat} (hs : Sl H 1 a n (nats .u8 l)) (hs2 : Sl H 1 a2 n2 (nats .u8 l2)) (hn : n ≤ 100000) (hn2 : n2 ≤ 100000) :
    WC F fn_rotaref07_Bytes [.c (.sl a n c o), .c (.sl a2 n2 c2 o2)] H fun v H' => v = .c (.bool (decide (l = l2))) ∧ H' = H := by
  refine WC_start e_rotaref07_Bytes (by simp) ?_
  unfold c_rotaref07_Bytes
  have h1 := hs.len
  have h2 := hs2.len
  rw [nats_len, Nat.mul_one] at h1 h2
  by_cases hne : n = n2
  case neg =>
    have e : decide (l = l2) = false := decide_eq_false fun h => hne (by rw [← h1, ← h2, h])
    rw [e]
    clear hs hs2 h1 h2 e
    repeat (with_reducible first|(first|refine pI1 ?_|refine pS1 ?_);intros|refine pA1 ?_|refine pX1 ?_|refine pB1 ?_|exact True.intro)
    exact ⟨rfl, rfl⟩
  subst hne
  have fin0 : Hid _ := fun (A : Prop) (h : _ → _ → _ → _ → A) => h hs hs2 h1 h2
  clear hs hs2 h1 h2
  repeat (with_reducible first|(first|refine pI1 ?_|refine pS1 ?_);intros|refine pA1 ?_|refine pX1 ?_|refine pB1 ?_|exact True.intro)
  refine W_loop (fun m st => ∃ ρ, ∃ i : Nat, st = ⟨L 26 ρ, [], H⟩ ∧ m = n - i ∧ i ≤ n ∧ ρ 0 = .c (.sl a n c o) ∧ ρ 1 = .c (.sl a2 n c2 o2) ∧ ρ 5 = .c (.int .i64 (i : Nat)) ∧ ∀ j, j < i → gx l j = gx l2 j) n ⟨_, 0, rfl, rfl, by omega, zf, zf, zf, fun j hj => by omega⟩ ?_
  rintro m st ⟨ρ, i, rfl, rfl, hi, e0, e1, e5, hall⟩
  unfold b_rotaref07_Bytes_8
  have fa : Hid _ := fun (A : Prop) (h : _ → A) => h hall
  clear hall
  by_cases hin : i < n
  · obtain ⟨⟨b, y⟩, ea⟩ := fin0 _ fun hs _ _ _ => hs.is_some (by omega)
    obtain ⟨⟨b2, y2⟩, ea2⟩ := fin0 _ fun _ hs _ _ => hs.is_some (by omega)
    have d1 := fin0 _ fun hs _ h1 _ => slgx (by rw [ea] at hs; exact hs) h1 hin
    have d2 := fin0 _ fun _ hs _ h2 => slgx (by rw [ea2] at hs; exact hs) h2 hin
    dsimp only at d1 d2
    have hnext : gx l i = gx l2 i → ∀ j, j < i + 1 → gx l j = gx l2 j := fun h j hj => by
      by_cases e : j = i
      · subst e; exact h
      · exact fa _ fun hall => hall j (by omega)
    have hno : gx l i ≠ gx l2 i → decide (l = l2) = false := fun h => decide_eq_false fun e => h (by rw [e])
    have fb : Hid _ := fun (A : Prop) (h : _ → _ → _ → _ → A) => h hnext hno ea ea2
    rw [ea] at e0
    rw [ea2] at e1
    clear hnext hno ea ea2
    generalize hx : gx l i = x at *
    generalize hx2 : gx l2 i = x2 at *
    have fx : Hid _ := fun (A : Prop) (h : _ → _ → A) => h hx hx2
    clear hx hx2
    by_cases hxx : x = x2
    · have fxx : Hid _ := fun (A : Prop) (h : _ → A) => h hxx
      subst hxx
      repeat (with_reducible first|(first|refine pI1 ?_|refine pS1 ?_);intros|refine pA1 ?_|refine pX1 ?_|refine pB1 ?_|exact True.intro)
      refine loopQ_n (n - (i + 1)) (by omega) ⟨_, i + 1, rfl, rfl, by omega, ?_, ?_, zf, fb _ fun h _ _ _ => h (by exact rfl)⟩
      · rw [fb _ fun _ _ h _ => h]; exact zf
      · rw [fb _ fun _ _ _ h => h]; exact zf
    · have fno := fb _ fun _ h _ _ => h (by exact hxx)
      rw [fno]
      repeat (with_reducible first|(first|refine pI1 ?_|refine pS1 ?_);intros|refine pA1 ?_|refine pX1 ?_|refine pB1 ?_|exact True.intro)
      exact ⟨rfl, rfl⟩
  · obtain rfl : i = n := by omega
    have e : decide (l = l2) = true := decide_eq_true (fin0 _ fun _ _ h1 h2 => gx_all (by omega) fun j hj => fa _ fun hall => hall j (by omega))
    rw [e]
    repeat (with_reducible first|(first|refine pI1 ?_|refine pS1 ?_);intros|refine pA1 ?_|refine pX1 ?_|refine pB1 ?_|exact True.intro)
    exact ⟨rfl, rfl⟩
theorem s_CarryN {p : Nat} {H : Heap} {slot : Int} {x y : Cell} (h0 : slot < 0) : WC F fn_bus_Bus_Carry [.c (.ptr (some (p, 0))), .c (.int .i64 slot), .c x, .c y] H fun v H' => v = .tup [.c (.sl none 0 0 false), .c (.int .i64 2)] ∧ H' = H := by
  refine WC_start e_bus_Bus_Carry (by simp) ?_
  unfold c_bus_Bus_Carry
  repeat (with_reducible first|(first|refine pI1 ?_|refine pS1 ?_);intros|refine pA1 ?_|refine pX1 ?_|refine pB1 ?_|exact True.intro)
  exact ⟨rfl, rfl⟩
theorem s_Pass {N p : Nat} {H : Heap} {a a2 : Option Ad} {c c2 : Nat} {o o2 : Bool} {ws : List Int} {bl pa : Nat} {slot : Int} {l : List Snd} {n : Nat} (hb : BusM H p a c o ws bl pa) (hw : ws.length ≤ 100000) (hs : i64 slot) (ht : Snds N p H a2 l) (hn : l.length = n) (hn2 : n ≤ 100000) (hbytes : ∀ i, i < n → (gs l i).bytes.length ≤ 100000) (hN : N ≤ H.length) :
    WC F fn_bus_Bus_Pass [.c (.ptr (some (p, 0))), .c (.int .i64 slot), .c (.sl a2 n c2 o2)] H fun v H' => (∃ is bs a' c' o', v = .tup [.c (.sl a' bs.length c' o'), .c (.bool is)] ∧ Ob H.length H' (.c (.sl a' bs.length c' o')) (nats .u8 bs) ∧
      ((is = false ∧ bs = [] ∧ noneP (ownF ws slot) l ∧ BusM H' p a c o ws ((bl + l.length) % 18446744073709551616) pa) ∨ (is = true ∧ ∃ i, fstP (ownF ws slot) l i ∧ bs = (gs l i).bytes ∧ BusM H' p a c o ws ((bl + (l.length - 1)) % 18446744073709551616) ((pa + 1) % 18446744073709551616)))) ∧ But p H H' := by
  refine WC_start e_bus_Bus_Pass (by simp) ?_
  unfold c_bus_Bus_Pass
  have hpa := s_pass (c2 := c2) (o2 := o2) hb hw hs ht hn hn2 hN
  have hpl : p < H.length := lt_of_get hb.1
  have hal : ∀ b x, a = some (b, x) → b < H.length := fun b x e => hb.2.1.lt e
  have fin0 : Hid _ := fun (A : Prop) (h : _ → _ → _ → A) => h hbytes hal hn
  clear hb hw hs ht hbytes hal hn
  repeat (with_reducible first|(first|refine pI1 ?_|refine pS1 ?_);intros|refine pA1 ?_|refine pX1 ?_|refine pB1 ?_|exact True.intro)
  refine outM_call hpa ?_
  rintro v H2 ⟨hq, l2, x2⟩
  have fx : Hid _ := fun (A : Prop) (h : _ → A) => h x2
  clear hpa x2
  unfold PassQ at hq
  rcases hq with ⟨hno, rfl, hbm⟩ | ⟨i, a', c', o', hfst, rfl, hsl, hab, hby, hbm⟩
  · have f3 : Hid _ := fun (A : Prop) (h : _ → _ → A) => h hno hbm
    clear hno hbm
    repeat (with_reducible first|(first|refine pI1 ?_|refine pS1 ?_);intros|refine pA1 ?_|refine pX1 ?_|refine pB1 ?_|exact True.intro)
    refine outM_call (s_Clone (c := 0) (o := false) (Sl.none H2 1) (by omega)) ?_
    rintro v H3 ⟨⟨a', c', o', rfl, hown, hlo⟩, l3, x3⟩
    have f4 : Hid _ := fun (A : Prop) (h : _ → _ → _ → A) => h hown hlo x3
    clear hown hlo x3
    repeat (with_reducible first|(first|refine pI1 ?_|refine pS1 ?_);intros|refine pA1 ?_|refine pX1 ?_|refine pB1 ?_|exact True.intro)
    refine ⟨⟨false, [], a', c', o', rfl, ⟨a', c', o', rfl, f4 _ fun h _ _ => h, fun x e => Nat.le_trans l2 (f4 _ fun _ h _ => h x e)⟩, .inl ⟨rfl, rfl, f3 _ fun h _ => h, (f3 _ fun _ h => h).keep fun b hb => ?_⟩⟩, by omega, fun b hb hp => ?_⟩
    · have : b < H.length := by
        rcases hb with rfl | ⟨x, e⟩
        · exact hpl
        · exact fin0 _ fun _ h _ => h b x e
      exact f4 _ fun _ _ x3 => x3 b (by omega)
    · rw [f4 _ fun _ _ x3 => x3 b (by omega)]; exact fx _ fun x2 => x2 b hb hp
  · have hlen : (gs l i).bytes.length ≤ 100000 := fin0 _ fun h _ hn => h i (by have := hfst.1; omega)
    have hcl := s_Clone (c := c') (o := o') hsl hlen
    have f3 : Hid _ := fun (A : Prop) (h : _ → _ → _ → A) => h hfst hbm hsl
    clear hfst hsl hab hby hbm
    repeat (with_reducible first|(first|refine pI1 ?_|refine pS1 ?_);intros|refine pA1 ?_|refine pX1 ?_|refine pB1 ?_|exact True.intro)
    refine outM_call hcl ?_
    rintro v H3 ⟨⟨a3, c3, o3, rfl, hown, hlo⟩, l3, x3⟩
    have f4 : Hid _ := fun (A : Prop) (h : _ → _ → _ → A) => h hown hlo x3
    clear hown hlo x3 hcl
    repeat (with_reducible first|(first|refine pI1 ?_|refine pS1 ?_);intros|refine pA1 ?_|refine pX1 ?_|refine pB1 ?_|exact True.intro)
    refine ⟨⟨true, (gs l i).bytes, a3, c3, o3, rfl, ⟨a3, c3, o3, by rw [nats_len], f4 _ fun h _ _ => h, fun x e => Nat.le_trans l2 (f4 _ fun _ h _ => h x e)⟩, .inr ⟨rfl, i, f3 _ fun h _ _ => h, rfl, (f3 _ fun _ h _ => h).keep fun b hb => ?_⟩⟩, by omega, fun b hb hp => ?_⟩
    · have : b < H.length := by
        rcases hb with rfl | ⟨x, e⟩
        · exact hpl
        · exact fin0 _ fun _ h _ => h b x e
      exact f4 _ fun _ _ x3 => x3 b (by omega)
    · rw [f4 _ fun _ _ x3 => x3 b (by omega)]; exact fx _ fun x2 => x2 b hb hp
end Go.Proofs.Ytbgmbnikpjjmcaa.AM.D07
