/- What the functions of chapter 7 come to: the guardian. -/
import Derived.Test.YtbgmbnikpjjmcaaD07h
set_option linter.unusedVariables false
set_option linter.unusedSimpArgs false
set_option linter.unusedSectionVars false
namespace Go.Proofs.Ytbgmbnikpjjmcaa.AM.D07
open Go Go.Proofs.Ytbgmbnikpjjmcaa.AM Go.Proofs.Ytbgmbnikpjjmcaa.AM.C02 Go.Proofs.Ytbgmbnikpjjmcaa.AM.C07
set_option maxHeartbeats 2000000
set_option maxRecDepth 100000
attribute [local go_sem] tn_add1 tn_sub1 put_all' nums_len
def PassQ (N : Nat) (p : Nat) (a : Option Ad) (c : Nat) (o : Bool) (ws : List Int) (bl pa : Nat) (slot : Int) (l : List Snd) (v : V) (H' : Heap) : Prop :=
  (noneP (ownF ws slot) l ∧ v = .tup [.c (.sl none 0 0 false), .c (.bool false)] ∧ BusM H' p a c o ws ((bl + l.length) % 18446744073709551616) pa) ∨
  (∃ i a' c' o', fstP (ownF ws slot) l i ∧ v = .tup [.c (.sl a' (gs l i).bytes.length c' o'), .c (.bool true)] ∧ Sl H' 1 a' (gs l i).bytes.length (nats .u8 (gs l i).bytes) ∧ (∀ b x, a' = some (b, x) → b < N ∧ b ≠ p) ∧ (∀ x ∈ (gs l i).bytes, x < 256) ∧ BusM H' p a c o ws ((bl + (l.length - 1)) % 18446744073709551616) ((pa + 1) % 18446744073709551616))
def But (p : Nat) (H H' : Heap) : Prop := H.length ≤ H'.length ∧ ∀ b, b < H.length → b ≠ p → H'[b]? = H[b]?
theorem s_pass {N p : Nat} {H : Heap} {a a2 : Option Ad} {c c2 : Nat} {o o2 : Bool} {ws : List Int} {bl pa : Nat} {slot : Int} {l : List Snd} {n : Nat} (hb : BusM H p a c o ws bl pa) (hw : ws.length ≤ 100000) (hs : i64 slot) (ht : Snds N p H a2 l) (hn : l.length = n) (hn2 : n ≤ 100000) (hN : N ≤ H.length) :
    WC F fn_bus_Bus_pass [.c (.ptr (some (p, 0))), .c (.int .i64 slot), .c (.sl a2 n c2 o2)] H fun v H' => PassQ N p a c o ws bl pa slot l v H' ∧ But p H H' := by
  refine WC_start e_bus_Bus_pass (by simp) ?_
  unfold c_bus_Bus_pass
  have how := s_owner hb hw hs
  have hpl : p < H.length := lt_of_get hb.1
  have hal : ∀ b x, a = some (b, x) → b < H.length := fun b x e => hb.2.1.lt e
  have fin0 : Hid _ := fun (A : Prop) (h : _ → _ → _ → A) => h hb ht hal
  obtain ⟨ow, how2⟩ : ∃ ow, ow = ownF ws slot := ⟨_, rfl⟩
  rw [← how2] at how
  unfold PassQ
  rw [← how2, hn]
  clear hb hw hs ht hal how2
  repeat (with_reducible first|(first|refine pI1 ?_|refine pS1 ?_);intros|refine pA1 ?_|refine pX1 ?_|refine pB1 ?_|exact True.intro)
  refine outM_call how ?_
  rintro _ H1 ⟨rfl, rfl⟩
  clear how
  repeat (with_reducible first|(first|refine pI1 ?_|refine pS1 ?_);intros|refine pA1 ?_|refine pX1 ?_|refine pB1 ?_|exact True.intro)
  rename_i b8 H0 p8 g0 x0 H2 l8 g8 x8
  have x8' : ∀ b, b < H1.length → H2[b]? = H1[b]? := fun b hb => by rw [x8 b (by omega), x0 b (by omega)]
  clear x8 x0 g0
  have fx : Hid _ := fun (A : Prop) (h : _ → A) => h x8'
  clear x8'
  have hix := s_IndexFunc (n := n) (c := c2) (o := o2) g8 hn hn2 ((fin0 _ fun _ ht _ => ht).keep (H' := H2) fun b hb _ => fx _ fun x8 => x8 b (by omega)) (by omega)
  have fg : Hid _ := fun (A : Prop) (h : _ → A) => h g8
  clear g8
  repeat (with_reducible first|(first|refine pI1 ?_|refine pS1 ?_);intros|refine pA1 ?_|refine pX1 ?_|refine pB1 ?_|exact True.intro)
  refine outM_call hix ?_
  rintro _ H3 ⟨hv, l3, x3⟩
  clear hix
  have gp : H3[p]? = _ := ((x3 p (by omega)).trans (fx _ fun x8 => x8 p (by omega))).trans (fin0 _ fun hb _ _ => hb.1)
  have hx3 : ∀ b, b < H1.length → H3[b]? = H1[b]? := fun b hb => by rw [x3 b (by omega)]; exact fx _ fun x8 => x8 b (by omega)
  have fx3 : Hid _ := fun (A : Prop) (h : _ → A) => h hx3
  clear hx3 x3
  rcases hv with ⟨rfl, hno⟩ | ⟨i, rfl, hfst⟩
  · have had := s_Add (k := n) gp (o := 1) rfl
    have fno : Hid _ := fun (A : Prop) (h : _ → A) => h hno
    clear gp hno
    repeat (with_reducible first|(first|refine pI1 ?_|refine pS1 ?_);intros|refine pA1 ?_|refine pX1 ?_|refine pB1 ?_|exact True.intro)
    refine outM_call had ?_
    rintro _ H4 ⟨h4, l4, x4⟩
    have f4 : Hid _ := fun (A : Prop) (h : _ → _ → A) => h h4 x4
    clear h4 x4 had
    repeat (with_reducible first|(first|refine pI1 ?_|refine pS1 ?_);intros|refine pA1 ?_|refine pX1 ?_|refine pB1 ?_|exact True.intro)
    refine ⟨.inl ⟨fno _ fun h => h, rfl, ?_⟩, by omega, fun b hb hp => by rw [f4 _ fun _ x4 => x4 b hp]; exact fx3 _ fun x => x b hb⟩
    refine ⟨f4 _ fun h _ => h, ?_, fin0 _ fun hb _ _ => hb.2.2⟩
    exact fin0 _ fun hb _ hal => hb.2.1.keep fun b x e => by rw [f4 _ fun _ x4 => x4 b (hb.2.2 _ _ e)]; exact fx3 _ fun x' => x' b (hal _ _ e)
  · have hin : i < n := by have := hfst.1; omega
    obtain ⟨m, rfl⟩ : ∃ m, n = m + 1 := ⟨n - 1, by omega⟩
    have had := s_Add (k := m) gp (o := 1) rfl
    have ff : Hid _ := fun (A : Prop) (h : _ → A) => h hfst
    clear gp hfst
    repeat (with_reducible first|(first|refine pI1 ?_|refine pS1 ?_);intros|refine pA1 ?_|refine pX1 ?_|refine pB1 ?_|exact True.intro)
    refine outM_call had ?_
    rintro _ H4 ⟨h4, l4, x4⟩
    have had2 := s_Add (k := 1) h4 (o := 2) rfl
    have f4 : Hid _ := fun (A : Prop) (h : _ → A) => h x4
    clear h4 x4 had
    repeat (with_reducible first|(first|refine pI1 ?_|refine pS1 ?_);intros|refine pA1 ?_|refine pX1 ?_|refine pB1 ?_|exact True.intro)
    refine outM_call had2 ?_
    rintro _ H5 ⟨h5, l5, x5⟩
    have f5 : Hid _ := fun (A : Prop) (h : _ → _ → A) => h h5 x5
    clear h5 x5 had2
    have hx5 : ∀ b, b < H1.length → b ≠ p → H5[b]? = H1[b]? := fun b hb hp => by rw [f5 _ fun _ x5 => x5 b hp, f4 _ fun x4 => x4 b hp]; exact fx3 _ fun x => x b hb
    have f6 : Hid _ := fun (A : Prop) (h : _ → A) => h hx5
    clear hx5
    obtain ⟨lb, y, a', c', o', rfl, hlb, hlp, hld, hsl, hab, -, hby⟩ := send_at (i := i) ((fin0 _ fun _ ht _ => ht).keep (H' := H5) fun b hb hp => f6 _ fun h => h b (by omega) hp) (by omega)
    obtain ⟨hd0, hd1⟩ := ldB_two hld
    have f7 : Hid _ := fun (A : Prop) (h : _ → _ → _ → A) => h hsl hab hby
    clear hsl hab hby hld hd0
    repeat (with_reducible first|(first|refine pI1 ?_|refine pS1 ?_);intros|refine pA1 ?_|refine pX1 ?_|refine pB1 ?_|exact True.intro)
    refine ⟨.inr ⟨i, a', c', o', ff _ fun h => h, rfl, f7 _ fun h _ _ => h, fun b x e => f7 _ fun _ h _ => ⟨by have := (h b x e).1; omega, (h b x e).2⟩, f7 _ fun _ _ h => h, ?_⟩, by omega, f6 _ fun h => h⟩
    refine ⟨f5 _ fun h _ => h, ?_, fin0 _ fun hb _ _ => hb.2.2⟩
    exact fin0 _ fun hb _ hal => hb.2.1.keep fun b x e => f6 _ fun h => h b (hal _ _ e) (hb.2.2 _ _ e)
theorem s_Blocked {H : Heap} {p : Nat} {a : Option Ad} {c : Nat} {o : Bool} {ws : List Int} {bl pa : Nat} (hb : BusM H p a c o ws bl pa) : WC F fn_bus_Bus_Blocked [.c (.ptr (some (p, 0)))] H fun v H' => v = .c (.int .u64 (bl : Nat)) ∧ H' = H := by
  refine WC_start e_bus_Bus_Blocked (by simp) ?_
  unfold c_bus_Bus_Blocked
  have h0 := s_Load hb.1 (o := 1) (n := bl) rfl
  clear hb
  repeat (with_reducible first|(first|refine pI1 ?_|refine pS1 ?_);intros|refine pA1 ?_|refine pX1 ?_|refine pB1 ?_|exact True.intro)
  refine outM_call h0 ?_
  rintro _ H1 ⟨rfl, rfl⟩
  repeat (with_reducible first|(first|refine pI1 ?_|refine pS1 ?_);intros|refine pA1 ?_|refine pX1 ?_|refine pB1 ?_|exact True.intro)
  exact ⟨rfl, rfl⟩
theorem s_Passed {H : Heap} {p : Nat} {a : Option Ad} {c : Nat} {o : Bool} {ws : List Int} {bl pa : Nat} (hb : BusM H p a c o ws bl pa) : WC F fn_bus_Bus_Passed [.c (.ptr (some (p, 0)))] H fun v H' => v = .c (.int .u64 (pa : Nat)) ∧ H' = H := by
  refine WC_start e_bus_Bus_Passed (by simp) ?_
  unfold c_bus_Bus_Passed
  have h0 := s_Load hb.1 (o := 2) (n := pa) rfl
  clear hb
  repeat (with_reducible first|(first|refine pI1 ?_|refine pS1 ?_);intros|refine pA1 ?_|refine pX1 ?_|refine pB1 ?_|exact True.intro)
  refine outM_call h0 ?_
  rintro _ H1 ⟨rfl, rfl⟩
  repeat (with_reducible first|(first|refine pI1 ?_|refine pS1 ?_);intros|refine pA1 ?_|refine pX1 ?_|refine pB1 ?_|exact True.intro)
  exact ⟨rfl, rfl⟩
end Go.Proofs.Ytbgmbnikpjjmcaa.AM.D07
