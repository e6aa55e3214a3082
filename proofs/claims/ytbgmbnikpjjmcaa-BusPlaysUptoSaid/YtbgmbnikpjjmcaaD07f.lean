/- What the functions of chapter 7 come to: counts, whose the slot is, what may pass. -/
import Derived.Test.YtbgmbnikpjjmcaaD07C02j
import Derived.Test.YtbgmbnikpjjmcaaD07e
import Derived.Test.YtbgmbnikpjjmcaaP07
set_option linter.unusedVariables false
set_option linter.unusedSimpArgs false
set_option linter.unusedSectionVars false
namespace Go.Proofs.Ytbgmbnikpjjmcaa.AM.D07
open Go Go.Proofs.Ytbgmbnikpjjmcaa.AM Go.Proofs.Ytbgmbnikpjjmcaa.AM.C02 Go.Proofs.Ytbgmbnikpjjmcaa.AM.C07
set_option maxHeartbeats 2000000
set_option maxRecDepth 100000
attribute [local go_sem] tn_add1 tn_sub1 put_all' nums_len
theorem s_LoadUint64 {H : Heap} {p o n : Nat} {cs : List Cell} {g : Option Nat} (hb : H[p]? = some (.cells cs false g)) (ho : cs[o]? = some (.int .u64 (n : Nat))) :
    WC F fn_atomic_LoadUint64 [.c (.ptr (some (p, o)))] H fun v H' => v = .c (.int .u64 (n : Nat)) ∧ H' = H := by
  have hf : F fn_atomic_LoadUint64 = some (.ext loadX) := by rfl
  refine WC_ext hf (v := .c (.int .u64 (n : Nat))) (H' := H) ?_ ⟨rfl, rfl⟩
  unfold loadX
  dsimp only
  rw [ld_of hb, ho]
theorem s_AddUint64 {H : Heap} {p o n k : Nat} {cs : List Cell} {g : Option Nat} (hb : H[p]? = some (.cells cs false g)) (ho : cs[o]? = some (.int .u64 (n : Nat))) :
    WC F fn_atomic_AddUint64 [.c (.ptr (some (p, o))), .c (.int .u64 (k : Nat))] H fun _ H' => H'[p]? = some (.cells (cs.set o (.int .u64 ((n + k) % 18446744073709551616 : Nat))) false g) ∧ H'.length = H.length ∧ ∀ b, b ≠ p → H'[b]? = H[b]? := by
  have hf : F fn_atomic_AddUint64 = some (.ext addX) := by rfl
  have hw : IntKind.u64.wrap ((n : Int) + (k : Int)) = ((n + k) % 18446744073709551616 : Nat) := by rw [wrap_u64_i] <;> omega
  have hlt : o < cs.length := (List.getElem?_eq_some_iff.1 ho).1
  refine WC_ext hf (v := .c (.int .u64 ((n + k) % 18446744073709551616 : Nat))) (H' := H.set p (.cells (cs.set o (.int .u64 ((n + k) % 18446744073709551616 : Nat))) false g)) ?_ ⟨get_set_same _ (lt_of_get hb), by simp, fun b hb => List.getElem?_set_ne fun e => hb e.symm⟩
  unfold addX
  dsimp only
  rw [ld_of hb, ho]
  dsimp only
  rw [hw, st_one hb _ hlt]
  rfl
theorem s_Load {H : Heap} {p o n : Nat} {cs : List Cell} {g : Option Nat} (hb : H[p]? = some (.cells cs false g)) (ho : cs[o]? = some (.int .u64 (n : Nat))) :
    WC F fn_atomic_Uint64_Load [.c (.ptr (some (p, o)))] H fun v H' => v = .c (.int .u64 (n : Nat)) ∧ H' = H := by
  refine WC_start e_atomic_Uint64_Load (by simp) ?_
  unfold c_atomic_Uint64_Load
  have h0 := s_LoadUint64 hb ho
  clear hb ho
  repeat (with_reducible first|(first|refine pI1 ?_|refine pS1 ?_);intros|refine pA1 ?_|refine pX1 ?_|refine pB1 ?_|exact True.intro)
  refine outM_call h0 ?_
  rintro _ H1 ⟨rfl, rfl⟩
  repeat (with_reducible first|(first|refine pI1 ?_|refine pS1 ?_);intros|refine pA1 ?_|refine pX1 ?_|refine pB1 ?_|exact True.intro)
  exact ⟨rfl, rfl⟩
theorem s_Add {H : Heap} {p o n k : Nat} {cs : List Cell} {g : Option Nat} (hb : H[p]? = some (.cells cs false g)) (ho : cs[o]? = some (.int .u64 (n : Nat))) :
    WC F fn_atomic_Uint64_Add [.c (.ptr (some (p, o))), .c (.int .u64 (k : Nat))] H fun _ H' => H'[p]? = some (.cells (cs.set o (.int .u64 ((n + k) % 18446744073709551616 : Nat))) false g) ∧ H'.length = H.length ∧ ∀ b, b ≠ p → H'[b]? = H[b]? := by
  refine WC_start e_atomic_Uint64_Add (by simp) ?_
  unfold c_atomic_Uint64_Add
  have h0 := s_AddUint64 (k := k) hb ho
  clear hb ho
  repeat (with_reducible first|(first|refine pI1 ?_|refine pS1 ?_);intros|refine pA1 ?_|refine pX1 ?_|refine pB1 ?_|exact True.intro)
  refine outM_call h0 ?_
  rintro v H1 ⟨h1, h2, h3⟩
  have fin : Hid _ := fun (A : Prop) (h : _ → _ → _ → A) => h h1 h2 h3
  clear h1 h2 h3 h0
  repeat (with_reducible first|(first|refine pI1 ?_|refine pS1 ?_);intros|refine pA1 ?_|refine pX1 ?_|refine pB1 ?_|exact True.intro)
  exact fin _ fun h1 h2 h3 => ⟨h1, h2, h3⟩
theorem s_CloneI {H : Heap} {a : Option Ad} {n c : Nat} {o : Bool} {xs : List Cell} (hs : Sl H 1 a n xs) (h0 : 0 < n) (hn : n ≤ 100000) :
    WC F fn_slices_Clone_int_int [.c (.sl a n c o)] H fun v H' => ∃ e, v = .c (.sl (some (e, 0)) n n true) ∧ H'[e]? = some (.cells xs false (some 1)) ∧ H.length ≤ e ∧ e < H'.length ∧ Xt H H' := by
  refine WC_start e_slices_Clone_int_int (by simp) ?_
  unfold c_slices_Clone_int_int
  obtain ⟨a, rfl⟩ := hs.is_some h0
  repeat (with_reducible first|(first|refine pI1 ?_|refine pS1 ?_);intros|refine pA1 ?_|refine pX1 ?_|refine pB1 ?_|exact True.intro)
  rename_i b1 H1 l1 g1 x1
  repeat (with_reducible first|(first|refine pI1 ?_|refine pS1 ?_);intros|refine pA1 ?_|refine pX1 ?_|refine pB1 ?_|exact True.intro)
  refine outM_appC (Sl.blk g1 rfl) (hs.to (H' := H1) fun b hb => x1 b (by omega)) h0 (by unfold most; omega) ?_
  intro e H2 k1 k2 k3
  rw [Nat.zero_add]
  rw [List.nil_append] at k2
  repeat (with_reducible first|(first|refine pI1 ?_|refine pS1 ?_);intros|refine pA1 ?_|refine pX1 ?_|refine pB1 ?_|exact True.intro)
  exact ⟨_, rfl, k2, by omega, by omega, by omega, fun b hb => by rw [k3 b (by omega), x1 b (by omega)]⟩
theorem s_owner {H : Heap} {p : Nat} {a : Option Ad} {c : Nat} {o : Bool} {ws : List Int} {bl pa : Nat} {slot : Int} (hb : BusM H p a c o ws bl pa) (hw : ws.length ≤ 100000) (hs : i64 slot) :
    WC F fn_bus_Bus_owner [.c (.ptr (some (p, 0))), .c (.int .i64 slot)] H fun v H' => v = .c (.int .i64 (ownF ws slot)) ∧ H' = H := by
  refine WC_start e_bus_Bus_owner (by simp) ?_
  unfold c_bus_Bus_owner
  obtain ⟨h1, h2, -⟩ := hb
  obtain ⟨s1, s2⟩ := hs
  obtain ⟨n, hn⟩ : ∃ n, ws.length = n := ⟨_, rfl⟩
  rw [hn] at h1 h2 hw
  by_cases c1 : slot < 0
  · have e : ownF ws slot = -1 := by unfold ownF; rw [if_pos (.inl c1)]
    rw [e]
    clear h2 hn
    repeat (with_reducible first|(first|refine pI1 ?_|refine pS1 ?_);intros|refine pA1 ?_|refine pX1 ?_|refine pB1 ?_|exact True.intro)
    exact ⟨rfl, rfl⟩
  by_cases c2 : n = 0
  · have e : ownF ws slot = -1 := by unfold ownF; rw [if_pos (.inr (by omega))]
    rw [e]
    subst c2
    clear h2 hn
    repeat (with_reducible first|(first|refine pI1 ?_|refine pS1 ?_);intros|refine pA1 ?_|refine pX1 ?_|refine pB1 ?_|exact True.intro)
    exact ⟨rfl, rfl⟩
  obtain ⟨s, rfl⟩ : ∃ s : Nat, slot = s := ⟨slot.toNat, by omega⟩
  obtain ⟨q, hq⟩ : ∃ q, q = s % n := ⟨_, rfl⟩
  have hlt : q < n := by rw [hq]; exact Nat.mod_lt _ (by omega)
  have e : ownF ws s = gn ws q := by unfold ownF; rw [if_neg (by omega), hq, hn, Int.toNat_natCast]
  rw [e]
  obtain ⟨⟨lb, y⟩, rfl⟩ := h2.is_some (by omega)
  have hg := h2.gn hn hlt
  dsimp only at hg
  have hr : (s : Int) % (n : Int) = (q : Nat) := by rw [hq]; rfl
  clear h2 hn e hq
  generalize gn ws q = w at *
  repeat (with_reducible first|(first|refine pI1 ?_|refine pS1 ?_);intros|refine pA1 ?_|refine pX1 ?_|refine pB1 ?_|exact True.intro)
  exact ⟨rfl, rfl⟩
end Go.Proofs.Ytbgmbnikpjjmcaa.AM.D07
