/- What the functions of chapter 7 come to: what each receives, one round's parts. -/
import Derived.Test.YtbgmbnikpjjmcaaD07j
import Derived.Test.YtbgmbnikpjjmcaaP07b
set_option linter.unusedVariables false
set_option linter.unusedSimpArgs false
set_option linter.unusedSectionVars false
namespace Go.Proofs.Ytbgmbnikpjjmcaa.AM.D07
open Go Go.Proofs.Ytbgmbnikpjjmcaa.AM Go.Proofs.Ytbgmbnikpjjmcaa.AM.C02 Go.Proofs.Ytbgmbnikpjjmcaa.AM.C07
set_option maxHeartbeats 2000000
set_option maxRecDepth 100000
attribute [local go_sem] tn_add1 tn_sub1 put_all' nums_len
theorem sub3k (a b c : Cell) : sub [a, b, c] 0 3 = some [a, b, c] := rfl
attribute [local go_sem] sub3k
def Kp (ρ ρ' : Nat → V) : Prop := ρ' 0 = ρ 0 ∧ ρ' 1 = ρ 1 ∧ ρ' 3 = ρ 3 ∧ ρ' 10 = ρ 10 ∧ ρ' 11 = ρ 11 ∧ ρ' 13 = ρ 13 ∧ ρ' 14 = ρ 14 ∧ ρ' 15 = ρ 15 ∧ ρ' 40 = ρ 40 ∧ ρ' 41 = ρ 41
theorem carry_pick {ρ : Nat → V} {H : Heap} {N p b15 i n3 c3 : Nat} {a a3 : Option Ad} {c : Nat} {o o3 : Bool} {ws : List Int} {bl pa : Nat} {slot : Int} {cps : List Cpy} (e0 : ρ 0 = .c (.ptr (some (p, 0)))) (e1 : ρ 1 = .c (.int .i64 slot)) (e3 : ρ 3 = .c (.sl a3 n3 c3 o3)) (e14 : ρ 14 = .c (.int .i64 (i : Nat))) (e15 : ρ 15 = .c (.ptr (some (b15, 0))))
    (g : H[b15]? = some (.cells cpy0.cells false none)) (hb : BusM H p a c o ws bl pa) (hw : ws.length ≤ 100000) (hs : i64 slot) (hc : Tab 3 CpR N H a3 cps) (hn : cps.length = n3) (hn3 : n3 ≤ 100000) :
    W F none (.seq (.ops o_bus_Bus_Carry_14) (.cond (.t 55) (.ops o_bus_Bus_Carry_15) .skip)) ⟨L 84 ρ, [], H⟩ fun e s => e = .normal ∧ ∃ ρ' H', s = ⟨L 84 ρ', [], H'⟩ ∧ Kp ρ ρ' ∧ H'[b15]? = some (.cells (cpF (ownF ws slot) cps i).cells false none) ∧ H'.length = H.length ∧ ∀ b, b ≠ b15 → H'[b]? = H[b]? := by
  have how := s_owner hb hw hs
  have fin0 : Hid _ := fun (A : Prop) (h : _ → _ → A) => h hc hn
  obtain ⟨ow, how2⟩ : ∃ ow, ow = ownF ws slot := ⟨_, rfl⟩
  rw [← how2] at how ⊢
  clear how2 hc hn hb hw hs
  by_cases c1 : i < n3
  · by_cases c2 : (i : Int) = ow
    · have e : cpF ow cps i = cpy0 := by unfold cpF; rw [if_neg fun h => h.2 c2]
      rw [e]
      have fg : Hid _ := fun (A : Prop) (h : _ → A) => h g
      subst c2
      clear g
      repeat (with_reducible first|(first|refine pI1 ?_|refine pS1 ?_);intros|refine pA1 ?_|refine pX1 ?_|refine pB1 ?_|exact True.intro)
      refine outM_call how ?_
      rintro _ H1 ⟨rfl, rfl⟩
      clear how
      repeat (with_reducible first|(first|refine pI1 ?_|refine pS1 ?_);intros|refine pA1 ?_|refine pX1 ?_|refine pB1 ?_|exact True.intro)
      exact ⟨rfl, _, _, rfl, ⟨zf, zf, zf, zf, zf, zf, zf, zf, zf, zf⟩, fg _ fun g => g, rfl, fun _ _ => rfl⟩
    · have e : cpF ow cps i = gc cps i := by unfold cpF; rw [if_pos ⟨by rw [fin0 _ fun _ h => h]; exact c1, c2⟩]
      rw [e]
      obtain ⟨lb, y, ea, -, hld, -⟩ := fin0 _ fun hc hn => copy_at hc (i := i) (by omega)
      generalize gc cps i = q at *
      obtain ⟨k, az, mk⟩ := q
      dsimp only [Cpy.cells, cpy0] at hld g ⊢
      rw [ea] at e3
      clear ea e
      repeat (with_reducible first|(first|refine pI1 ?_|refine pS1 ?_);intros|refine pA1 ?_|refine pX1 ?_|refine pB1 ?_|exact True.intro)
      refine outM_call how ?_
      rintro _ H1 ⟨rfl, rfl⟩
      clear how
      repeat (with_reducible first|(first|refine pI1 ?_|refine pS1 ?_);intros|refine pA1 ?_|refine pX1 ?_|refine pB1 ?_|exact True.intro)
      have lg := lt_of_get g
      exact ⟨rfl, _, _, rfl, ⟨zf, zf, zf, zf, zf, zf, zf, zf, zf, zf⟩, get_set_same _ lg, by rw [List.length_set], fun b hb => List.getElem?_set_ne (Ne.symm hb)⟩
  · have e : cpF ow cps i = cpy0 := by unfold cpF; rw [if_neg fun h => c1 (by rw [← fin0 _ fun _ h => h]; exact h.1)]
    rw [e]
    have fg : Hid _ := fun (A : Prop) (h : _ → A) => h g
    clear g how
    repeat (with_reducible first|(first|refine pI1 ?_|refine pS1 ?_);intros|refine pA1 ?_|refine pX1 ?_|refine pB1 ?_|exact True.intro)
    exact ⟨rfl, _, _, rfl, ⟨zf, zf, zf, zf, zf, zf, zf, zf, zf, zf⟩, fg _ fun g => g, rfl, fun _ _ => rfl⟩
end Go.Proofs.Ytbgmbnikpjjmcaa.AM.D07
