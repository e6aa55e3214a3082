/- What the functions of chapter 7 come to: what each receives, one round's parts. -/
import Derived.Test.YtbgmbnikpjjmcaaD07k
set_option linter.unusedVariables false
set_option linter.unusedSimpArgs false
set_option linter.unusedSectionVars false
namespace Go.Proofs.Ytbgmbnikpjjmcaa.AM.D07
open Go Go.Proofs.Ytbgmbnikpjjmcaa.AM Go.Proofs.Ytbgmbnikpjjmcaa.AM.C02 Go.Proofs.Ytbgmbnikpjjmcaa.AM.C07
set_option maxHeartbeats 2000000
set_option maxRecDepth 100000
attribute [local go_sem] tn_add1 tn_sub1 put_all' nums_len
theorem carry_put {ρ : Nat → V} {H : Heap} {b15 b11 bo lo m i n c' : Nat} {a' : Option Ad} {o' : Bool} {l : List Nat} {cp : Cpy} {f : Nat → Option (List Nat)} (e10 : ρ 10 = .c (.sl (some (bo, 0)) m m false)) (e11 : ρ 11 = .c (.ptr (some (b11, 0)))) (e13 : ρ 13 = .c (.fn fn_bus_Bus_Carry_1 [] [(b11, 0)])) (e14 : ρ 14 = .c (.int .i64 (i : Nat))) (e15 : ρ 15 = .c (.ptr (some (b15, 0))))
    (g15 : H[b15]? = some (.cells cp.cells false none)) (g11 : H[b11]? = some (.cells [.sl a' n c' o'] false none)) (hs : Sl H 1 a' n (nats .u8 l)) (hln : l.length = n) (hn : n ≤ 100000) (hby : ∀ x ∈ l, x < 256) (ho : Outs H lo bo m f) (hi : i < m) (hlo : lo ≤ bo) (h0 : f i = none) (hcp : i64 cp.at_ ∧ cp.mask < 4294967296) :
    W F none (.seq (.ops o_bus_Bus_Carry_16) (.block 3 (.seq (.ops o_bus_Bus_Carry_17) (.cond (.t 67) .skip (.seq (.ops o_bus_Bus_Carry_18) (.cond (.t 69) (.ops o_bus_Bus_Carry_19) (.ops o_bus_Bus_Carry_20))))))) ⟨L 84 ρ, [], H⟩ fun e s => e = .normal ∧ ∃ ρ' H', s = ⟨L 84 ρ', [], H'⟩ ∧ Kp ρ ρ' ∧ H.length ≤ H'.length ∧ (∀ b, b < H.length → b ≠ bo → H'[b]? = H[b]?) ∧ Outs H' lo bo m (fun j => if j = i then becomes cp l else f j) := by
  have hbo : bo < H.length := by obtain ⟨_, h, _⟩ := ho; exact lt_of_get h
  have l11 := lt_of_get g11
  have hme : ∃ k1 k2 k3, cp = ⟨k1, k2, k3⟩ := ⟨_, _, _, rfl⟩
  obtain ⟨kd, az, mk, rfl⟩ := hme
  obtain ⟨⟨ha1, ha2⟩, hmk⟩ := hcp
  dsimp only at ha1 ha2 hmk
  dsimp only [Cpy.cells] at g15
  have fin0 : Hid _ := fun (A : Prop) (h : _ → _ → _ → _ → A) => h hs hln hby ho
  clear hs hln hby ho
  by_cases k1 : kd = 1
  · have e : ∀ f', f' = becomes ⟨kd, az, mk⟩ l → f' = f i := fun f' h => by rw [h, h0]; unfold becomes; rw [if_pos k1]
    subst k1
    have hfe : Hid _ := fun (A : Prop) (h : _ → A) => h e
    clear e h0
    repeat (with_reducible first|(first|refine pI1 ?_|refine pS1 ?_);intros|refine pA1 ?_|refine pX1 ?_|refine pB1 ?_|exact True.intro)
    refine ⟨rfl, _, _, rfl, ⟨zf, zf, zf, zf, zf, zf, zf, zf, zf, zf⟩, Nat.le_refl _, fun _ _ _ => rfl, ?_⟩
    refine (fin0 _ fun _ _ _ ho => ho).same fun j _ => ?_
    by_cases hji : j = i
    · rw [if_pos hji, hji]; exact (hfe _ fun h => (h _ rfl)).symm
    · rw [if_neg hji]
  by_cases k2 : kd = 2
  · have e : becomes ⟨kd, az, mk⟩ l = some (P3.corr l az mk) := by unfold becomes; rw [if_neg k1, if_pos k2]
    rw [e]
    subst k2
    clear e h0 k1
    have hco := fun (Hx : Heap) (hx : Xt H Hx) => s_Corrupt (c := c') (o := o') (at_ := az) (mask := mk) ((fin0 _ fun hs _ _ _ => hs).to fun b hb => hx.2 b hb) hn ha1 ha2 hmk (fin0 _ fun _ _ hby _ => hby)
    have fco : Hid _ := fun (A : Prop) (h : _ → A) => h hco
    clear hco
    repeat (with_reducible first|(first|refine pI1 ?_|refine pS1 ?_);intros|refine pA1 ?_|refine pX1 ?_|refine pB1 ?_|exact True.intro)
    rename_i b1 H1 p1 g1 x1
    have fx : Hid _ := fun (A : Prop) (h : _ → A) => h x1
    have g111 : H1[b11]? = _ := (x1 b11 (by omega)).trans g11
    have g151 : H1[b15]? = _ := (x1 b15 (by have := lt_of_get g15; omega)).trans g15
    clear x1
    repeat (with_reducible first|(first|refine pI1 ?_|refine pS1 ?_);intros|refine pA1 ?_|refine pX1 ?_|refine pB1 ?_|exact True.intro)
    refine outM_call (fco _ fun h => h H1 ⟨by omega, fun b hb => fx _ fun x1 => x1 b (by omega)⟩) ?_
    rintro v H2 ⟨⟨a2, c2, o2, rfl, own, hlo2⟩, l2, x2⟩
    have hcl : (nats .u8 (P3.corr l az mk)).length = n := by rw [nats_len, P3.corr_len]; exact fin0 _ fun _ h _ _ => h
    rw [hcl] at own ⊢
    have g12 : H2[b1]? = _ := (x2 b1 (by omega)).trans g1
    have hx2 : ∀ b, b < H.length → H2[b]? = H[b]? := fun b hb => by rw [x2 b (by omega)]; exact fx _ fun x1 => x1 b (by omega)
    have fx2 : Hid _ := fun (A : Prop) (h : _ → _ → A) => h hx2 own.sl
    clear hx2 x2 own hcl g111 g151 g1
    repeat (with_reducible first|(first|refine pI1 ?_|refine pS1 ?_);intros|refine pA1 ?_|refine pX1 ?_|refine pB1 ?_|exact True.intro)
    refine outM_appN g12 (fx2 _ fun _ h => h) (by omega) ?_
    intro e c3 o3 g H3 p3 q3 g3 l3 x3
    have hx3 : ∀ b, b < H.length → H3[b]? = H[b]? := fun b hb => by rw [x3 b (by omega)]; exact fx2 _ fun x2 _ => x2 b hb
    obtain ⟨cells, q1, q2, q3'⟩ := (fin0 _ fun _ _ _ ho => ho).keep (H' := H3) hlo fun b _ hb => hx3 b hb
    have fx3 : Hid _ := fun (A : Prop) (h : _ → _ → _ → A) => h hx3 q3' g3
    clear hx3 x3 q3' g3 g12
    repeat (with_reducible first|(first|refine pI1 ?_|refine pS1 ?_);intros|refine pA1 ?_|refine pX1 ?_|refine pB1 ?_|exact True.intro)
    rename_i H4 l4 g4 x4
    refine ⟨rfl, _, _, rfl, ⟨zf, zf, zf, zf, zf, zf, zf, zf, zf, zf⟩, by omega, fun b hb hb2 => ?_, ?_⟩
    · rw [x4 b hb2]; exact fx3 _ fun x _ _ => x b hb
    · exact Outs.put q2 (fx3 _ fun _ h _ => h) hi (by omega) (by omega) (fx3 _ fun _ _ h => h) (by rw [P3.corr_len]; exact fin0 _ fun _ h _ _ => h) (P3.corr_by (fin0 _ fun _ _ h _ => h) _ _) g4 x4
  · have e : becomes ⟨kd, az, mk⟩ l = some l := by unfold becomes; rw [if_neg k1, if_neg k2]
    rw [e]
    clear e h0
    have hca := s_Carry1 g11 (fin0 _ fun hs _ _ _ => hs) hn
    clear g11
    repeat (with_reducible first|(first|refine pI1 ?_|refine pS1 ?_);intros|refine pA1 ?_|refine pX1 ?_|refine pB1 ?_|exact True.intro)
    refine outM_call hca ?_
    rintro v H3 ⟨⟨e, c3, o3, g, rfl, p3, q3, g3⟩, l3, x3⟩
    obtain ⟨cells, q1, q2, q3'⟩ := (fin0 _ fun _ _ _ ho => ho).keep (H' := H3) hlo fun b _ hb => x3 b hb
    have fx3 : Hid _ := fun (A : Prop) (h : _ → _ → _ → A) => h x3 q3' g3
    clear x3 q3' g3 hca g15
    repeat (with_reducible first|(first|refine pI1 ?_|refine pS1 ?_);intros|refine pA1 ?_|refine pX1 ?_|refine pB1 ?_|exact True.intro)
    rename_i H4 l4 g4 x4
    refine ⟨rfl, _, _, rfl, ⟨zf, zf, zf, zf, zf, zf, zf, zf, zf, zf⟩, by omega, fun b hb hb2 => ?_, ?_⟩
    · rw [x4 b hb2]; exact fx3 _ fun x _ _ => x b hb
    · exact Outs.put q2 (fx3 _ fun _ h _ => h) hi (by omega) (by omega) (fx3 _ fun _ _ h => h) (fin0 _ fun _ h _ _ => h) (fin0 _ fun _ _ h _ => h) g4 x4
end Go.Proofs.Ytbgmbnikpjjmcaa.AM.D07
