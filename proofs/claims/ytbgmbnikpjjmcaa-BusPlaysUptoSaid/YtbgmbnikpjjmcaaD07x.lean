/- What the document's functions of chapter 7 come to: what each receives, one round's parts. -/
import Derived.Test.YtbgmbnikpjjmcaaD07w
import Derived.Test.YtbgmbnikpjjmcaaD07m
set_option linter.unusedVariables false
set_option linter.unusedSimpArgs false
set_option linter.unusedSectionVars false
namespace Go.Proofs.Ytbgmbnikpjjmcaa.AM.D07
open Go Go.Proofs.Ytbgmbnikpjjmcaa.AM Go.Proofs.Ytbgmbnikpjjmcaa.AM.C02 Go.Proofs.Ytbgmbnikpjjmcaa.AM.C07
set_option maxHeartbeats 2000000
set_option maxRecDepth 100000
attribute [local go_sem] tn_add1 tn_sub1 put_all' nums_len sub3k
def RSlot (H : Heap) (x : Option Cell) : Option (List Nat) → Prop
  | none => x = some nilC
  | some l => ∃ a c o, x = some (.sl a l.length c o) ∧ Sl H 1 a l.length (nats .u8 l) ∧ ∀ y ∈ l, y < 256
theorem RSlot.keep {H H' : Heap} {x : Option Cell} {r : Option (List Nat)} (h : RSlot H x r) (hx : ∀ b y n c o, x = some (.sl (some (b, y)) n c o) → H'[b]? = H[b]?) : RSlot H' x r := by
  cases r with
  | none => exact h
  | some l =>
    obtain ⟨a, c, o, h1, h2, h3⟩ := h
    exact ⟨a, c, o, h1, h2.keep fun b y e => hx b y _ _ _ (by rw [h1, e]), h3⟩
def bsC (f : Nat → Option (List Nat)) (k : Nat) : List Cell := (List.range k).map fun j => Cell.bool (f j).isSome
theorem bsC_s (f : Nat → Option (List Nat)) (k : Nat) : bsC f (k + 1) = bsC f k ++ [Cell.bool (f k).isSome] := by
  unfold bsC; rw [List.range_succ, List.map_append]; rfl
def RInv (lo : Nat) (H : Heap) (oa ha : Option Ad) (k1 k2 : Nat) (oo ho : Bool) (f : Nat → Option (List Nat)) : Prop :=
  ∃ cs, Gr lo H 1 oa k1 oo cs ∧ Gr lo H 1 ha k2 ho (bsC f k2) ∧ (∀ x y, oa = some x → ha = some y → x.1 ≠ y.1) ∧ ∀ j, j < k1 → RSlot H cs[j]? (f j) ∧ ∀ b y n c o, cs[j]? = some (.sl (some (b, y)) n c o) → b < H.length ∧ away oa b ∧ away ha b
theorem RInv.keepX {lo : Nat} {H H' : Heap} {oa ha : Option Ad} {k1 k2 : Nat} {oo ho : Bool} {f : Nat → Option (List Nat)} (h : RInv lo H oa ha k1 k2 oo ho f) (hl : H.length ≤ H'.length) (hx : ∀ b, b < H.length → H'[b]? = H[b]?) : RInv lo H' oa ha k1 k2 oo ho f := by
  obtain ⟨cs, h1, h2, h3, h4⟩ := h
  refine ⟨cs, h1.keepX hx, h2.keepX hx, h3, fun j hj => ⟨(h4 j hj).1.keep fun b y n c o e => hx b ((h4 j hj).2 b y n c o e).1, fun b y n c o e => ?_⟩⟩
  obtain ⟨q1, q2, q3⟩ := (h4 j hj).2 b y n c o e
  exact ⟨by omega, q2, q3⟩
theorem outM_pushO {H : Heap} {K : V → Heap → Prop} {lo k k2 bz : Nat} {oa ha : Option Ad} {oo ho : Bool} {f : Nat → Option (List Nat)} {x : Cell} (h : RInv lo H oa ha k k2 oo ho f) (hlo : lo ≤ H.length) (hz : H[bz]? = some (.cells [x] false none)) (hx : RSlot H (some x) (f k)) (hxa : ∀ b y n c o, x = .sl (some (b, y)) n c o → b < H.length ∧ away oa b ∧ away ha b) (hk : k ≤ 100000)
    (hq : ∀ a' H', RInv lo H' a' ha (k + 1) k2 true ho f → H.length < H'.length → (∀ c, c < lo → H'[c]? = H[c]?) → K (.c (.sl a' (k + 1) (k + 1) true)) H') :
    outM F (appO 1 24 (.c (.sl oa k k oo)) (.c (.sl (some (bz, 0)) 1 1 false)) H) K ⟨⟩ := by
  obtain ⟨cs, h1, h2, h3, h4⟩ := h
  have hcl := h1.len
  rw [Nat.mul_one] at hcl
  refine outM_appG (j := 1) h1 hlo (Sl.blk hz rfl) (by omega) (by omega) fun a' H' q1 q2 q3 q4 q5 => ?_
  have hst : ∀ b, b < H.length → away oa b → H'[b]? = H[b]? := q4
  refine hq a' H' ⟨cs ++ [x], q1, h2.keep fun b hb hb' hn => hst b hb' fun y e => ?_, fun y z e1 e2 => ?_, fun j hj => ?_⟩ q2 q3
  · have : ∃ z, ha = some z ∧ z.1 = b := Classical.byContradiction fun hc => hn fun z e' hz => hc ⟨z, e', hz.symm⟩
    obtain ⟨z, e', hz'⟩ := this
    have := h3 y z e e'
    omega
  · have := q5 z.1 (h2.lt z e2).2 y e1
    omega
  · by_cases hjk : j < k
    · rw [List.getElem?_append_left (by omega)]
      obtain ⟨r1, r2⟩ := h4 j hjk
      refine ⟨r1.keep fun b y n c o e => ?_, fun b y n c o e => ?_⟩
      · obtain ⟨s1, s2, -⟩ := r2 b y n c o e
        exact hst b s1 s2
      · obtain ⟨s1, s2, s3⟩ := r2 b y n c o e
        exact ⟨by omega, q5 b s1, s3⟩
    · obtain rfl : j = k := by omega
      rw [List.getElem?_append_right (by omega), hcl, Nat.sub_self]
      refine ⟨hx.keep fun b y n c o e => ?_, fun b y n c o e => ?_⟩
      · obtain ⟨s1, s2, -⟩ := hxa b y n c o (Option.some.inj e)
        exact hst b s1 s2
      · obtain ⟨s1, s2, s3⟩ := hxa b y n c o (Option.some.inj e)
        exact ⟨by omega, q5 b s1, s3⟩
theorem outM_pushH {H : Heap} {K : V → Heap → Prop} {lo k k1 bz : Nat} {oa ha : Option Ad} {oo ho : Bool} {f : Nat → Option (List Nat)} {w : Bool} (h : RInv lo H oa ha k1 k oo ho f) (hlo : lo ≤ H.length) (hz : H[bz]? = some (.cells [.bool w] false none)) (hw : w = (f k).isSome) (hk : k ≤ 100000)
    (hq : ∀ a' H', RInv lo H' oa a' k1 (k + 1) oo true f → H.length < H'.length → (∀ c, c < lo → H'[c]? = H[c]?) → K (.c (.sl a' (k + 1) (k + 1) true)) H') :
    outM F (appO 1 1 (.c (.sl ha k k ho)) (.c (.sl (some (bz, 0)) 1 1 false)) H) K ⟨⟩ := by
  obtain ⟨cs, h1, h2, h3, h4⟩ := h
  refine outM_appG (j := 1) h2 hlo (Sl.blk hz rfl) (by omega) (by omega) fun a' H' q1 q2 q3 q4 q5 => ?_
  rw [hw, ← bsC_s] at q1
  have hst : ∀ b, b < H.length → away ha b → H'[b]? = H[b]? := q4
  refine hq a' H' ⟨cs, h1.keep fun b hb hb' hn => hst b hb' fun y e => ?_, q1, fun y z e1 e2 => ?_, fun j hj => ?_⟩ q2 q3
  · have : ∃ z, oa = some z ∧ z.1 = b := Classical.byContradiction fun hc => hn fun z e' hz => hc ⟨z, e', hz.symm⟩
    obtain ⟨z, e', hz'⟩ := this
    have := h3 z y e' e
    omega
  · have := q5 y.1 (h1.lt y e1).2 z e2
    omega
  · obtain ⟨r1, r2⟩ := h4 j hj
    refine ⟨r1.keep fun b y n c o e => ?_, fun b y n c o e => ?_⟩
    · obtain ⟨s1, -, s2⟩ := r2 b y n c o e
      exact hst b s1 s2
    · obtain ⟨s1, s2, s3⟩ := r2 b y n c o e
      exact ⟨by omega, s2, q5 b s1⟩
def KpR (ρ ρ' : Nat → V) : Prop := ρ' 0 = ρ 0 ∧ ρ' 1 = ρ 1 ∧ ρ' 3 = ρ 3 ∧ ρ' 11 = ρ 11 ∧ ρ' 12 = ρ 12 ∧ ρ' 13 = ρ 13 ∧ ρ' 14 = ρ 14 ∧ ρ' 15 = ρ 15 ∧ ρ' 16 = ρ 16
theorem rcarry_pick {ρ : Nat → V} {H : Heap} {N p b16 i n3 c3 : Nat} {a a3 : Option Ad} {c : Nat} {o o3 : Bool} {ws : List Int} {bl pa : Nat} {slot : Int} {cps : List Cpy} (e0 : ρ 0 = .c (.ptr (some (p, 0)))) (e1 : ρ 1 = .c (.int .i64 slot)) (e3 : ρ 3 = .c (.sl a3 n3 c3 o3)) (e15 : ρ 15 = .c (.int .i64 (i : Nat))) (e16 : ρ 16 = .c (.ptr (some (b16, 0))))
    (g : H[b16]? = some (.cells cpy0.cells false none)) (hb : BusM H p a c o ws bl pa) (hw : ws.length ≤ 100000) (hw0 : 0 < ws.length) (hs : i64 slot) (hc : Tab 3 CpR N H a3 cps) (hn : cps.length = n3) (hn3 : n3 ≤ 100000) :
    W F none (.seq (.ops o_rotaref07_Bus_Carry_9) (.cond (.t 48) (.ops o_rotaref07_Bus_Carry_10) .skip)) ⟨L 81 ρ, [], H⟩ fun e s => e = .normal ∧ ∃ ρ' H', s = ⟨L 81 ρ', [], H'⟩ ∧ KpR ρ ρ' ∧ H'[b16]? = some (.cells (cpF (ownF ws slot) cps i).cells false none) ∧ H'.length = H.length ∧ ∀ b, b ≠ b16 → H'[b]? = H[b]? := by
  have how := s_rowner hb hw hw0 hs
  have fin0 : Hid _ := fun (A : Prop) (h : _ → _ → A) => h hc hn
  obtain ⟨ow, how2⟩ : ∃ ow, ow = ownF ws slot := ⟨_, rfl⟩
  rw [← how2] at how ⊢
  clear how2 hc hn hb hw hw0 hs
  by_cases c1 : i < n3
  · by_cases c2 : (i : Int) = ow
    · have e : cpF ow cps i = cpy0 := by unfold cpF; rw [if_neg fun h => h.2 c2]
      rw [e]
      have fg : Hid _ := fun (A : Prop) (h : _ → A) => h g
      subst c2
      clear g
      repeat (with_reducible first|(first|refine pI1 ?_|refine pS1 ?_);intros|refine pA1 ?_|refine pX1 ?_|refine pB1 ?_|exact True.intro)
      refine outM_call how ?_
      rintro _ H1 ⟨rfl, rfl⟩
      clear how
      repeat (with_reducible first|(first|refine pI1 ?_|refine pS1 ?_);intros|refine pA1 ?_|refine pX1 ?_|refine pB1 ?_|exact True.intro)
      exact ⟨rfl, _, _, rfl, ⟨zf, zf, zf, zf, zf, zf, zf, zf, zf⟩, fg _ fun g => g, rfl, fun _ _ => rfl⟩
    · have e : cpF ow cps i = gc cps i := by unfold cpF; rw [if_pos ⟨by rw [fin0 _ fun _ h => h]; exact c1, c2⟩]
      rw [e]
      obtain ⟨lb, y, ea, -, hld, -⟩ := fin0 _ fun hc hn => copy_at hc (i := i) (by omega)
      generalize gc cps i = q at *
      obtain ⟨k, az, mk⟩ := q
      dsimp only [Cpy.cells, cpy0] at hld g ⊢
      rw [ea] at e3
      clear ea e
      repeat (with_reducible first|(first|refine pI1 ?_|refine pS1 ?_);intros|refine pA1 ?_|refine pX1 ?_|refine pB1 ?_|exact True.intro)
      refine outM_call how ?_
      rintro _ H1 ⟨rfl, rfl⟩
      clear how
      repeat (with_reducible first|(first|refine pI1 ?_|refine pS1 ?_);intros|refine pA1 ?_|refine pX1 ?_|refine pB1 ?_|exact True.intro)
      have lg := lt_of_get g
      exact ⟨rfl, _, _, rfl, ⟨zf, zf, zf, zf, zf, zf, zf, zf, zf⟩, get_set_same _ lg, by rw [List.length_set], fun b hb => List.getElem?_set_ne (Ne.symm hb)⟩
  · have e : cpF ow cps i = cpy0 := by unfold cpF; rw [if_neg fun h => c1 (by rw [← fin0 _ fun _ h => h]; exact h.1)]
    rw [e]
    have fg : Hid _ := fun (A : Prop) (h : _ → A) => h g
    clear g how
    repeat (with_reducible first|(first|refine pI1 ?_|refine pS1 ?_);intros|refine pA1 ?_|refine pX1 ?_|refine pB1 ?_|exact True.intro)
    exact ⟨rfl, _, _, rfl, ⟨zf, zf, zf, zf, zf, zf, zf, zf, zf⟩, fg _ fun g => g, rfl, fun _ _ => rfl⟩
def KpS (ρ ρ' : Nat → V) : Prop := ρ' 0 = ρ 0 ∧ ρ' 1 = ρ 1 ∧ ρ' 3 = ρ 3 ∧ ρ' 11 = ρ 11 ∧ ρ' 12 = ρ 12 ∧ ρ' 15 = ρ 15
theorem rcarry_put {ρ : Nat → V} {H : Heap} {b16 lo k n c' : Nat} {a' : Option Ad} {o' oo ho is : Bool} {l : List Nat} {cp : Cpy} {oa ha : Option Ad} {f : Nat → Option (List Nat)} (e11 : ρ 11 = .c (.sl a' n c' o')) (e12 : ρ 12 = .c (.bool is)) (e13 : ρ 13 = .c (.sl oa k k oo)) (e14 : ρ 14 = .c (.sl ha k k ho)) (e16 : ρ 16 = .c (.ptr (some (b16, 0))))
    (g16 : H[b16]? = some (.cells cp.cells false none)) (hs : Sl H 1 a' n (nats .u8 l)) (hln : l.length = n) (hn : n ≤ 100000) (hby : ∀ x ∈ l, x < 256) (hab : ∀ b x, a' = some (b, x) → b < lo) (hi : RInv lo H oa ha k k oo ho f) (hk : k ≤ 100000) (hlo : lo ≤ H.length) (hcp : i64 cp.at_ ∧ cp.mask < 4294967296)
    (hf : f k = if is then becomes cp l else none) :
    W F none (.seq (.ops o_rotaref07_Bus_Carry_11) (.seq (.seq (.ops o_rotaref07_Bus_Carry_12) (.cond (.t 56) (.ops o_rotaref07_Bus_Carry_13) .skip)) (.seq (.ops o_rotaref07_Bus_Carry_14) (.seq (.seq (.ops o_rotaref07_Bus_Carry_15) (.cond (.t 70) (.ops o_rotaref07_Bus_Carry_16) .skip)) (.seq (.ops o_rotaref07_Bus_Carry_17) (.ops o_rotaref07_Bus_Carry_18)))))) ⟨L 81 ρ, [], H⟩
      fun e s => e = .normal ∧ ∃ ρ' H' oa' ha', s = ⟨L 81 ρ', [], H'⟩ ∧ KpS ρ ρ' ∧ ρ' 13 = .c (.sl oa' (k + 1) (k + 1) true) ∧ ρ' 14 = .c (.sl ha' (k + 1) (k + 1) true) ∧ H.length ≤ H'.length ∧ (∀ b, b < lo → H'[b]? = H[b]?) ∧ RInv lo H' oa' ha' (k + 1) (k + 1) true true f := by
  have hme : ∃ k1 k2 k3, cp = ⟨k1, k2, k3⟩ := ⟨_, _, _, rfl⟩
  obtain ⟨kd, az, mk, rfl⟩ := hme
  obtain ⟨hat, hmk⟩ := hcp
  dsimp only at hat hmk
  dsimp only [Cpy.cells] at g16
  have haw : ∀ b, b < lo → away oa b ∧ away ha b := fun b hb => by
    obtain ⟨cs, h1, h2, -⟩ := hi
    exact ⟨h1.away_lt hb, h2.away_lt hb⟩
  have haf : ∀ b, H.length ≤ b → away oa b ∧ away ha b := fun b hb => by
    obtain ⟨cs, h1, h2, -⟩ := hi
    exact ⟨fun x e => by have := (h1.lt x e).2; omega, fun x e => by have := (h2.lt x e).2; omega⟩
  have fin0 : Hid _ := fun (A : Prop) (h : _ → _ → _ → _ → _ → _ → _ → A) => h hs hln hby hab hi haw haf
  clear hs hln hby hab hi haw haf
  have lb16 := lt_of_get g16
  by_cases k2 : kd = 2
  · have hbe : becomes ⟨kd, az, mk⟩ l = some (P3.corr l az mk) := by unfold becomes; rw [if_neg (by show ¬ kd = 1; omega), if_pos k2]
    rw [hbe] at hf
    have htu := s_rturned (c := c') (o := o') (at_ := az) (mask := mk) (fin0 _ fun hs _ _ _ _ _ _ => hs) hn (fin0 _ fun _ hln _ _ _ _ _ => hln) hat hmk (fin0 _ fun _ _ hby _ _ _ _ => hby)
    have fh : Hid _ := fun (A : Prop) (h : _ → A) => h hf
    have ftu : Hid _ := fun (A : Prop) (h : _ → A) => h htu
    clear hf hbe htu
    subst k2
    repeat (with_reducible first|(first|refine pI1 ?_|refine pS1 ?_);intros|refine pA1 ?_|refine pX1 ?_|refine pB1 ?_|exact True.intro)
    refine outM_call (ftu _ fun h => h) ?_
    rintro _ H2 ⟨⟨ta, tO, rfl, hgr⟩, l2, x2⟩
    have g16' := (x2 b16 lb16).trans g16
    have hi2 : RInv lo H2 oa ha k k oo ho f := fin0 _ fun _ _ _ _ hi _ _ => hi.keepX l2 x2
    have f2 : Hid _ := fun (A : Prop) (h : _ → _ → _ → A) => h hgr x2 hi2
    clear hgr x2 hi2 g16
    cases is with
    | true =>
      have hf := fh _ fun h => h
      rw [if_pos rfl] at hf
      repeat (with_reducible first|(first|refine pI1 ?_|refine pS1 ?_);intros|refine pA1 ?_|refine pX1 ?_|refine pB1 ?_|exact True.intro)
      rename_i b7 H7 p7 g7 x7
      have hi7 : RInv lo H7 oa ha k k oo ho f := (f2 _ fun _ _ h => h).keepX (by omega) fun b hb => x7 b (by omega)
      have fx7 : Hid _ := fun (A : Prop) (h : _ → A) => h x7
      clear x7
      refine outM_pushO hi7 (by omega) g7 (by rw [hf]; exact ⟨ta, n, tO, by rw [P3.corr_len, fin0 _ fun _ hln _ _ _ _ _ => hln], by rw [P3.corr_len, fin0 _ fun _ hln _ _ _ _ _ => hln]; exact f2 _ fun hgr _ _ => hgr.sl.keep fun b y e => fx7 _ fun h => h b (by have := (hgr.lt _ e).2; omega), P3.corr_by (fin0 _ fun _ _ hby _ _ _ _ => hby) _ _⟩) (fun b y n c o e => by
        injection e with e1 _ _ _
        have hb := f2 _ fun hgr _ _ => hgr.lt _ e1
        exact ⟨by have := hb.2; simp only at this; omega, fin0 _ fun _ _ _ _ _ _ haf => haf b hb.1⟩) hk ?_
      intro oa' H8 hi8 l8 x8
      have f8 : Hid _ := fun (A : Prop) (h : _ → _ → A) => h hi8 x8
      clear hi8 x8 hi7 g7
      repeat (with_reducible first|(first|refine pI1 ?_|refine pS1 ?_);intros|refine pA1 ?_|refine pX1 ?_|refine pB1 ?_|exact True.intro)
      rename_i b9 H9 p9 g9 x9
      have hi9 : RInv lo H9 oa' ha (k + 1) k true ho f := f8 _ fun h _ => h.keepX (by omega) fun b hb => x9 b (by omega)
      have fx9 : Hid _ := fun (A : Prop) (h : _ → A) => h x9
      clear x9
      refine outM_pushH hi9 (by omega) g9 (by rw [hf]; rfl) hk ?_
      intro ha' Ha hia la xa
      have fa : Hid _ := fun (A : Prop) (h : _ → _ → A) => h hia xa
      clear hia xa hi9 g9
      repeat (with_reducible first|(first|refine pI1 ?_|refine pS1 ?_);intros|refine pA1 ?_|refine pX1 ?_|refine pB1 ?_|exact True.intro)
      refine ⟨rfl, _, Ha, oa', ha', rfl, ⟨zf, zf, zf, zf, zf, zf⟩, zf, zf, by omega, fun b hb => ?_, fa _ fun h _ => h⟩
      rw [fa _ fun _ h => h b hb, fx9 _ fun h => h b (by omega), f8 _ fun _ h => h b hb, fx7 _ fun h => h b (by omega)]
      rw [f2 _ fun _ h _ => h b (by omega)]
    | false =>
      have hf := fh _ fun h => h
      rw [if_neg (by decide)] at hf
      repeat (with_reducible first|(first|refine pI1 ?_|refine pS1 ?_);intros|refine pA1 ?_|refine pX1 ?_|refine pB1 ?_|exact True.intro)
      rename_i b7 H7 p7 g7 x7
      have hi7 : RInv lo H7 oa ha k k oo ho f := (f2 _ fun _ _ h => h).keepX (by omega) fun b hb => x7 b (by omega)
      have fx7 : Hid _ := fun (A : Prop) (h : _ → A) => h x7
      clear x7
      refine outM_pushO hi7 (by omega) g7 (by rw [hf]; rfl) (fun b y n c o e => by injection e with e1 _ _ _; cases e1) hk ?_
      intro oa' H8 hi8 l8 x8
      have f8 : Hid _ := fun (A : Prop) (h : _ → _ → A) => h hi8 x8
      clear hi8 x8 hi7 g7
      repeat (with_reducible first|(first|refine pI1 ?_|refine pS1 ?_);intros|refine pA1 ?_|refine pX1 ?_|refine pB1 ?_|exact True.intro)
      rename_i b9 H9 p9 g9 x9
      have hi9 : RInv lo H9 oa' ha (k + 1) k true ho f := f8 _ fun h _ => h.keepX (by omega) fun b hb => x9 b (by omega)
      have fx9 : Hid _ := fun (A : Prop) (h : _ → A) => h x9
      clear x9
      refine outM_pushH hi9 (by omega) g9 (by rw [hf]; rfl) hk ?_
      intro ha' Ha hia la xa
      have fa : Hid _ := fun (A : Prop) (h : _ → _ → A) => h hia xa
      clear hia xa hi9 g9
      repeat (with_reducible first|(first|refine pI1 ?_|refine pS1 ?_);intros|refine pA1 ?_|refine pX1 ?_|refine pB1 ?_|exact True.intro)
      refine ⟨rfl, _, Ha, oa', ha', rfl, ⟨zf, zf, zf, zf, zf, zf⟩, zf, zf, by omega, fun b hb => ?_, fa _ fun h _ => h⟩
      rw [fa _ fun _ h => h b hb, fx9 _ fun h => h b (by omega), f8 _ fun _ h => h b hb, fx7 _ fun h => h b (by omega)]
      rw [f2 _ fun _ h _ => h b (by omega)]
  · cases is with
    | false =>
      rw [if_neg (by decide)] at hf
      have fh : Hid _ := fun (A : Prop) (h : _ → A) => h hf
      clear hf
      have hf := fh _ fun h => h
      repeat (with_reducible first|(first|refine pI1 ?_|refine pS1 ?_);intros|refine pA1 ?_|refine pX1 ?_|refine pB1 ?_|exact True.intro)
      rename_i b7 H7 p7 g7 x7
      have hi7 : RInv lo H7 oa ha k k oo ho f := (fin0 _ fun _ _ _ _ h _ _ => h).keepX (by omega) fun b hb => x7 b (by omega)
      have fx7 : Hid _ := fun (A : Prop) (h : _ → A) => h x7
      clear x7
      refine outM_pushO hi7 (by omega) g7 (by rw [hf]; rfl) (fun b y n c o e => by injection e with e1 _ _ _; cases e1) hk ?_
      intro oa' H8 hi8 l8 x8
      have f8 : Hid _ := fun (A : Prop) (h : _ → _ → A) => h hi8 x8
      clear hi8 x8 hi7 g7
      repeat (with_reducible first|(first|refine pI1 ?_|refine pS1 ?_);intros|refine pA1 ?_|refine pX1 ?_|refine pB1 ?_|exact True.intro)
      rename_i b9 H9 p9 g9 x9
      have hi9 : RInv lo H9 oa' ha (k + 1) k true ho f := f8 _ fun h _ => h.keepX (by omega) fun b hb => x9 b (by omega)
      have fx9 : Hid _ := fun (A : Prop) (h : _ → A) => h x9
      clear x9
      refine outM_pushH hi9 (by omega) g9 (by rw [hf]; rfl) hk ?_
      intro ha' Ha hia la xa
      have fa : Hid _ := fun (A : Prop) (h : _ → _ → A) => h hia xa
      clear hia xa hi9 g9
      repeat (with_reducible first|(first|refine pI1 ?_|refine pS1 ?_);intros|refine pA1 ?_|refine pX1 ?_|refine pB1 ?_|exact True.intro)
      refine ⟨rfl, _, Ha, oa', ha', rfl, ⟨zf, zf, zf, zf, zf, zf⟩, zf, zf, by omega, fun b hb => ?_, fa _ fun h _ => h⟩
      rw [fa _ fun _ h => h b hb, fx9 _ fun h => h b (by omega), f8 _ fun _ h => h b hb, fx7 _ fun h => h b (by omega)]
    | true =>
      rw [if_pos rfl] at hf
      by_cases k1 : kd = 1
      · have hbe : becomes ⟨kd, az, mk⟩ l = none := by unfold becomes; rw [if_pos k1]
        rw [hbe] at hf
        clear hbe
        subst k1
        repeat (with_reducible first|(first|refine pI1 ?_|refine pS1 ?_);intros|refine pA1 ?_|refine pX1 ?_|refine pB1 ?_|exact True.intro)
        rename_i b7 H7 p7 g7 x7
        have hi7 : RInv lo H7 oa ha k k oo ho f := (fin0 _ fun _ _ _ _ h _ _ => h).keepX (by omega) fun b hb => x7 b (by omega)
        have fx7 : Hid _ := fun (A : Prop) (h : _ → A) => h x7
        clear x7
        refine outM_pushO hi7 (by omega) g7 (by rw [hf]; rfl) (fun b y n c o e => by injection e with e1 _ _ _; cases e1) hk ?_
        intro oa' H8 hi8 l8 x8
        have f8 : Hid _ := fun (A : Prop) (h : _ → _ → A) => h hi8 x8
        clear hi8 x8 hi7 g7
        repeat (with_reducible first|(first|refine pI1 ?_|refine pS1 ?_);intros|refine pA1 ?_|refine pX1 ?_|refine pB1 ?_|exact True.intro)
        rename_i b9 H9 p9 g9 x9
        have hi9 : RInv lo H9 oa' ha (k + 1) k true ho f := f8 _ fun h _ => h.keepX (by omega) fun b hb => x9 b (by omega)
        have fx9 : Hid _ := fun (A : Prop) (h : _ → A) => h x9
        clear x9
        refine outM_pushH hi9 (by omega) g9 (by rw [hf]; rfl) hk ?_
        intro ha' Ha hia la xa
        have fa : Hid _ := fun (A : Prop) (h : _ → _ → A) => h hia xa
        clear hia xa hi9 g9
        repeat (with_reducible first|(first|refine pI1 ?_|refine pS1 ?_);intros|refine pA1 ?_|refine pX1 ?_|refine pB1 ?_|exact True.intro)
        refine ⟨rfl, _, Ha, oa', ha', rfl, ⟨zf, zf, zf, zf, zf, zf⟩, zf, zf, by omega, fun b hb => ?_, fa _ fun h _ => h⟩
        rw [fa _ fun _ h => h b hb, fx9 _ fun h => h b (by omega), f8 _ fun _ h => h b hb, fx7 _ fun h => h b (by omega)]
      · have hbe : becomes ⟨kd, az, mk⟩ l = some l := by unfold becomes; rw [if_neg k1, if_neg k2]
        rw [hbe] at hf
        clear hbe
        repeat (with_reducible first|(first|refine pI1 ?_|refine pS1 ?_);intros|refine pA1 ?_|refine pX1 ?_|refine pB1 ?_|exact True.intro)
        rename_i b7 H7 p7 g7 x7
        have hi7 : RInv lo H7 oa ha k k oo ho f := (fin0 _ fun _ _ _ _ h _ _ => h).keepX (by omega) fun b hb => x7 b (by omega)
        have fx7 : Hid _ := fun (A : Prop) (h : _ → A) => h x7
        clear x7
        refine outM_pushO hi7 (by omega) g7 (by rw [hf]; exact ⟨a', c', o', by rw [fin0 _ fun _ hln _ _ _ _ _ => hln], by rw [fin0 _ fun _ hln _ _ _ _ _ => hln]; exact fin0 _ fun hs _ _ hab _ _ _ => hs.keep fun b y e => fx7 _ fun h => h b (by have := hab b y e; omega), fin0 _ fun _ _ hby _ _ _ _ => hby⟩) (fun b y n c o e => by
          injection e with e1 _ _ _
          have hb := fin0 _ fun _ _ _ hab _ _ _ => hab b y e1
          exact ⟨by omega, fin0 _ fun _ _ _ _ _ haw _ => haw b hb⟩) hk ?_
        intro oa' H8 hi8 l8 x8
        have f8 : Hid _ := fun (A : Prop) (h : _ → _ → A) => h hi8 x8
        clear hi8 x8 hi7 g7
        repeat (with_reducible first|(first|refine pI1 ?_|refine pS1 ?_);intros|refine pA1 ?_|refine pX1 ?_|refine pB1 ?_|exact True.intro)
        rename_i b9 H9 p9 g9 x9
        have hi9 : RInv lo H9 oa' ha (k + 1) k true ho f := f8 _ fun h _ => h.keepX (by omega) fun b hb => x9 b (by omega)
        have fx9 : Hid _ := fun (A : Prop) (h : _ → A) => h x9
        clear x9
        refine outM_pushH hi9 (by omega) g9 (by rw [hf]; rfl) hk ?_
        intro ha' Ha hia la xa
        have fa : Hid _ := fun (A : Prop) (h : _ → _ → A) => h hia xa
        clear hia xa hi9 g9
        repeat (with_reducible first|(first|refine pI1 ?_|refine pS1 ?_);intros|refine pA1 ?_|refine pX1 ?_|refine pB1 ?_|exact True.intro)
        refine ⟨rfl, _, Ha, oa', ha', rfl, ⟨zf, zf, zf, zf, zf, zf⟩, zf, zf, by omega, fun b hb => ?_, fa _ fun h _ => h⟩
        rw [fa _ fun _ h => h b hb, fx9 _ fun h => h b (by omega), f8 _ fun _ h => h b hb, fx7 _ fun h => h b (by omega)]
end Go.Proofs.Ytbgmbnikpjjmcaa.AM.D07
