/- Frames, plainly: what is accepted does not hang on the payload. -/
import Derived.Test.YtioeobdejeikmaaDoorP03c
set_option linter.unusedVariables false
set_option linter.unusedSimpArgs false
set_option linter.unusedSectionVars false

namespace Go.Proofs.YtioeobdejeikmaaDoor.AM.P3
open Go Go.Proofs.YtioeobdejeikmaaDoor.AM
def key (f : Fm) : Int × Int × Nat := (f.o, f.s, f.m)
theorem tell_head {a b : List Nat} (hl : a.length = b.length) (h : ∀ i, i < 7 → gx a i = gx b i) : (tell a).map key = (tell b).map key := by
  unfold tell
  rw [hl, h 0 (by decide), h 1 (by decide), h 2 (by decide), h 3 (by decide), h 4 (by decide), h 5 (by decide), h 6 (by decide)]
  split <;> rfl
theorem dec2 (l : List Nat) : (dec l).2 = match (tell l).map key with
    | none => 30
    | some _ => if okS l (mor 0 (l.take 71)) then 0 else 31 := by
  unfold dec
  cases tell l with
  | none => rfl
  | some f => simp only [Option.map_some]; split <;> rfl
theorem acc2 (l : List Nat) (o s : Int) (m : Nat) : (acc l o s m).2 = match (tell l).map key with
    | none => 30
    | some k => if okS l (mor (mor 0 (stBy s m)) ((l.drop 6).take 65)) then if k.1 = o ∧ k.2.1 = s ∧ k.2.2 = m then 0 else 30 else 31 := by
  unfold acc
  cases tell l with
  | none => rfl
  | some f =>
    simp only [Option.map_some, key]
    split
    · split <;> rfl
    · rfl
theorem gx_xl : ∀ {a e : List Nat} {i : Nat}, a.length = e.length → i < a.length → gx (xl a e) i = gx a i ^^^ gx e i
  | [], _, _, _, h => by simp at h
  | _ :: _, [], _, h, _ => by simp at h
  | u :: a, v :: e, 0, _, _ => rfl
  | u :: a, v :: e, i + 1, h, hi => gx_xl (a := a) (e := e) (i := i) (by simpa using h) (by simpa using hi)
theorem xl_assoc : ∀ (a b c : List Nat), xl (xl a b) c = xl a (xl b c)
  | [], _, _ => rfl
  | _ :: _, [], _ => rfl
  | _ :: _, _ :: _, [] => rfl
  | x :: a, y :: b, z :: c => by
    show (x ^^^ y ^^^ z) :: xl (xl a b) c = (x ^^^ (y ^^^ z)) :: xl a (xl b c)
    rw [xl_assoc a b c, Nat.xor_assoc]
theorem blind {f g : Fm} (hf : f.wf) (hg : g.wf) (of : encOk f) (og : encOk g) (h1 : f.o = g.o) (h2 : f.s = g.s) (h3 : f.m = g.m) {e : List Nat} (he : e.length = 75) (eb : ∀ x ∈ e, x < 256) :
    (acc (xl (enc f) e) f.o f.s f.m).2 = (acc (xl (enc g) e) f.o f.s f.m).2 ∧ (dec (xl (enc f) e)).2 = (dec (xl (enc g) e)).2 := by
  have lf := enc_len hf
  have lg := enc_len hg
  have ef := enc_cons f
  have eg := enc_cons g
  have hk : (tell (xl (enc f) e)).map key = (tell (xl (enc g) e)).map key := by
    refine tell_head (by rw [xl_len (lf.trans he.symm), xl_len (lg.trans he.symm), lf, lg]) fun i hi => ?_
    rw [gx_xl (lf.trans he.symm) (by omega), gx_xl (lg.trans he.symm) (by omega)]
    congr 1
    rw [ef, eg, h1, h2, h3]
    match i, hi with
    | 0, _ => rfl
    | 1, _ => rfl
    | 2, _ => rfl
    | 3, _ => rfl
    | 4, _ => rfl
    | 5, _ => rfl
    | 6, _ => rfl
  have mf : okS (enc f) (mor (mor 0 (stBy f.s f.m)) (((enc f).drop 6).take 65)) := by
    rw [enc_mid hf, mor_mor _ _ _ (lt_gx (stBy_by _ _ hf.m)), okS_enc hf (mor_lt _ _)]
    rw [encB]; simp
  have mg : okS (enc g) (mor (mor 0 (stBy f.s f.m)) (((enc g).drop 6).take 65)) := by
    rw [h2, h3, enc_mid hg, mor_mor _ _ _ (lt_gx (stBy_by _ _ hg.m)), okS_enc hg (mor_lt _ _)]
    rw [encB]; simp
  have df : okS (enc f) (mor 0 (((enc f).drop 0).take 71)) := by rw [List.drop_zero, enc_take71 hf]; exact (okS_enc hf (mor_lt _ _)).2 rfl
  have dg : okS (enc g) (mor 0 (((enc g).drop 0).take 71)) := by rw [List.drop_zero, enc_take71 hg]; exact (okS_enc hg (mor_lt _ _)).2 rfl
  have a1 := okS_xl lf he (enc_by hf of) eb mf
  have a2 := okS_xl lg he (enc_by hg og) eb mg
  have b1 := okS_xl lf he (enc_by hf of) eb df
  have b2 := okS_xl lg he (enc_by hg og) eb dg
  rw [List.drop_zero] at b1 b2
  constructor
  · rw [acc2, acc2, hk]
    cases (tell (xl (enc g) e)).map key with
    | none => rfl
    | some k => simp only [a1, a2]
  · rw [dec2, dec2, hk]
    cases (tell (xl (enc g) e)).map key with
    | none => rfl
    | some k => simp only [b1, b2]
end Go.Proofs.YtioeobdejeikmaaDoor.AM.P3
