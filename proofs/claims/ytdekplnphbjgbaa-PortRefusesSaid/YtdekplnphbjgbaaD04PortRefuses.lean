/- The law PortRefuses answers true for every input, and its arguments read behind the call as they read before; no condition. -/
import Derived.Test.YtdekplnphbjgbaaA3
import Derived.Test.YtdekplnphbjgbaaIRD04
import Derived.Test.YtdekplnphbjgbaaD04u
import Derived.Test.YtdekplnphbjgbaaRows
set_option linter.unusedVariables false
set_option linter.unusedSimpArgs false
set_option linter.unusedSectionVars false
namespace Go.Proofs.Ytdekplnphbjgbaa.AM.D04
open Go Go.Proofs.Ytdekplnphbjgbaa.AM Go.Proofs Go.Proofs.Ytdekplnphbjgbaa
open Go.ChangeShapes Go.WideShapes Go.ChangeAt Go.RowKit
set_option maxRecDepth 100000
theorem ok : OkL Try.prog (fun _ => none) fs :=
  ⟨⟨_, Try.func3, by kernel_rfl, by kernel_rfl⟩, ⟨_, Try.func4, by kernel_rfl, by kernel_rfl⟩, ⟨_, Try.func5, by kernel_rfl, by kernel_rfl⟩, ⟨_, Try.func6, by kernel_rfl, by kernel_rfl⟩, ⟨_, Try.func7, by kernel_rfl, by kernel_rfl⟩, ⟨_, Try.func8, by kernel_rfl, by kernel_rfl⟩, ⟨_, Try.func9, by kernel_rfl, by kernel_rfl⟩, ⟨_, Try.func10, by kernel_rfl, by kernel_rfl⟩, ⟨_, Try.func11, by kernel_rfl, by kernel_rfl⟩, ⟨_, Try.func12, by kernel_rfl, by kernel_rfl⟩, ⟨_, Try.func13, by kernel_rfl, by kernel_rfl⟩, ⟨_, Try.func14, by kernel_rfl, by kernel_rfl⟩, ⟨_, Try.func15, by kernel_rfl, by kernel_rfl⟩, ⟨_, Try.func16, by kernel_rfl, by kernel_rfl⟩, ⟨_, Try.func17, by kernel_rfl, by kernel_rfl⟩, ⟨_, Try.func18, by kernel_rfl, by kernel_rfl⟩, ⟨_, Try.func19, by kernel_rfl, by kernel_rfl⟩, ⟨_, Try.func20, by kernel_rfl, by kernel_rfl⟩, ⟨_, Try.func21, by kernel_rfl, by kernel_rfl⟩, ⟨_, Try.func22, by kernel_rfl, by kernel_rfl⟩, ⟨_, Try.func23, by kernel_rfl, by kernel_rfl⟩, ⟨_, Try.func24, by kernel_rfl, by kernel_rfl⟩, ⟨_, Try.func25, by kernel_rfl, by kernel_rfl⟩, ⟨_, Try.func26, by kernel_rfl, by kernel_rfl⟩, ⟨_, Try.func27, by kernel_rfl, by kernel_rfl⟩, ⟨_, Try.func28, by kernel_rfl, by kernel_rfl⟩, ⟨_, Try.func29, by kernel_rfl, by kernel_rfl⟩, ⟨_, Try.func30, by kernel_rfl, by kernel_rfl⟩, ⟨_, Try.func31, by kernel_rfl, by kernel_rfl⟩, ⟨_, Try.func32, by kernel_rfl, by kernel_rfl⟩, ⟨_, Try.func33, by kernel_rfl, by kernel_rfl⟩, ⟨_, Try.func34, by kernel_rfl, by kernel_rfl⟩, ⟨_, Try.func35, by kernel_rfl, by kernel_rfl⟩, ⟨_, Try.func36, by kernel_rfl, by kernel_rfl⟩, ⟨_, Try.func37, by kernel_rfl, by kernel_rfl⟩, ⟨_, Try.func38, by kernel_rfl, by kernel_rfl⟩, ⟨_, Try.func39, by kernel_rfl, by kernel_rfl⟩, ⟨_, Try.func40, by kernel_rfl, by kernel_rfl⟩, ⟨_, Try.func41, by kernel_rfl, by kernel_rfl⟩, ⟨_, Try.func42, by kernel_rfl, by kernel_rfl⟩, ⟨_, Try.func43, by kernel_rfl, by kernel_rfl⟩, ⟨_, Try.func44, by kernel_rfl, by kernel_rfl⟩, ⟨_, Try.func45, by kernel_rfl, by kernel_rfl⟩, ⟨_, Try.func46, by kernel_rfl, by kernel_rfl⟩, ⟨_, Try.func47, by kernel_rfl, by kernel_rfl⟩, ⟨_, Try.func48, by kernel_rfl, by kernel_rfl⟩, trivial⟩
theorem own : ownKnob Try.prog.godebug = none := by kernel_rfl
theorem laidOut : laidOutB Try.prog = true := by kernel_rfl
theorem says : SaysTrue Rows.portRefusesSpec Try.f9.params.size := ⟨rfl, fun H ds h => by
  match ds, h with
  | [_, _, _], _ => rfl⟩
theorem ty1 : tyOf Try.prog 9 30 = some (.pair (.int .i64) (.pair (.int .i64) (.pair (.int .i64) (.pair (.int .i64) (.pair (.int .i64) (.pair (.int .i64) .unit)))))) := by kernel_rfl
theorem ty2 : tyOf Try.prog 9 46 = some (.sl (.pair (.int .i64) (.pair (.sl (.int .u8)) (.pair (.int .i64) .unit)))) := by kernel_rfl
theorem ty3 : tyOf Try.prog 9 56 = some (.pair (.int .i64) (.pair (.sl (.int .u8)) (.pair (.int .i64) .unit))) := by kernel_rfl
theorem walk {H : Type} {enc : TypeId × Value → H} (W : World) (args : Array Value) (ds : List (DataW H)) (p : List MemPlace) (hok : ∃ base, ∀ (j : Nat) t v, Try.f9.params[j]? = some t → args[j]? = some v → Value.okWide Try.prog W .any base t v)
    (hA : DataW.TrodAll enc Try.prog W 0 (fun _ => true) true Try.f9.params.toList args.toList ds p) :
    Calls Try.prog 9 args W fun e W' => e = .returned (.bool true) ∧ Below W.heap.size W W' := by
  obtain ⟨base, hok⟩ := hok
  rw [Try.params9] at hA hok
  obtain ⟨v1, vs1, d1, ds1, p1, q1, e1, -, -, h1, hA⟩ := trodAll_cons hA
  obtain ⟨v2, vs2, d2, ds2, p2, q2, e2, -, -, h2, hA⟩ := trodAll_cons hA
  obtain ⟨v3, vs3, d3, ds3, p3, q3, e3, -, -, h3, hA⟩ := trodAll_cons hA
  obtain ⟨e0, -, -⟩ := trodAll_nil hA
  have ha : args = #[v1, v2, v3] := by
    apply Array.toList_inj.1
    rw [e1, e2, e3, e0]
  subst ha
  have hR0 := Rel.start (⟨Try.prog, fun _ => none, F⟩ : Ctx) (fun _ => rfl) (fun _ => ⟨0, 0, 0⟩) W
  obtain ⟨m1, J1, x1, a1, hR1, l1, r1, w1⟩ := open1 (K := (⟨Try.prog, fun _ => none, F⟩ : Ctx)) ty1 ⟨base, hok 0 _ v1 rfl rfl⟩ (fun _ => rfl) h1 hR0
  obtain ⟨m2, J2, x2, a2, hR2, l2, r2, w2⟩ := open1 (K := (⟨Try.prog, fun _ => none, F⟩ : Ctx)) ty2 ⟨base, hok 1 _ v2 rfl rfl⟩ (fun _ => rfl) h2 hR1
  have w1 := w1.keep (ro_app (J := J2))
  have r1 := r1.later l2
  obtain ⟨m3, J3, x3, a3, hR3, l3, r3, w3⟩ := open1 (K := (⟨Try.prog, fun _ => none, F⟩ : Ctx)) ty3 ⟨base, hok 2 _ v3 rfl rfl⟩ (fun _ => rfl) h3 hR2
  have w1 := w1.keep (ro_app (J := J3))
  have r1 := r1.later l3
  have w2 := w2.keep (ro_app (J := J3))
  have r2 := r2.later l3
  exact law_calls (K := (⟨Try.prog, fun _ => none, F⟩ : Ctx)) (ok.okF _) (refuses_wc _ ((((Begins.refl []).app J1).app J2).app J3) w1 w2 w3) hR3 (.cons r1 (.cons r2 (.cons r3 .nil)))
theorem lifted (os : Os) (started : os.Started) (H : Type) (enc : TypeId × Value → H) :
    ReturnsInHanded {} Try.checked os 9 .any (Rows.portRefusesSpec.pre6 enc Try.prog Try.f9 Rows.portRefusesRow.domain false) (Rows.portRefusesSpec.post enc Try.prog Try.f9 false true false false) :=
  law_lifted (C := Try.checked) (tb := 4) own laidOut started (by kernel_rfl) Try.func9 (by kernel_rfl) says (by kernel_rfl) (show Try.prog.underlying _ = some .bool by kernel_rfl)
    (ChangeSpec.witness6 (enc := enc) (C := Try.checked) false ⟨#[], #[.agg #[.int .i64 0, .int .i64 0, .int .i64 0, .int .i64 0, .int .i64 0, .int .i64 0], .slice none 0 0, .agg #[.int .i64 0, .slice none 0 0, .int .i64 0]], []⟩ 8 (by kernel_rfl) (by kernel_rfl) (by kernel_rfl) (by kernel_rfl))
    (fun W args ds p hok hA hsz => walk W args ds p hok hA)
theorem over : Rows.portRefusesRow.holds Try.pinned (OpenSpec.ofChange Rows.portRefusesSpec) :=
  OpenClaim.holds_of_wide 9 Try.f9 rfl rfl rfl rfl rfl rfl rfl ⟨rfl, rfl, rfl, rfl, rfl⟩ rfl rfl rfl rfl rfl (by kernel_rfl) Try.func9 (by kernel_rfl)
    (of_decide_eq_true (by kernel_rfl)) (by unfold Func.isWrapper; first | (rw [if_pos (by decide +kernel)]; kernel_rfl) | (rw [if_neg (by decide +kernel)]; exact ⟨rfl, rfl⟩))
    (fun os started H enc _ => lifted os started H enc)
theorem holds : Rows.PortRefusesSaid := over
#print axioms holds
end Go.Proofs.Ytdekplnphbjgbaa.AM.D04
