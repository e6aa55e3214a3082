/- The law VoteRight answers true for every input, and its arguments read behind the call as they read before; no condition. -/
import Derived.Test.YtcjonjncekcfhaaA3
import Derived.Test.YtcjonjncekcfhaaIRD22
import Derived.Test.YtcjonjncekcfhaaD22l
import Derived.Test.YtcjonjncekcfhaaRows
set_option linter.unusedVariables false
set_option linter.unusedSimpArgs false
set_option linter.unusedSectionVars false
namespace Go.Proofs.Ytcjonjncekcfhaa.AM.D22
open Go Go.Proofs.Ytcjonjncekcfhaa.AM Go.Proofs Go.Proofs.Ytcjonjncekcfhaa
open Go.ChangeShapes Go.WideShapes Go.ChangeAt Go.RowKit
set_option maxRecDepth 100000
theorem ok : OkL Try.prog (fun _ => none) fs :=
  ⟨⟨_, Try.func3, by kernel_rfl, by kernel_rfl⟩, ⟨_, Try.func4, by kernel_rfl, by kernel_rfl⟩, ⟨_, Try.func5, by kernel_rfl, by kernel_rfl⟩, ⟨_, Try.func6, by kernel_rfl, by kernel_rfl⟩, ⟨_, Try.func7, by kernel_rfl, by kernel_rfl⟩, ⟨_, Try.func9, by kernel_rfl, by kernel_rfl⟩, ⟨_, Try.func10, by kernel_rfl, by kernel_rfl⟩, ⟨_, Try.func11, by kernel_rfl, by kernel_rfl⟩, ⟨_, Try.func12, by kernel_rfl, by kernel_rfl⟩, ⟨_, Try.func13, by kernel_rfl, by kernel_rfl⟩, ⟨_, Try.func14, by kernel_rfl, by kernel_rfl⟩, ⟨_, Try.func15, by kernel_rfl, by kernel_rfl⟩, ⟨_, Try.func16, by kernel_rfl, by kernel_rfl⟩, ⟨_, Try.func17, by kernel_rfl, by kernel_rfl⟩, ⟨_, Try.func18, by kernel_rfl, by kernel_rfl⟩, ⟨_, Try.func19, by kernel_rfl, by kernel_rfl⟩, ⟨_, Try.func20, by kernel_rfl, by kernel_rfl⟩, ⟨_, Try.func21, by kernel_rfl, by kernel_rfl⟩, ⟨_, Try.func22, by kernel_rfl, by kernel_rfl⟩, ⟨_, Try.func23, by kernel_rfl, by kernel_rfl⟩, ⟨_, Try.func24, by kernel_rfl, by kernel_rfl⟩, ⟨_, Try.func25, by kernel_rfl, by kernel_rfl⟩, ⟨_, Try.func26, by kernel_rfl, by kernel_rfl⟩, ⟨_, Try.func27, by kernel_rfl, by kernel_rfl⟩, ⟨_, Try.func28, by kernel_rfl, by kernel_rfl⟩, ⟨_, Try.func29, by kernel_rfl, by kernel_rfl⟩, ⟨_, Try.func30, by kernel_rfl, by kernel_rfl⟩, ⟨_, Try.func31, by kernel_rfl, by kernel_rfl⟩, ⟨_, Try.func32, by kernel_rfl, by kernel_rfl⟩, ⟨_, Try.func34, by kernel_rfl, by kernel_rfl⟩, ⟨_, Try.func35, by kernel_rfl, by kernel_rfl⟩, ⟨_, Try.func36, by kernel_rfl, by kernel_rfl⟩, trivial⟩
def lays_ren : Go.Shelf.Ren := ⟨fun | 189 => 33 | 125 => 38 | 257 => 37 | 128 => 48 | 129 => 49 | 294 => 39 | 295 => 40 | 296 => 41 | 297 => 42 | 298 => 43 | 299 => 44 | 216 => 45 | 300 => 46 | 301 => 47 | 328 => 50 | 329 => 51 | 330 => 52 | 331 => 53 | 332 => 54 | 215 => 55 | 343 => 56 | n => n, fun | 28 => 22 | 3 => 3 | 46 => 43 | 0 => 0 | 51 => 66 | 53 => 49 | 4 => 4 | 183 => 61 | 182 => 60 | 131 => 23 | 5 => 5 | 9 => 9 | 218 => 68 | 222 => 72 | 228 => 74 | 229 => 31 | n => n, fun n => n⟩
theorem lays : Go.Proofs.Lays.n189 Try.prog lays_ren where
  mixed := by kernel_rfl
  f125 := Try.func38.trans (congrArg some (by kernel_rfl))
  f128 := Try.func48.trans (congrArg some (by kernel_rfl))
  f129 := Try.func49.trans (congrArg some (by kernel_rfl))
  f189 := Try.func33.trans (congrArg some (by kernel_rfl))
  f215 := Try.func55.trans (congrArg some (by kernel_rfl))
  f216 := Try.func45.trans (congrArg some (by kernel_rfl))
  f257 := Try.func37.trans (congrArg some (by kernel_rfl))
  f294 := Try.func39.trans (congrArg some (by kernel_rfl))
  f295 := Try.func40.trans (congrArg some (by kernel_rfl))
  f296 := Try.func41.trans (congrArg some (by kernel_rfl))
  f297 := Try.func42.trans (congrArg some (by kernel_rfl))
  f298 := Try.func43.trans (congrArg some (by kernel_rfl))
  f299 := Try.func44.trans (congrArg some (by kernel_rfl))
  f300 := Try.func46.trans (congrArg some (by kernel_rfl))
  f301 := Try.func47.trans (congrArg some (by kernel_rfl))
  f328 := Try.func50.trans (congrArg some (by kernel_rfl))
  f329 := Try.func51.trans (congrArg some (by kernel_rfl))
  f330 := Try.func52.trans (congrArg some (by kernel_rfl))
  f331 := Try.func53.trans (congrArg some (by kernel_rfl))
  f332 := Try.func54.trans (congrArg some (by kernel_rfl))
  f343 := Try.func56.trans (congrArg some (by kernel_rfl))
  t0 := Try.underlying0
  a0 := Try.isAgg0
  z0 := Try.sizeOf0
  v0 := Try.zeroValue0
  t3 := Try.underlying3
  a3 := Try.isAgg3
  z3 := Try.sizeOf3
  v3 := Try.zeroValue3
  t4 := Try.underlying4
  a4 := Try.isAgg4
  z4 := Try.sizeOf4
  v4 := Try.zeroValue4
  t5 := Try.underlying5
  a5 := Try.isAgg5
  z5 := Try.sizeOf5
  v5 := Try.zeroValue5
  t9 := Try.underlying9
  a9 := Try.isAgg9
  z9 := Try.sizeOf9
  v9 := Try.zeroValue9
  t28 := Try.underlying22
  a28 := Try.isAgg22
  z28 := Try.sizeOf22
  v28 := Try.zeroValue22
  t46 := Try.underlying43
  a46 := Try.isAgg43
  z46 := Try.sizeOf43
  v46 := Try.zeroValue43
  t51 := Try.underlying66
  a51 := Try.isAgg66
  z51 := Try.sizeOf66
  v51 := Try.zeroValue66
  t53 := Try.underlying49
  a53 := Try.isAgg49
  z53 := Try.sizeOf49
  v53 := Try.zeroValue49
  t131 := Try.underlying23
  a131 := Try.isAgg23
  z131 := Try.sizeOf23
  v131 := Try.zeroValue23
  t182 := Try.underlying60
  a182 := Try.isAgg60
  z182 := Try.sizeOf60
  v182 := Try.zeroValue60
  t183 := Try.underlying61
  a183 := Try.isAgg61
  z183 := Try.sizeOf61
  v183 := Try.zeroValue61
  t218 := Try.underlying68
  a218 := Try.isAgg68
  z218 := Try.sizeOf68
  v218 := Try.zeroValue68
  t222 := Try.underlying72
  a222 := Try.isAgg72
  z222 := Try.sizeOf72
  v222 := Try.zeroValue72
  t228 := Try.underlying74
  a228 := Try.isAgg74
  z228 := Try.sizeOf74
  v228 := Try.zeroValue74
  t229 := Try.underlying31
  a229 := Try.isAgg31
  z229 := Try.sizeOf31
  v229 := Try.zeroValue31
theorem okX (base : Nat) : ∀ f g, X f = some g → ExtOk ⟨Try.prog, fun _ => none, F⟩ base f g := by
  intro f g h
  unfold X at h
  split at h
  · rename_i e
    subst e
    cases h
    exact sortX_ok (ρ := lays_ren) lays (enters_of Try.func33 (by kernel_rfl) rfl)
  cases h
theorem keepF : ExtKeep F := ExtKeep.funsX fun f g h => by
  unfold X at h
  split at h
  · cases h
    exact fun args H v H' e => sortX_keep e
  cases h
theorem own : ownKnob Try.prog.godebug = none := by kernel_rfl
theorem laidOut : laidOutB Try.prog = true := by kernel_rfl
theorem says : SaysTrue Rows.voteRightSpec Try.f6.params.size := ⟨rfl, fun H ds h => by
  match ds, h with
  | [_, _, _], _ => rfl⟩
theorem ty1 : tyOf Try.prog 9 22 = some (.sl (.int .i64)) := by kernel_rfl
theorem ty2 : tyOf Try.prog 9 22 = some (.sl (.int .i64)) := by kernel_rfl
theorem ty3 : tyOf Try.prog 9 3 = some (.int .i64) := by kernel_rfl
theorem walk {H : Type} {enc : TypeId × Value → H} (W : World) (args : Array Value) (ds : List (DataW H)) (p : List MemPlace) (hok : ∃ base, ∀ (j : Nat) t v, Try.f6.params[j]? = some t → args[j]? = some v → Value.okWide Try.prog W .any base t v)
    (hA : DataW.TrodAll enc Try.prog W 0 (fun _ => true) true Try.f6.params.toList args.toList ds p) :
    Calls Try.prog 6 args W fun e W' => e = .returned (.bool true) ∧ Below W.heap.size W W' := by
  obtain ⟨base, hok⟩ := hok
  rw [Try.params6] at hA hok
  obtain ⟨v1, vs1, d1, ds1, p1, q1, e1, -, -, h1, hA⟩ := trodAll_cons hA
  obtain ⟨v2, vs2, d2, ds2, p2, q2, e2, -, -, h2, hA⟩ := trodAll_cons hA
  obtain ⟨v3, vs3, d3, ds3, p3, q3, e3, -, -, h3, hA⟩ := trodAll_cons hA
  obtain ⟨e0, -, -⟩ := trodAll_nil hA
  have ha : args = #[v1, v2, v3] := by
    apply Array.toList_inj.1
    rw [e1, e2, e3, e0]
  subst ha
  have hR0 := Rel.start (⟨Try.prog, fun _ => none, F⟩ : Ctx) (fun _ => rfl) (fun _ => ⟨0, 0, 0⟩) W
  obtain ⟨m1, J1, x1, a1, hR1, l1, r1, w1⟩ := open1 (K := (⟨Try.prog, fun _ => none, F⟩ : Ctx)) ty1 ⟨base, hok 0 _ v1 rfl rfl⟩ (fun _ => rfl) h1 hR0
  obtain ⟨m2, J2, x2, a2, hR2, l2, r2, w2⟩ := open1 (K := (⟨Try.prog, fun _ => none, F⟩ : Ctx)) ty2 ⟨base, hok 1 _ v2 rfl rfl⟩ (fun _ => rfl) h2 hR1
  have w1 := w1.keep (ro_app (J := J2))
  have r1 := r1.later l2
  obtain ⟨m3, J3, x3, a3, hR3, l3, r3, w3⟩ := open1 (K := (⟨Try.prog, fun _ => none, F⟩ : Ctx)) ty3 ⟨base, hok 2 _ v3 rfl rfl⟩ (fun _ => rfl) h3 hR2
  have w1 := w1.keep (ro_app (J := J3))
  have r1 := r1.later l3
  have w2 := w2.keep (ro_app (J := J3))
  have r2 := r2.later l3
  exact law_calls (K := (⟨Try.prog, fun _ => none, F⟩ : Ctx)) (ok.okFX _ (okX _)) (right_wc _ ((((Begins.refl []).app J1).app J2).app J3) w1 w2 w3) hR3 (.cons r1 (.cons r2 (.cons r3 .nil)))
theorem lifted (os : Os) (started : os.Started) (H : Type) (enc : TypeId × Value → H) :
    ReturnsInHanded {} Try.checked os 6 .any (Rows.voteRightSpec.pre6 enc Try.prog Try.f6 Rows.voteRightRow.domain false) (Rows.voteRightSpec.post enc Try.prog Try.f6 false true false false) :=
  law_lifted (C := Try.checked) (tb := 4) own laidOut started (by kernel_rfl) Try.func6 (by kernel_rfl) says (by kernel_rfl) (show Try.prog.underlying _ = some .bool by kernel_rfl)
    (ChangeSpec.witness6 (enc := enc) (C := Try.checked) false ⟨#[], #[.slice none 0 0, .slice none 0 0, .int .i64 0], []⟩ 8 (by kernel_rfl) (by kernel_rfl) (by kernel_rfl) (by kernel_rfl))
    (fun W args ds p hok hA hsz => walk W args ds p hok hA)
theorem over : Rows.voteRightRow.holds Try.pinned (OpenSpec.ofChange Rows.voteRightSpec) :=
  OpenClaim.holds_of_wide 6 Try.f6 rfl rfl rfl rfl rfl rfl rfl ⟨rfl, rfl, rfl, rfl, rfl⟩ rfl rfl rfl rfl rfl (by kernel_rfl) Try.func6 (by kernel_rfl)
    (of_decide_eq_true (by kernel_rfl)) (by unfold Func.isWrapper; first | (rw [if_pos (by decide +kernel)]; kernel_rfl) | (rw [if_neg (by decide +kernel)]; exact ⟨rfl, rfl⟩))
    (fun os started H enc _ => lifted os started H enc)
theorem holds : Rows.VoteRightSaid := over
#print axioms holds
end Go.Proofs.Ytcjonjncekcfhaa.AM.D22
