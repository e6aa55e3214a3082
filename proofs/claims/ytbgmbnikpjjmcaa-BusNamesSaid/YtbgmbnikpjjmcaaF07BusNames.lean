/- The law BusNames answers true for every input, and its arguments read behind the call as they read before; no condition. -/
import Derived.Test.YtbgmbnikpjjmcaaA3
import Derived.Test.YtbgmbnikpjjmcaaIRF07
import Derived.Test.YtbgmbnikpjjmcaaF07n
import Derived.Test.YtbgmbnikpjjmcaaRows
set_option linter.unusedVariables false
set_option linter.unusedSimpArgs false
set_option linter.unusedSectionVars false
namespace Go.Proofs.Ytbgmbnikpjjmcaa.AM.F07
open Go Go.Proofs.Ytbgmbnikpjjmcaa.AM Go.Proofs Go.Proofs.Ytbgmbnikpjjmcaa
open Go.ChangeShapes Go.WideShapes Go.ChangeAt Go.RowKit
set_option maxRecDepth 100000
theorem ok : OkL Try.prog (fun _ => none) fs :=
  ⟨⟨_, Try.func3, by kernel_rfl, by kernel_rfl⟩, ⟨_, Try.func4, by kernel_rfl, by kernel_rfl⟩, ⟨_, Try.func5, by kernel_rfl, by kernel_rfl⟩, ⟨_, Try.func6, by kernel_rfl, by kernel_rfl⟩, ⟨_, Try.func7, by kernel_rfl, by kernel_rfl⟩, ⟨_, Try.func8, by kernel_rfl, by kernel_rfl⟩, ⟨_, Try.func9, by kernel_rfl, by kernel_rfl⟩, ⟨_, Try.func10, by kernel_rfl, by kernel_rfl⟩, ⟨_, Try.func11, by kernel_rfl, by kernel_rfl⟩, ⟨_, Try.func12, by kernel_rfl, by kernel_rfl⟩, ⟨_, Try.func13, by kernel_rfl, by kernel_rfl⟩, ⟨_, Try.func14, by kernel_rfl, by kernel_rfl⟩, ⟨_, Try.func15, by kernel_rfl, by kernel_rfl⟩, ⟨_, Try.func16, by kernel_rfl, by kernel_rfl⟩, ⟨_, Try.func17, by kernel_rfl, by kernel_rfl⟩, ⟨_, Try.func18, by kernel_rfl, by kernel_rfl⟩, ⟨_, Try.func19, by kernel_rfl, by kernel_rfl⟩, ⟨_, Try.func20, by kernel_rfl, by kernel_rfl⟩, ⟨_, Try.func21, by kernel_rfl, by kernel_rfl⟩, ⟨_, Try.func22, by kernel_rfl, by kernel_rfl⟩, ⟨_, Try.func23, by kernel_rfl, by kernel_rfl⟩, ⟨_, Try.func24, by kernel_rfl, by kernel_rfl⟩, ⟨_, Try.func25, by kernel_rfl, by kernel_rfl⟩, ⟨_, Try.func26, by kernel_rfl, by kernel_rfl⟩, ⟨_, Try.func27, by kernel_rfl, by kernel_rfl⟩, ⟨_, Try.func28, by kernel_rfl, by kernel_rfl⟩, ⟨_, Try.func29, by kernel_rfl, by kernel_rfl⟩, ⟨_, Try.func30, by kernel_rfl, by kernel_rfl⟩, ⟨_, Try.func31, by kernel_rfl, by kernel_rfl⟩, ⟨_, Try.func32, by kernel_rfl, by kernel_rfl⟩, ⟨_, Try.func33, by kernel_rfl, by kernel_rfl⟩, ⟨_, Try.func34, by kernel_rfl, by kernel_rfl⟩, ⟨_, Try.func35, by kernel_rfl, by kernel_rfl⟩, ⟨_, Try.func36, by kernel_rfl, by kernel_rfl⟩, ⟨_, Try.func37, by kernel_rfl, by kernel_rfl⟩, ⟨_, Try.func38, by kernel_rfl, by kernel_rfl⟩, ⟨_, Try.func39, by kernel_rfl, by kernel_rfl⟩, ⟨_, Try.func40, by kernel_rfl, by kernel_rfl⟩, ⟨_, Try.func41, by kernel_rfl, by kernel_rfl⟩, ⟨_, Try.func43, by kernel_rfl, by kernel_rfl⟩, ⟨_, Try.func44, by kernel_rfl, by kernel_rfl⟩, ⟨_, Try.func45, by kernel_rfl, by kernel_rfl⟩, ⟨_, Try.func46, by kernel_rfl, by kernel_rfl⟩, ⟨_, Try.func47, by kernel_rfl, by kernel_rfl⟩, ⟨_, Try.func48, by kernel_rfl, by kernel_rfl⟩, ⟨_, Try.func49, by kernel_rfl, by kernel_rfl⟩, ⟨_, Try.func50, by kernel_rfl, by kernel_rfl⟩, ⟨_, Try.func51, by kernel_rfl, by kernel_rfl⟩, ⟨_, Try.func52, by kernel_rfl, by kernel_rfl⟩, ⟨_, Try.func53, by kernel_rfl, by kernel_rfl⟩, ⟨_, Try.func55, by kernel_rfl, by kernel_rfl⟩, ⟨_, Try.func56, by kernel_rfl, by kernel_rfl⟩, ⟨_, Try.func57, by kernel_rfl, by kernel_rfl⟩, ⟨_, Try.func58, by kernel_rfl, by kernel_rfl⟩, ⟨_, Try.func59, by kernel_rfl, by kernel_rfl⟩, ⟨_, Try.func60, by kernel_rfl, by kernel_rfl⟩, ⟨_, Try.func61, by kernel_rfl, by kernel_rfl⟩, ⟨_, Try.func62, by kernel_rfl, by kernel_rfl⟩, ⟨_, Try.func63, by kernel_rfl, by kernel_rfl⟩, trivial⟩
theorem okX (base : Nat) : ∀ f g, X f = some g → ExtOk ⟨Try.prog, fun _ => none, F⟩ base f g := by
  intro f g h
  unfold X at h
  split at h
  · rename_i e
    subst e
    cases h
    exact loadX_ok Try.func42 (by kernel_rfl) (by kernel_rfl) (by kernel_rfl) (by kernel_rfl)
  split at h
  · rename_i e
    subst e
    cases h
    exact addX_ok Try.func54 (by kernel_rfl) (by kernel_rfl) (by kernel_rfl) (by kernel_rfl)
  cases h
theorem keepF : ExtKeep F := ExtKeep.funsX fun f g h => by
  unfold X at h
  split at h
  · cases h
    exact fun args H v H' e => loadX_keep e
  split at h
  · cases h
    exact fun args H v H' e => addX_keep e
  cases h
theorem own : ownKnob Try.prog.godebug = none := by kernel_rfl
theorem laidOut : laidOutB Try.prog = true := by kernel_rfl
theorem says : SaysTrue Rows.busNamesSpec Try.f4.params.size := ⟨rfl, fun H ds h => by
  have : ds = [] := List.length_eq_zero_iff.1 h
  subst this; rfl⟩
theorem walk {H : Type} {enc : TypeId × Value → H} (W : World) (args : Array Value) (ds : List (DataW H)) (p : List MemPlace) (hA : DataW.TrodAll enc Try.prog W 0 (fun _ => true) true Try.f4.params.toList args.toList ds p) :
    Calls Try.prog 4 args W fun e W' => e = .returned (.bool true) ∧ Below W.heap.size W W' := by
  rw [Try.params4] at hA
  obtain ⟨rfl, rfl, rfl⟩ := trodAll_none hA
  exact law_calls (K := ⟨Try.prog, fun _ => none, F⟩) (ok.okFX _ (okX _)) (WC_eval 300 names_run) (Rel.start _ (fun _ => rfl) (fun _ => ⟨0, 0, 0⟩) W) .nil
theorem lifted (os : Os) (started : os.Started) (H : Type) (enc : TypeId × Value → H) :
    ReturnsInHanded {} Try.checked os 4 .any (Rows.busNamesSpec.pre6 enc Try.prog Try.f4 Rows.busNamesRow.domain false) (Rows.busNamesSpec.post enc Try.prog Try.f4 false true false false) :=
  law_lifted (C := Try.checked) (tb := 4) own laidOut started (by kernel_rfl) Try.func4 (by kernel_rfl) says (by kernel_rfl) (show Try.prog.underlying _ = some .bool by kernel_rfl)
    (ChangeSpec.witness6 (enc := enc) (C := Try.checked) false ⟨#[], #[], []⟩ 8 (by kernel_rfl) (by kernel_rfl) (by kernel_rfl) (by kernel_rfl))
    (fun W args ds p hok hA hsz => walk W args ds p hA)
theorem over : Rows.busNamesRow.holds Try.pinned (OpenSpec.ofChange Rows.busNamesSpec) :=
  OpenClaim.holds_of_wide 4 Try.f4 rfl rfl rfl rfl rfl rfl rfl ⟨rfl, rfl, rfl, rfl, rfl⟩ rfl rfl rfl rfl rfl (by kernel_rfl) Try.func4 (by kernel_rfl)
    (of_decide_eq_true (by kernel_rfl)) (by unfold Func.isWrapper; first | (rw [if_pos (by decide +kernel)]; kernel_rfl) | (rw [if_neg (by decide +kernel)]; exact ⟨rfl, rfl⟩))
    (fun os started H enc _ => lifted os started H enc)
theorem holds : Rows.BusNamesSaid := over
#print axioms holds
end Go.Proofs.Ytbgmbnikpjjmcaa.AM.F07
