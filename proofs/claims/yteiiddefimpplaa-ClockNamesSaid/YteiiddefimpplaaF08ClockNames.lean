/- The law ClockNames answers true for every input, and its arguments read behind the call as they read before; no condition. -/
import Derived.Test.YteiiddefimpplaaA3
import Derived.Test.YteiiddefimpplaaIRF08
import Derived.Test.YteiiddefimpplaaF08n
import Derived.Test.YteiiddefimpplaaRows
set_option linter.unusedVariables false
set_option linter.unusedSimpArgs false
set_option linter.unusedSectionVars false
namespace Go.Proofs.Yteiiddefimpplaa.AM.F08
open Go Go.Proofs.Yteiiddefimpplaa.AM Go.Proofs Go.Proofs.Yteiiddefimpplaa
open Go.ChangeShapes Go.WideShapes Go.ChangeAt Go.RowKit
set_option maxRecDepth 100000
theorem ok : OkL Try.prog (fun _ => none) fs :=
  ⟨⟨_, Try.func3, by kernel_rfl, by kernel_rfl⟩, ⟨_, Try.func4, by kernel_rfl, by kernel_rfl⟩, ⟨_, Try.func5, by kernel_rfl, by kernel_rfl⟩, ⟨_, Try.func6, by kernel_rfl, by kernel_rfl⟩, ⟨_, Try.func7, by kernel_rfl, by kernel_rfl⟩, ⟨_, Try.func8, by kernel_rfl, by kernel_rfl⟩, ⟨_, Try.func9, by kernel_rfl, by kernel_rfl⟩, ⟨_, Try.func10, by kernel_rfl, by kernel_rfl⟩, ⟨_, Try.func11, by kernel_rfl, by kernel_rfl⟩, ⟨_, Try.func12, by kernel_rfl, by kernel_rfl⟩, ⟨_, Try.func13, by kernel_rfl, by kernel_rfl⟩, ⟨_, Try.func14, by kernel_rfl, by kernel_rfl⟩, ⟨_, Try.func15, by kernel_rfl, by kernel_rfl⟩, ⟨_, Try.func16, by kernel_rfl, by kernel_rfl⟩, ⟨_, Try.func17, by kernel_rfl, by kernel_rfl⟩, ⟨_, Try.func18, by kernel_rfl, by kernel_rfl⟩, ⟨_, Try.func19, by kernel_rfl, by kernel_rfl⟩, ⟨_, Try.func20, by kernel_rfl, by kernel_rfl⟩, ⟨_, Try.func21, by kernel_rfl, by kernel_rfl⟩, ⟨_, Try.func22, by kernel_rfl, by kernel_rfl⟩, ⟨_, Try.func23, by kernel_rfl, by kernel_rfl⟩, ⟨_, Try.func24, by kernel_rfl, by kernel_rfl⟩, ⟨_, Try.func25, by kernel_rfl, by kernel_rfl⟩, ⟨_, Try.func26, by kernel_rfl, by kernel_rfl⟩, ⟨_, Try.func27, by kernel_rfl, by kernel_rfl⟩, ⟨_, Try.func28, by kernel_rfl, by kernel_rfl⟩, ⟨_, Try.func29, by kernel_rfl, by kernel_rfl⟩, ⟨_, Try.func30, by kernel_rfl, by kernel_rfl⟩, ⟨_, Try.func31, by kernel_rfl, by kernel_rfl⟩, ⟨_, Try.func32, by kernel_rfl, by kernel_rfl⟩, ⟨_, Try.func33, by kernel_rfl, by kernel_rfl⟩, ⟨_, Try.func34, by kernel_rfl, by kernel_rfl⟩, ⟨_, Try.func35, by kernel_rfl, by kernel_rfl⟩, ⟨_, Try.func36, by kernel_rfl, by kernel_rfl⟩, ⟨_, Try.func37, by kernel_rfl, by kernel_rfl⟩, ⟨_, Try.func38, by kernel_rfl, by kernel_rfl⟩, ⟨_, Try.func39, by kernel_rfl, by kernel_rfl⟩, ⟨_, Try.func40, by kernel_rfl, by kernel_rfl⟩, ⟨_, Try.func41, by kernel_rfl, by kernel_rfl⟩, ⟨_, Try.func42, by kernel_rfl, by kernel_rfl⟩, ⟨_, Try.func43, by kernel_rfl, by kernel_rfl⟩, ⟨_, Try.func44, by kernel_rfl, by kernel_rfl⟩, ⟨_, Try.func45, by kernel_rfl, by kernel_rfl⟩, ⟨_, Try.func46, by kernel_rfl, by kernel_rfl⟩, ⟨_, Try.func47, by kernel_rfl, by kernel_rfl⟩, ⟨_, Try.func48, by kernel_rfl, by kernel_rfl⟩, ⟨_, Try.func49, by kernel_rfl, by kernel_rfl⟩, ⟨_, Try.func50, by kernel_rfl, by kernel_rfl⟩, ⟨_, Try.func51, by kernel_rfl, by kernel_rfl⟩, ⟨_, Try.func52, by kernel_rfl, by kernel_rfl⟩, ⟨_, Try.func53, by kernel_rfl, by kernel_rfl⟩, ⟨_, Try.func54, by kernel_rfl, by kernel_rfl⟩, ⟨_, Try.func55, by kernel_rfl, by kernel_rfl⟩, ⟨_, Try.func56, by kernel_rfl, by kernel_rfl⟩, ⟨_, Try.func57, by kernel_rfl, by kernel_rfl⟩, ⟨_, Try.func58, by kernel_rfl, by kernel_rfl⟩, ⟨_, Try.func59, by kernel_rfl, by kernel_rfl⟩, ⟨_, Try.func60, by kernel_rfl, by kernel_rfl⟩, ⟨_, Try.func61, by kernel_rfl, by kernel_rfl⟩, ⟨_, Try.func62, by kernel_rfl, by kernel_rfl⟩, ⟨_, Try.func63, by kernel_rfl, by kernel_rfl⟩, ⟨_, Try.func64, by kernel_rfl, by kernel_rfl⟩, ⟨_, Try.func65, by kernel_rfl, by kernel_rfl⟩, ⟨_, Try.func66, by kernel_rfl, by kernel_rfl⟩, ⟨_, Try.func67, by kernel_rfl, by kernel_rfl⟩, ⟨_, Try.func68, by kernel_rfl, by kernel_rfl⟩, ⟨_, Try.func69, by kernel_rfl, by kernel_rfl⟩, ⟨_, Try.func70, by kernel_rfl, by kernel_rfl⟩, ⟨_, Try.func71, by kernel_rfl, by kernel_rfl⟩, ⟨_, Try.func72, by kernel_rfl, by kernel_rfl⟩, ⟨_, Try.func73, by kernel_rfl, by kernel_rfl⟩, ⟨_, Try.func74, by kernel_rfl, by kernel_rfl⟩, ⟨_, Try.func75, by kernel_rfl, by kernel_rfl⟩, ⟨_, Try.func76, by kernel_rfl, by kernel_rfl⟩, ⟨_, Try.func77, by kernel_rfl, by kernel_rfl⟩, ⟨_, Try.func78, by kernel_rfl, by kernel_rfl⟩, ⟨_, Try.func79, by kernel_rfl, by kernel_rfl⟩, ⟨_, Try.func80, by kernel_rfl, by kernel_rfl⟩, ⟨_, Try.func81, by kernel_rfl, by kernel_rfl⟩, ⟨_, Try.func82, by kernel_rfl, by kernel_rfl⟩, ⟨_, Try.func83, by kernel_rfl, by kernel_rfl⟩, ⟨_, Try.func84, by kernel_rfl, by kernel_rfl⟩, ⟨_, Try.func85, by kernel_rfl, by kernel_rfl⟩, ⟨_, Try.func86, by kernel_rfl, by kernel_rfl⟩, trivial⟩
theorem own : ownKnob Try.prog.godebug = none := by kernel_rfl
theorem laidOut : laidOutB Try.prog = true := by kernel_rfl
theorem says : SaysTrue Rows.clockNamesSpec Try.f6.params.size := ⟨rfl, fun H ds h => by
  have : ds = [] := List.length_eq_zero_iff.1 h
  subst this; rfl⟩
theorem walk {H : Type} {enc : TypeId × Value → H} (W : World) (args : Array Value) (ds : List (DataW H)) (p : List MemPlace) (hA : DataW.TrodAll enc Try.prog W 0 (fun _ => true) true Try.f6.params.toList args.toList ds p) :
    Calls Try.prog 6 args W fun e W' => e = .returned (.bool true) ∧ Below W.heap.size W W' := by
  rw [Try.params6] at hA
  obtain ⟨rfl, rfl, rfl⟩ := trodAll_none hA
  exact law_calls (K := ⟨Try.prog, fun _ => none, F⟩) (ok.okF _) (WC_eval 300 names_run) (Rel.start _ (fun _ => rfl) (fun _ => ⟨0, 0, 0⟩) W) .nil
theorem lifted (os : Os) (started : os.Started) (H : Type) (enc : TypeId × Value → H) :
    ReturnsInHanded {} Try.checked os 6 .any (Rows.clockNamesSpec.pre6 enc Try.prog Try.f6 Rows.clockNamesRow.domain false) (Rows.clockNamesSpec.post enc Try.prog Try.f6 false true false false) :=
  law_lifted (C := Try.checked) (tb := 4) own laidOut started (by kernel_rfl) Try.func6 (by kernel_rfl) says (by kernel_rfl) (show Try.prog.underlying _ = some .bool by kernel_rfl)
    (ChangeSpec.witness6 (enc := enc) (C := Try.checked) false ⟨#[], #[], []⟩ 8 (by kernel_rfl) (by kernel_rfl) (by kernel_rfl) (by kernel_rfl))
    (fun W args ds p hok hA hsz => walk W args ds p hA)
theorem over : Rows.clockNamesRow.holds Try.pinned (OpenSpec.ofChange Rows.clockNamesSpec) :=
  OpenClaim.holds_of_wide 6 Try.f6 rfl rfl rfl rfl rfl rfl rfl ⟨rfl, rfl, rfl, rfl, rfl⟩ rfl rfl rfl rfl rfl (by kernel_rfl) Try.func6 (by kernel_rfl)
    (of_decide_eq_true (by kernel_rfl)) (by unfold Func.isWrapper; first | (rw [if_pos (by decide +kernel)]; kernel_rfl) | (rw [if_neg (by decide +kernel)]; exact ⟨rfl, rfl⟩))
    (fun os started H enc _ => lifted os started H enc)
theorem holds : Rows.ClockNamesSaid := over
#print axioms holds
end Go.Proofs.Yteiiddefimpplaa.AM.F08
