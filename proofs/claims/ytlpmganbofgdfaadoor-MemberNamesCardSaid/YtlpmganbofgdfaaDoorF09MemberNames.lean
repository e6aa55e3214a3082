/- The law MemberNames answers true for every input, and its arguments read behind the call as they read before; no condition. -/
import Derived.Test.YtlpmganbofgdfaaDoorA3
import Derived.Test.YtlpmganbofgdfaaDoorIRF09
import Derived.Test.YtlpmganbofgdfaaDoorF09n
import Derived.Test.YtlpmganbofgdfaaDoorRows
import Derived.Test.YtlpmganbofgdfaaDoorCards
import Derived.Test.YtlpmganbofgdfaaDoorTie
import Derived.SevenTiedAt
import Derived.LaidMore
import Derived.OpenShut
set_option linter.unusedVariables false
set_option linter.unusedSimpArgs false
set_option linter.unusedSectionVars false
namespace Go.Proofs.YtlpmganbofgdfaaDoor.AM.F09
open Go Go.Proofs.YtlpmganbofgdfaaDoor.AM Go.Proofs Go.Proofs.YtlpmganbofgdfaaDoor
open Go.ChangeShapes Go.WideShapes Go.ChangeAt Go.RowKit
set_option maxRecDepth 100000
def G : Nat → Option Nat := fun g => if g = 0 then some 0 else none
theorem ok : OkL Tryd.prog (fun g => if g = 0 then some 0 else none) fs :=
  ⟨⟨_, Tryd.func3, by kernel_rfl, by kernel_rfl⟩, ⟨_, Tryd.func4, by kernel_rfl, by kernel_rfl⟩, ⟨_, Tryd.func5, by kernel_rfl, by kernel_rfl⟩, ⟨_, Tryd.func6, by kernel_rfl, by kernel_rfl⟩, ⟨_, Tryd.func7, by kernel_rfl, by kernel_rfl⟩, ⟨_, Tryd.func8, by kernel_rfl, by kernel_rfl⟩, ⟨_, Tryd.func9, by kernel_rfl, by kernel_rfl⟩, ⟨_, Tryd.func10, by kernel_rfl, by kernel_rfl⟩, ⟨_, Tryd.func11, by kernel_rfl, by kernel_rfl⟩, ⟨_, Tryd.func12, by kernel_rfl, by kernel_rfl⟩, ⟨_, Tryd.func13, by kernel_rfl, by kernel_rfl⟩, ⟨_, Tryd.func14, by kernel_rfl, by kernel_rfl⟩, ⟨_, Tryd.func15, by kernel_rfl, by kernel_rfl⟩, ⟨_, Tryd.func16, by kernel_rfl, by kernel_rfl⟩, ⟨_, Tryd.func17, by kernel_rfl, by kernel_rfl⟩, ⟨_, Tryd.func18, by kernel_rfl, by kernel_rfl⟩, ⟨_, Tryd.func19, by kernel_rfl, by kernel_rfl⟩, ⟨_, Tryd.func20, by kernel_rfl, by kernel_rfl⟩, ⟨_, Tryd.func21, by kernel_rfl, by kernel_rfl⟩, ⟨_, Tryd.func22, by kernel_rfl, by kernel_rfl⟩, ⟨_, Tryd.func23, by kernel_rfl, by kernel_rfl⟩, ⟨_, Tryd.func24, by kernel_rfl, by kernel_rfl⟩, ⟨_, Tryd.func25, by kernel_rfl, by kernel_rfl⟩, ⟨_, Tryd.func26, by kernel_rfl, by kernel_rfl⟩, ⟨_, Tryd.func27, by kernel_rfl, by kernel_rfl⟩, ⟨_, Tryd.func28, by kernel_rfl, by kernel_rfl⟩, ⟨_, Tryd.func29, by kernel_rfl, by kernel_rfl⟩, ⟨_, Tryd.func30, by kernel_rfl, by kernel_rfl⟩, ⟨_, Tryd.func31, by kernel_rfl, by kernel_rfl⟩, ⟨_, Tryd.func32, by kernel_rfl, by kernel_rfl⟩, ⟨_, Tryd.func33, by kernel_rfl, by kernel_rfl⟩, ⟨_, Tryd.func34, by kernel_rfl, by kernel_rfl⟩, ⟨_, Tryd.func35, by kernel_rfl, by kernel_rfl⟩, ⟨_, Tryd.func36, by kernel_rfl, by kernel_rfl⟩, ⟨_, Tryd.func37, by kernel_rfl, by kernel_rfl⟩, ⟨_, Tryd.func38, by kernel_rfl, by kernel_rfl⟩, ⟨_, Tryd.func39, by kernel_rfl, by kernel_rfl⟩, ⟨_, Tryd.func40, by kernel_rfl, by kernel_rfl⟩, ⟨_, Tryd.func41, by kernel_rfl, by kernel_rfl⟩, ⟨_, Tryd.func42, by kernel_rfl, by kernel_rfl⟩, ⟨_, Tryd.func43, by kernel_rfl, by kernel_rfl⟩, ⟨_, Tryd.func44, by kernel_rfl, by kernel_rfl⟩, ⟨_, Tryd.func45, by kernel_rfl, by kernel_rfl⟩, ⟨_, Tryd.func46, by kernel_rfl, by kernel_rfl⟩, ⟨_, Tryd.func47, by kernel_rfl, by kernel_rfl⟩, ⟨_, Tryd.func48, by kernel_rfl, by kernel_rfl⟩, ⟨_, Tryd.func49, by kernel_rfl, by kernel_rfl⟩, ⟨_, Tryd.func50, by kernel_rfl, by kernel_rfl⟩, ⟨_, Tryd.func51, by kernel_rfl, by kernel_rfl⟩, ⟨_, Tryd.func52, by kernel_rfl, by kernel_rfl⟩, ⟨_, Tryd.func53, by kernel_rfl, by kernel_rfl⟩, ⟨_, Tryd.func54, by kernel_rfl, by kernel_rfl⟩, ⟨_, Tryd.func55, by kernel_rfl, by kernel_rfl⟩, ⟨_, Tryd.func56, by kernel_rfl, by kernel_rfl⟩, ⟨_, Tryd.func57, by kernel_rfl, by kernel_rfl⟩, ⟨_, Tryd.func58, by kernel_rfl, by kernel_rfl⟩, ⟨_, Tryd.func59, by kernel_rfl, by kernel_rfl⟩, ⟨_, Tryd.func60, by kernel_rfl, by kernel_rfl⟩, ⟨_, Tryd.func61, by kernel_rfl, by kernel_rfl⟩, ⟨_, Tryd.func62, by kernel_rfl, by kernel_rfl⟩, ⟨_, Tryd.func63, by kernel_rfl, by kernel_rfl⟩, ⟨_, Tryd.func64, by kernel_rfl, by kernel_rfl⟩, ⟨_, Tryd.func65, by kernel_rfl, by kernel_rfl⟩, ⟨_, Tryd.func66, by kernel_rfl, by kernel_rfl⟩, ⟨_, Tryd.func67, by kernel_rfl, by kernel_rfl⟩, ⟨_, Tryd.func68, by kernel_rfl, by kernel_rfl⟩, ⟨_, Tryd.func69, by kernel_rfl, by kernel_rfl⟩, ⟨_, Tryd.func70, by kernel_rfl, by kernel_rfl⟩, ⟨_, Tryd.func71, by kernel_rfl, by kernel_rfl⟩, ⟨_, Tryd.func72, by kernel_rfl, by kernel_rfl⟩, ⟨_, Tryd.func73, by kernel_rfl, by kernel_rfl⟩, ⟨_, Tryd.func74, by kernel_rfl, by kernel_rfl⟩, ⟨_, Tryd.func75, by kernel_rfl, by kernel_rfl⟩, ⟨_, Tryd.func76, by kernel_rfl, by kernel_rfl⟩, ⟨_, Tryd.func77, by kernel_rfl, by kernel_rfl⟩, ⟨_, Tryd.func78, by kernel_rfl, by kernel_rfl⟩, ⟨_, Tryd.func79, by kernel_rfl, by kernel_rfl⟩, ⟨_, Tryd.func80, by kernel_rfl, by kernel_rfl⟩, ⟨_, Tryd.func81, by kernel_rfl, by kernel_rfl⟩, ⟨_, Tryd.func82, by kernel_rfl, by kernel_rfl⟩, ⟨_, Tryd.func83, by kernel_rfl, by kernel_rfl⟩, ⟨_, Tryd.func84, by kernel_rfl, by kernel_rfl⟩, ⟨_, Tryd.func85, by kernel_rfl, by kernel_rfl⟩, ⟨_, Tryd.func86, by kernel_rfl, by kernel_rfl⟩, ⟨_, Tryd.func87, by kernel_rfl, by kernel_rfl⟩, ⟨_, Tryd.func88, by kernel_rfl, by kernel_rfl⟩, ⟨_, Tryd.func89, by kernel_rfl, by kernel_rfl⟩, ⟨_, Tryd.func90, by kernel_rfl, by kernel_rfl⟩, ⟨_, Tryd.func91, by kernel_rfl, by kernel_rfl⟩, ⟨_, Tryd.func92, by kernel_rfl, by kernel_rfl⟩, ⟨_, Tryd.func93, by kernel_rfl, by kernel_rfl⟩, ⟨_, Tryd.func94, by kernel_rfl, by kernel_rfl⟩, ⟨_, Tryd.func95, by kernel_rfl, by kernel_rfl⟩, ⟨_, Tryd.func96, by kernel_rfl, by kernel_rfl⟩, ⟨_, Tryd.func97, by kernel_rfl, by kernel_rfl⟩, ⟨_, Tryd.func98, by kernel_rfl, by kernel_rfl⟩, ⟨_, Tryd.func99, by kernel_rfl, by kernel_rfl⟩, ⟨_, Tryd.func100, by kernel_rfl, by kernel_rfl⟩, trivial⟩
theorem own : ownKnob Tryd.prog.godebug = none := by kernel_rfl
theorem laidOut : laidOutB Tryd.prog = true := by kernel_rfl
/-- The tables, as memory holds them. -/
def tbs : List (Nat × IntKind × List Int) := [(0, .u32, nib)]
theorem laid_start {w : World} (h : laidMetH Tryd.prog Rows.memberNamesRow.laid w) (F : FuncId → Option Fun) : ∃ m, Rel ⟨Tryd.prog, G, F⟩ m w.heap.size (tabs tbs) w := by
  rw [MakeChecks.laidMetH_plain _ _ _ (by kernel_rfl)] at h
  obtain ⟨ps, hv, _, _⟩ := h
  obtain ⟨t0, ps0, hv⟩ := laid_ints (k := .u32) (zs := nib) hv (by rfl) (show Tryd.prog.globalNamed "rota/sum.nibbles" = some 0 by kernel_rfl) (show (Tryd.prog.globals[0]?).map (·.type) = some 124 by kernel_rfl) Tryd.underlying124 Tryd.underlying93 (by kernel_rfl)
  refine Rel.tables ⟨Tryd.prog, G, F⟩ tbs ?_ ?_
  · intro p hp
    simp only [tbs, List.mem_cons, List.not_mem_nil, or_false] at hp
    obtain rfl := hp
    · exact t0
  · intro g b e
    simp only [G] at e
    split at e
    · cases e; exact ⟨_, rfl, by simp_all⟩
    cases e
theorem says : SaysTrue Rows.memberNamesSpec Tryd.f7.params.size := ⟨rfl, fun H ds h => by
  have : ds = [] := List.length_eq_zero_iff.1 h
  subst this; rfl⟩
theorem walk {H : Type} {enc : TypeId × Value → H} (W : World) (args : Array Value) (ds : List (DataW H)) (p : List MemPlace) (hL : laidMetH Tryd.prog Rows.memberNamesRow.laid W) (hA : DataW.TrodAll enc Tryd.prog W 0 (fun _ => true) true Tryd.f7.params.toList args.toList ds p) :
    Calls Tryd.prog 7 args W fun e W' => e = .returned (.bool true) ∧ Below W.heap.size W W' := by
  rw [Tryd.params7] at hA
  obtain ⟨rfl, -⟩ := trodAll_none hA
  obtain ⟨m, hR⟩ := laid_start hL F
  exact law_calls (K := ⟨Tryd.prog, G, F⟩) (ok.okF _) (names_wc) hR .nil
theorem door_met (os : Os) (args : Array Value) : laidMetH Tryd.prog Rows.memberNamesRow.laid ((World.doorLaid Tryd.prog 400 os).forCall (fun _ _ => 0) ⟨#[], args, []⟩).memory :=
  laidMetH_of_parts3 (fuel := 8) (laidMet_of_run' 8 (by kernel_rfl) (by kernel_rfl)) (by kernel_rfl) (by kernel_rfl)
theorem lifted (os : Os) (started : os.Started) (H : Type) (enc : TypeId × Value → H) :
    ReturnsInHanded {} Tryd.checked os 7 .any (fun w args => (Rows.memberNamesSpec.pre enc Tryd.prog Tryd.f7 [] false w args ∧ laidMetH Tryd.prog Rows.memberNamesRow.laid w) ∧ sizedMet enc Tryd.prog Tryd.f7 (OpenSpec.ofChange Rows.memberNamesSpec) false w args) (Rows.memberNamesSpec.post enc Tryd.prog Tryd.f7 false true false false) :=
  law_lifted_laid (C := Tryd.checked) (tb := 4) own laidOut started (by kernel_rfl) Tryd.func7 (by kernel_rfl) says (by kernel_rfl) (show Tryd.prog.underlying _ = some .bool by kernel_rfl)
    (ChangeSpec.witness_shaped (enc := enc) (C := Tryd.checked) (os := os) (X := fun w _ => laidMetH Tryd.prog Rows.memberNamesRow.laid w) false (World.doorLaid Tryd.prog 400 os) (#[]) 8 rfl (World.shaped_of_RefB (by kernel_rfl) (by kernel_rfl)) (by kernel_rfl) (by kernel_rfl) (by kernel_rfl) (door_met os _))
    (fun W args ds p hL hok hA hsz => walk W args ds p hL hA)
theorem over : Rows.memberNamesRow.holds Tryd.pinned (OpenSpec.ofChange Rows.memberNamesSpec) :=
  OpenClaim.holds_of_wide 7 Tryd.f7 rfl rfl rfl rfl rfl rfl rfl ⟨rfl, rfl, rfl, rfl, rfl⟩ rfl rfl rfl rfl rfl (by kernel_rfl) Tryd.func7 (by kernel_rfl)
    (of_decide_eq_true (by kernel_rfl)) (by unfold Func.isWrapper; first | (rw [if_pos (by decide +kernel)]; kernel_rfl) | (rw [if_neg (by decide +kernel)]; exact ⟨rfl, rfl⟩))
    (fun os started H enc _ => lifted os started H enc)
theorem holds : Rows.MemberNamesCardSaid :=
  Claim7.holds_tied_plain_at .later [] [.data] true (true, "e02a602495e892627d8e0146501ebdd1ed3bed262eb30c2c69f8266cb3bb461a") false over (fun _ h => by cases h) (by kernel_rfl) (fun _ h => by cases h) memberNames_row_tie rfl ⟨rfl, rfl⟩ (by kernel_rfl) rfl
    (fun f fn hf hfn => by
      obtain rfl : f = 7 := Option.some.inj ((show Tryd.prog.funcNamed "rota/rotalaw09.MemberNames" = some 7 by kernel_rfl).symm.trans hf) |>.symm
      obtain rfl : fn = Tryd.f7 := (Option.some.inj (Tryd.func7.symm.trans hfn)).symm
      exact ⟨by kernel_rfl, fun j t ht => by
        have key : (Tryd.f7.params.toList.all fun t => !Tryd.prog.wantsStandIn t) = true := by kernel_rfl
        have := List.all_eq_true.1 key t (by simpa using (Array.mem_of_getElem? ht))
        exact (show Tryd.prog.wantsStandIn t = false by simpa using this)⟩)
    (by kernel_rfl)
#print axioms holds
end Go.Proofs.YtlpmganbofgdfaaDoor.AM.F09
