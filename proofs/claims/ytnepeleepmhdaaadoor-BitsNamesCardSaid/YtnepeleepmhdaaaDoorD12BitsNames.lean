/- The law BitsNames answers true for every input, and its arguments read behind the call as they read before; no condition. -/
import Derived.Test.YtnepeleepmhdaaaDoorA3
import Derived.Test.YtnepeleepmhdaaaDoorIRD12
import Derived.Test.YtnepeleepmhdaaaDoorD12w
import Derived.Test.YtnepeleepmhdaaaDoorRows
import Derived.Test.YtnepeleepmhdaaaDoorCards
import Derived.Test.YtnepeleepmhdaaaDoorTie
import Derived.SevenTiedAt
import Derived.LaidMore
import Derived.OpenShut
set_option linter.unusedVariables false
set_option linter.unusedSimpArgs false
set_option linter.unusedSectionVars false
namespace Go.Proofs.YtnepeleepmhdaaaDoor.AM.D12
open Go Go.Proofs.YtnepeleepmhdaaaDoor.AM Go.Proofs Go.Proofs.YtnepeleepmhdaaaDoor
open Go.ChangeShapes Go.WideShapes Go.ChangeAt Go.RowKit
set_option maxRecDepth 100000
def G : Nat → Option Nat := fun g => if g = 0 then some 0 else none
theorem ok : OkL Tryd.prog (fun g => if g = 0 then some 0 else none) fs :=
  ⟨⟨_, Tryd.func3, by kernel_rfl, by kernel_rfl⟩, ⟨_, Tryd.func4, by kernel_rfl, by kernel_rfl⟩, ⟨_, Tryd.func5, by kernel_rfl, by kernel_rfl⟩, ⟨_, Tryd.func6, by kernel_rfl, by kernel_rfl⟩, ⟨_, Tryd.func7, by kernel_rfl, by kernel_rfl⟩, ⟨_, Tryd.func8, by kernel_rfl, by kernel_rfl⟩, ⟨_, Tryd.func9, by kernel_rfl, by kernel_rfl⟩, ⟨_, Tryd.func10, by kernel_rfl, by kernel_rfl⟩, ⟨_, Tryd.func11, by kernel_rfl, by kernel_rfl⟩, ⟨_, Tryd.func12, by kernel_rfl, by kernel_rfl⟩, ⟨_, Tryd.func13, by kernel_rfl, by kernel_rfl⟩, ⟨_, Tryd.func14, by kernel_rfl, by kernel_rfl⟩, ⟨_, Tryd.func15, by kernel_rfl, by kernel_rfl⟩, ⟨_, Tryd.func16, by kernel_rfl, by kernel_rfl⟩, ⟨_, Tryd.func17, by kernel_rfl, by kernel_rfl⟩, ⟨_, Tryd.func18, by kernel_rfl, by kernel_rfl⟩, ⟨_, Tryd.func19, by kernel_rfl, by kernel_rfl⟩, ⟨_, Tryd.func20, by kernel_rfl, by kernel_rfl⟩, ⟨_, Tryd.func21, by kernel_rfl, by kernel_rfl⟩, ⟨_, Tryd.func22, by kernel_rfl, by kernel_rfl⟩, ⟨_, Tryd.func23, by kernel_rfl, by kernel_rfl⟩, ⟨_, Tryd.func24, by kernel_rfl, by kernel_rfl⟩, ⟨_, Tryd.func25, by kernel_rfl, by kernel_rfl⟩, ⟨_, Tryd.func26, by kernel_rfl, by kernel_rfl⟩, ⟨_, Tryd.func27, by kernel_rfl, by kernel_rfl⟩, ⟨_, Tryd.func28, by kernel_rfl, by kernel_rfl⟩, ⟨_, Tryd.func29, by kernel_rfl, by kernel_rfl⟩, ⟨_, Tryd.func30, by kernel_rfl, by kernel_rfl⟩, ⟨_, Tryd.func31, by kernel_rfl, by kernel_rfl⟩, ⟨_, Tryd.func32, by kernel_rfl, by kernel_rfl⟩, ⟨_, Tryd.func33, by kernel_rfl, by kernel_rfl⟩, ⟨_, Tryd.func34, by kernel_rfl, by kernel_rfl⟩, ⟨_, Tryd.func35, by kernel_rfl, by kernel_rfl⟩, ⟨_, Tryd.func36, by kernel_rfl, by kernel_rfl⟩, ⟨_, Tryd.func37, by kernel_rfl, by kernel_rfl⟩, ⟨_, Tryd.func38, by kernel_rfl, by kernel_rfl⟩, trivial⟩
theorem own : ownKnob Tryd.prog.godebug = none := by kernel_rfl
theorem laidOut : laidOutB Tryd.prog = true := by kernel_rfl
/-- The tables, as memory holds them. -/
def tbs : List (Nat × IntKind × List Int) := [(0, .u8, deb)]
theorem laid_start {w : World} (h : laidMetH Tryd.prog Rows.bitsNamesRow.laid w) (F : FuncId → Option Fun) : ∃ m, Rel ⟨Tryd.prog, G, F⟩ m w.heap.size (tabs tbs) w := by
  rw [MakeChecks.laidMetH_plain _ _ _ (by kernel_rfl)] at h
  obtain ⟨ps, hv, _, _⟩ := h
  obtain ⟨t0, ps0, hv⟩ := laid_ints (k := .u8) (zs := deb) hv (by rfl) (show Tryd.prog.globalNamed "math/bits.deBruijn64tab" = some 0 by kernel_rfl) (show (Tryd.prog.globals[0]?).map (·.type) = some 67 by kernel_rfl) Tryd.underlying67 Tryd.underlying5 (by kernel_rfl)
  refine Rel.tables ⟨Tryd.prog, G, F⟩ tbs ?_ ?_
  · intro p hp
    simp only [tbs, List.mem_cons, List.not_mem_nil, or_false] at hp
    obtain rfl := hp
    · exact t0
  · intro g b e
    simp only [G] at e
    split at e
    · cases e; exact ⟨_, rfl, by simp_all⟩
    cases e
theorem says : SaysTrue Rows.bitsNamesSpec Tryd.f9.params.size := ⟨rfl, fun H ds h => by
  have : ds = [] := List.length_eq_zero_iff.1 h
  subst this; rfl⟩
theorem walk {H : Type} {enc : TypeId × Value → H} (W : World) (args : Array Value) (ds : List (DataW H)) (p : List MemPlace) (hL : laidMetH Tryd.prog Rows.bitsNamesRow.laid W) (hA : DataW.TrodAll enc Tryd.prog W 0 (fun _ => true) true Tryd.f9.params.toList args.toList ds p) :
    Calls Tryd.prog 9 args W fun e W' => e = .returned (.bool true) ∧ Below W.heap.size W W' := by
  rw [Tryd.params9] at hA
  obtain ⟨rfl, -⟩ := trodAll_none hA
  obtain ⟨m, hR⟩ := laid_start hL F
  exact law_calls (K := ⟨Tryd.prog, G, F⟩) (ok.okF _) (names_wc0) hR .nil
theorem door_met (os : Os) (args : Array Value) : laidMetH Tryd.prog Rows.bitsNamesRow.laid ((World.doorLaid Tryd.prog 400 os).forCall (fun _ _ => 0) ⟨#[], args, []⟩).memory :=
  laidMetH_of_parts3 (fuel := 8) (laidMet_of_run' 8 (by kernel_rfl) (by kernel_rfl)) (by kernel_rfl) (by kernel_rfl)
theorem lifted (os : Os) (started : os.Started) (H : Type) (enc : TypeId × Value → H) :
    ReturnsInHanded {} Tryd.checked os 9 .any (fun w args => (Rows.bitsNamesSpec.pre enc Tryd.prog Tryd.f9 [] false w args ∧ laidMetH Tryd.prog Rows.bitsNamesRow.laid w) ∧ sizedMet enc Tryd.prog Tryd.f9 (OpenSpec.ofChange Rows.bitsNamesSpec) false w args) (Rows.bitsNamesSpec.post enc Tryd.prog Tryd.f9 false true false false) :=
  law_lifted_laid (C := Tryd.checked) (tb := 4) own laidOut started (by kernel_rfl) Tryd.func9 (by kernel_rfl) says (by kernel_rfl) (show Tryd.prog.underlying _ = some .bool by kernel_rfl)
    (ChangeSpec.witness_shaped (enc := enc) (C := Tryd.checked) (os := os) (X := fun w _ => laidMetH Tryd.prog Rows.bitsNamesRow.laid w) false (World.doorLaid Tryd.prog 400 os) (#[]) 8 rfl (World.shaped_of_RefB (by kernel_rfl) (by kernel_rfl)) (by kernel_rfl) (by kernel_rfl) (by kernel_rfl) (door_met os _))
    (fun W args ds p hL hok hA hsz => walk W args ds p hL hA)
theorem over : Rows.bitsNamesRow.holds Tryd.pinned (OpenSpec.ofChange Rows.bitsNamesSpec) :=
  OpenClaim.holds_of_wide 9 Tryd.f9 rfl rfl rfl rfl rfl rfl rfl ⟨rfl, rfl, rfl, rfl, rfl⟩ rfl rfl rfl rfl rfl (by kernel_rfl) Tryd.func9 (by kernel_rfl)
    (of_decide_eq_true (by kernel_rfl)) (by unfold Func.isWrapper; first | (rw [if_pos (by decide +kernel)]; kernel_rfl) | (rw [if_neg (by decide +kernel)]; exact ⟨rfl, rfl⟩))
    (fun os started H enc _ => lifted os started H enc)
theorem holds : Rows.BitsNamesCardSaid :=
  Claim7.holds_tied_plain_at .later [] [.data] true (true, "1be4ec00031e6b4c60af78e66a05e65d786c0b45b6c75a2e548b78c5959fbabd") false over (fun _ h => by cases h) (by kernel_rfl) (fun _ h => by cases h) bitsNames_row_tie rfl ⟨rfl, rfl⟩ (by kernel_rfl) rfl
    (fun f fn hf hfn => by
      obtain rfl : f = 9 := Option.some.inj ((show Tryd.prog.funcNamed "rota/rotalaw12.BitsNames" = some 9 by kernel_rfl).symm.trans hf) |>.symm
      obtain rfl : fn = Tryd.f9 := (Option.some.inj (Tryd.func9.symm.trans hfn)).symm
      exact ⟨by kernel_rfl, fun j t ht => by
        have key : (Tryd.f9.params.toList.all fun t => !Tryd.prog.wantsStandIn t) = true := by kernel_rfl
        have := List.all_eq_true.1 key t (by simpa using (Array.mem_of_getElem? ht))
        exact (show Tryd.prog.wantsStandIn t = false by simpa using this)⟩)
    (by kernel_rfl)
#print axioms holds
end Go.Proofs.YtnepeleepmhdaaaDoor.AM.D12
