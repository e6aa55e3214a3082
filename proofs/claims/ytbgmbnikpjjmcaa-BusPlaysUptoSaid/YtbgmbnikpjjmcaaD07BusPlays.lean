/- The law BusPlays answers true for every input, of bulk at most 1048576, and its arguments read behind the call as they read before; no condition but the bound. -/
import Derived.Test.YtbgmbnikpjjmcaaA4
import Derived.OpenShut
import Derived.Test.YtbgmbnikpjjmcaaA3
import Derived.Test.YtbgmbnikpjjmcaaIRD07
import Derived.Test.YtbgmbnikpjjmcaaD07B
import Derived.Test.YtbgmbnikpjjmcaaRows
set_option linter.unusedVariables false
set_option linter.unusedSimpArgs false
set_option linter.unusedSectionVars false
namespace Go.Proofs.Ytbgmbnikpjjmcaa.AM.D07
open Go Go.Proofs.Ytbgmbnikpjjmcaa.AM Go.Proofs Go.Proofs.Ytbgmbnikpjjmcaa
open Go.ChangeShapes Go.WideShapes Go.ChangeAt Go.RowKit
set_option maxRecDepth 100000
theorem ok : OkL Try.prog (fun _ => none) fs :=
  ⟨⟨_, Try.func3, by kernel_rfl, by kernel_rfl⟩, ⟨_, Try.func4, by kernel_rfl, by kernel_rfl⟩, ⟨_, Try.func5, by kernel_rfl, by kernel_rfl⟩, ⟨_, Try.func6, by kernel_rfl, by kernel_rfl⟩, ⟨_, Try.func7, by kernel_rfl, by kernel_rfl⟩, ⟨_, Try.func8, by kernel_rfl, by kernel_rfl⟩, ⟨_, Try.func9, by kernel_rfl, by kernel_rfl⟩, ⟨_, Try.func10, by kernel_rfl, by kernel_rfl⟩, ⟨_, Try.func11, by kernel_rfl, by kernel_rfl⟩, ⟨_, Try.func12, by kernel_rfl, by kernel_rfl⟩, ⟨_, Try.func13, by kernel_rfl, by kernel_rfl⟩, ⟨_, Try.func14, by kernel_rfl, by kernel_rfl⟩, ⟨_, Try.func15, by kernel_rfl, by kernel_rfl⟩, ⟨_, Try.func16, by kernel_rfl, by kernel_rfl⟩, ⟨_, Try.func17, by kernel_rfl, by kernel_rfl⟩, ⟨_, Try.func18, by kernel_rfl, by kernel_rfl⟩, ⟨_, Try.func19, by kernel_rfl, by kernel_rfl⟩, ⟨_, Try.func20, by kernel_rfl, by kernel_rfl⟩, ⟨_, Try.func21, by kernel_rfl, by kernel_rfl⟩, ⟨_, Try.func22, by kernel_rfl, by kernel_rfl⟩, ⟨_, Try.func23, by kernel_rfl, by kernel_rfl⟩, ⟨_, Try.func24, by kernel_rfl, by kernel_rfl⟩, ⟨_, Try.func25, by kernel_rfl, by kernel_rfl⟩, ⟨_, Try.func26, by kernel_rfl, by kernel_rfl⟩, ⟨_, Try.func27, by kernel_rfl, by kernel_rfl⟩, ⟨_, Try.func28, by kernel_rfl, by kernel_rfl⟩, ⟨_, Try.func29, by kernel_rfl, by kernel_rfl⟩, ⟨_, Try.func30, by kernel_rfl, by kernel_rfl⟩, ⟨_, Try.func31, by kernel_rfl, by kernel_rfl⟩, ⟨_, Try.func32, by kernel_rfl, by kernel_rfl⟩, ⟨_, Try.func33, by kernel_rfl, by kernel_rfl⟩, ⟨_, Try.func34, by kernel_rfl, by kernel_rfl⟩, ⟨_, Try.func35, by kernel_rfl, by kernel_rfl⟩, ⟨_, Try.func36, by kernel_rfl, by kernel_rfl⟩, ⟨_, Try.func37, by kernel_rfl, by kernel_rfl⟩, ⟨_, Try.func38, by kernel_rfl, by kernel_rfl⟩, ⟨_, Try.func39, by kernel_rfl, by kernel_rfl⟩, ⟨_, Try.func40, by kernel_rfl, by kernel_rfl⟩, ⟨_, Try.func41, by kernel_rfl, by kernel_rfl⟩, ⟨_, Try.func43, by kernel_rfl, by kernel_rfl⟩, ⟨_, Try.func44, by kernel_rfl, by kernel_rfl⟩, ⟨_, Try.func45, by kernel_rfl, by kernel_rfl⟩, ⟨_, Try.func46, by kernel_rfl, by kernel_rfl⟩, ⟨_, Try.func47, by kernel_rfl, by kernel_rfl⟩, ⟨_, Try.func48, by kernel_rfl, by kernel_rfl⟩, ⟨_, Try.func49, by kernel_rfl, by kernel_rfl⟩, ⟨_, Try.func50, by kernel_rfl, by kernel_rfl⟩, ⟨_, Try.func51, by kernel_rfl, by kernel_rfl⟩, ⟨_, Try.func52, by kernel_rfl, by kernel_rfl⟩, ⟨_, Try.func53, by kernel_rfl, by kernel_rfl⟩, ⟨_, Try.func55, by kernel_rfl, by kernel_rfl⟩, ⟨_, Try.func56, by kernel_rfl, by kernel_rfl⟩, ⟨_, Try.func57, by kernel_rfl, by kernel_rfl⟩, ⟨_, Try.func58, by kernel_rfl, by kernel_rfl⟩, ⟨_, Try.func59, by kernel_rfl, by kernel_rfl⟩, ⟨_, Try.func60, by kernel_rfl, by kernel_rfl⟩, ⟨_, Try.func61, by kernel_rfl, by kernel_rfl⟩, ⟨_, Try.func62, by kernel_rfl, by kernel_rfl⟩, ⟨_, Try.func63, by kernel_rfl, by kernel_rfl⟩, trivial⟩
theorem okX (base : Nat) : ∀ f g, X f = some g → ExtOk ⟨Try.prog, fun _ => none, F⟩ base f g := by
  intro f g h
  unfold X at h
  split at h
  · rename_i e
    subst e
    cases h
    exact loadX_ok Try.func42 (by kernel_rfl) (by kernel_rfl) (by kernel_rfl) (by kernel_rfl)
  split at h
  · rename_i e
    subst e
    cases h
    exact addX_ok Try.func54 (by kernel_rfl) (by kernel_rfl) (by kernel_rfl) (by kernel_rfl)
  cases h
theorem keepF : ExtKeep F := ExtKeep.funsX fun f g h => by
  unfold X at h
  split at h
  · cases h
    exact fun args H v H' e => loadX_keep e
  split at h
  · cases h
    exact fun args H v H' e => addX_keep e
  cases h
theorem own : ownKnob Try.prog.godebug = none := by kernel_rfl
theorem laidOut : laidOutB Try.prog = true := by kernel_rfl
theorem says : SaysTrue Rows.busPlaysSpec Try.f3.params.size := ⟨rfl, fun H ds h => by
  match ds, h with
  | [_, _], _ => rfl⟩
theorem ty1 : tyOf Try.prog 9 28 = some (.pair (.int .i64) (.pair (.sl (.int .i64)) (.pair (.int .i64) (.pair (.int .i64) (.pair (.int .i64) (.pair (.int .i64) (.pair (.int .i64) (.pair (.int .i64) (.pair (.sl (.pair (.int .i64) (.pair (.int .i64) (.pair (.int .i64) .unit)))) (.pair (.sl (.sl (.int .i64))) (.pair (.sl (.pair (.int .i64) (.pair (.int .i64) (.pair (.int .i64) (.pair (.int .i64) (.pair (.int .i64) (.pair (.int .i64) .unit))))))) (.pair (.sl (.pair (.int .i64) (.pair (.sl (.int .i64)) (.pair (.int .i64) .unit)))) .unit)))))))))))) := by kernel_rfl
theorem ty2 : tyOf Try.prog 9 29 = some (.sl (.pair (.int .i64) (.pair (.sl (.pair (.int .i64) (.pair (.sl (.int .u8)) .unit))) (.pair (.sl (.pair (.int .i64) (.pair (.int .i64) (.pair (.int .u32) .unit)))) (.pair .bool .unit))))) := by kernel_rfl
theorem bulkL (H : Type) : BulkLaws (H := H) Rows.uptoBulk Rows.uptoBulkAll where
  one d := by
    cases d with
    | lit l => cases l <;> simp [Rows.uptoBulk]
    | _ => simp [Rows.uptoBulk]
  str l := by simp [Rows.uptoBulk]
  slice e s := by simp only [Rows.uptoBulk]; omega
  agg p := by simp only [Rows.uptoBulk]; omega
  cons d l := by simp only [Rows.uptoBulkAll]; omega
theorem walk {H : Type} {enc : TypeId × Value → H} (W : World) (args : Array Value) (ds : List (DataW H)) (p : List MemPlace) (hk : Rows.uptoSmall H ds = true) (hok : ∃ base, ∀ (j : Nat) t v, Try.f3.params[j]? = some t → args[j]? = some v → Value.okWide Try.prog W .any base t v)
    (hA : DataW.TrodAll enc Try.prog W 0 (fun _ => true) true Try.f3.params.toList args.toList ds p) :
    Calls Try.prog 3 args W fun e W' => e = .returned (.bool true) ∧ Below W.heap.size W W' := by
  obtain ⟨base, hok⟩ := hok
  rw [Try.params3] at hA hok
  obtain ⟨v1, vs1, d1, ds1, p1, q1, e1, hds1, -, h1, hA⟩ := trodAll_cons hA
  obtain ⟨v2, vs2, d2, ds2, p2, q2, e2, hds2, -, h2, hA⟩ := trodAll_cons hA
  obtain ⟨e0, hds0, -⟩ := trodAll_nil hA
  have ha : args = #[v1, v2] := by
    apply Array.toList_inj.1
    rw [e1, e2, e0]
  subst ha
  have hR0 := Rel.start (⟨Try.prog, fun _ => none, F⟩ : Ctx) (fun _ => rfl) (fun _ => ⟨0, 0, 0⟩) W
  obtain ⟨m1, J1, x1, a1, hR1, l1, r1, w1, n1⟩ := openW (bulkL _) (K := (⟨Try.prog, fun _ => none, F⟩ : Ctx)) ty1 ⟨base, hok 0 _ v1 rfl rfl⟩ (fun _ => rfl) h1 hR0
  obtain ⟨m2, J2, x2, a2, hR2, l2, r2, w2, n2⟩ := openW (bulkL _) (K := (⟨Try.prog, fun _ => none, F⟩ : Ctx)) ty2 ⟨base, hok 1 _ v2 rfl rfl⟩ (fun _ => rfl) h2 hR1
  have w1 := w1.keep (ro_app (J := J2))
  have r1 := r1.later l2
  have hb := of_decide_eq_true hk
  rw [hds1, hds2, hds0] at hb
  simp only [Rows.uptoBulkAll] at hb
  exact law_calls (K := (⟨Try.prog, fun _ => none, F⟩ : Ctx)) (ok.okFX _ (okX _)) (plays_wc _ (((Begins.refl []).app J1).app J2) w1 w2 (Nat.le_trans (Nat.add_le_add n1 (Nat.add_le_add n2 (Nat.le_refl 0))) hb)) hR2 (.cons r1 (.cons r2 .nil))
theorem lifted (os : Os) (started : os.Started) (H : Type) (enc : TypeId × Value → H) (F' : Stop.Interp) :
    ReturnsInHanded {} Try.checked os 3 .any ((Rows.OpenSpec.upto Rows.busPlaysSpec).pre6 enc Try.prog Try.f3 Rows.busPlaysUptoRow.domain false) (((Rows.OpenSpec.upto Rows.busPlaysSpec).at F').post enc Try.prog Try.f3 false true false false) :=
  law_lifted_upto (C := Try.checked) (tb := 4) (k := Rows.uptoSmall) own laidOut started (by kernel_rfl) Try.func3 (by kernel_rfl) says (by kernel_rfl) (show Try.prog.underlying _ = some .bool by kernel_rfl)
    (OpenSpec.witness (enc := enc) (C := Try.checked) (s := Rows.OpenSpec.upto Rows.busPlaysSpec) (k := Rows.uptoSmall) rfl false ⟨#[], #[.agg #[.int .i64 0, .slice none 0 0, .int .i64 0, .int .i64 0, .int .i64 0, .int .i64 0, .int .i64 0, .int .i64 0, .slice none 0 0, .slice none 0 0, .slice none 0 0, .slice none 0 0], .slice none 0 0], []⟩ 8 (by kernel_rfl) (by kernel_rfl) (by kernel_rfl) (x := ([.agg [.lit (.int .i64 0), .nil, .lit (.int .i64 0), .lit (.int .i64 0), .lit (.int .i64 0), .lit (.int .i64 0), .lit (.int .i64 0), .lit (.int .i64 0), .nil, .nil, .nil, .nil], .nil], [], [])) (by kernel_rfl) rfl (by kernel_rfl))
    (fun W args ds p hk hok hA hsz => walk W args ds p hk hok hA)
theorem over : Rows.busPlaysUptoRow.holds Try.pinned (Rows.OpenSpec.upto Rows.busPlaysSpec) :=
  OpenClaim.holds_of_cond 3 Try.f3 rfl rfl rfl rfl rfl rfl rfl ⟨rfl, rfl, rfl, rfl, rfl⟩ rfl rfl rfl rfl rfl (by kernel_rfl) Try.func3 (by kernel_rfl)
    (of_decide_eq_true (by kernel_rfl)) (by unfold Func.isWrapper; first | (rw [if_pos (by decide +kernel)]; kernel_rfl) | (rw [if_neg (by decide +kernel)]; exact ⟨rfl, rfl⟩))
    (fun os started H enc _ F' => lifted os started H enc F')
theorem holds : Rows.BusPlaysUptoSaid := over
#print axioms holds
end Go.Proofs.Ytbgmbnikpjjmcaa.AM.D07
