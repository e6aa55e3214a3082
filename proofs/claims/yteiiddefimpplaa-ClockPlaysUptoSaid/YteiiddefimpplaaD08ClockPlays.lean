/- The law ClockPlays answers true for every input, of bulk at most 1048576, and its arguments read behind the call as they read before; no condition but the bound. -/
import Derived.Test.YteiiddefimpplaaA4
import Derived.OpenShut
import Derived.Test.YteiiddefimpplaaA3
import Derived.Test.YteiiddefimpplaaB2
import Derived.Test.YteiiddefimpplaaB4
import Derived.Test.YteiiddefimpplaaRows
set_option linter.unusedVariables false
set_option linter.unusedSimpArgs false
set_option linter.unusedSectionVars false
namespace Go.Proofs.Yteiiddefimpplaa.AM.D08
open Go Go.Proofs.Yteiiddefimpplaa.AM Go.Proofs Go.Proofs.Yteiiddefimpplaa
open Go.ChangeShapes Go.WideShapes Go.ChangeAt Go.RowKit
set_option maxRecDepth 100000
theorem ok : OkL Try.prog (fun _ => none) fs :=
  ⟨⟨_, Try.func3, by kernel_rfl, by kernel_rfl⟩, ⟨_, Try.func4, by kernel_rfl, by kernel_rfl⟩, ⟨_, Try.func5, by kernel_rfl, by kernel_rfl⟩, ⟨_, Try.func6, by kernel_rfl, by kernel_rfl⟩, ⟨_, Try.func7, by kernel_rfl, by kernel_rfl⟩, ⟨_, Try.func8, by kernel_rfl, by kernel_rfl⟩, ⟨_, Try.func9, by kernel_rfl, by kernel_rfl⟩, ⟨_, Try.func10, by kernel_rfl, by kernel_rfl⟩, ⟨_, Try.func11, by kernel_rfl, by kernel_rfl⟩, ⟨_, Try.func12, by kernel_rfl, by kernel_rfl⟩, ⟨_, Try.func13, by kernel_rfl, by kernel_rfl⟩, ⟨_, Try.func14, by kernel_rfl, by kernel_rfl⟩, ⟨_, Try.func15, by kernel_rfl, by kernel_rfl⟩, ⟨_, Try.func16, by kernel_rfl, by kernel_rfl⟩, ⟨_, Try.func17, by kernel_rfl, by kernel_rfl⟩, ⟨_, Try.func18, by kernel_rfl, by kernel_rfl⟩, ⟨_, Try.func19, by kernel_rfl, by kernel_rfl⟩, ⟨_, Try.func20, by kernel_rfl, by kernel_rfl⟩, ⟨_, Try.func21, by kernel_rfl, by kernel_rfl⟩, ⟨_, Try.func22, by kernel_rfl, by kernel_rfl⟩, ⟨_, Try.func23, by kernel_rfl, by kernel_rfl⟩, ⟨_, Try.func24, by kernel_rfl, by kernel_rfl⟩, ⟨_, Try.func25, by kernel_rfl, by kernel_rfl⟩, ⟨_, Try.func26, by kernel_rfl, by kernel_rfl⟩, ⟨_, Try.func27, by kernel_rfl, by kernel_rfl⟩, ⟨_, Try.func28, by kernel_rfl, by kernel_rfl⟩, ⟨_, Try.func30, by kernel_rfl, by kernel_rfl⟩, ⟨_, Try.func31, by kernel_rfl, by kernel_rfl⟩, ⟨_, Try.func32, by kernel_rfl, by kernel_rfl⟩, ⟨_, Try.func33, by kernel_rfl, by kernel_rfl⟩, ⟨_, Try.func34, by kernel_rfl, by kernel_rfl⟩, ⟨_, Try.func35, by kernel_rfl, by kernel_rfl⟩, ⟨_, Try.func36, by kernel_rfl, by kernel_rfl⟩, ⟨_, Try.func37, by kernel_rfl, by kernel_rfl⟩, ⟨_, Try.func38, by kernel_rfl, by kernel_rfl⟩, ⟨_, Try.func39, by kernel_rfl, by kernel_rfl⟩, ⟨_, Try.func40, by kernel_rfl, by kernel_rfl⟩, ⟨_, Try.func41, by kernel_rfl, by kernel_rfl⟩, ⟨_, Try.func42, by kernel_rfl, by kernel_rfl⟩, ⟨_, Try.func43, by kernel_rfl, by kernel_rfl⟩, ⟨_, Try.func44, by kernel_rfl, by kernel_rfl⟩, ⟨_, Try.func47, by kernel_rfl, by kernel_rfl⟩, ⟨_, Try.func48, by kernel_rfl, by kernel_rfl⟩, ⟨_, Try.func49, by kernel_rfl, by kernel_rfl⟩, ⟨_, Try.func50, by kernel_rfl, by kernel_rfl⟩, ⟨_, Try.func51, by kernel_rfl, by kernel_rfl⟩, ⟨_, Try.func52, by kernel_rfl, by kernel_rfl⟩, ⟨_, Try.func53, by kernel_rfl, by kernel_rfl⟩, ⟨_, Try.func54, by kernel_rfl, by kernel_rfl⟩, ⟨_, Try.func55, by kernel_rfl, by kernel_rfl⟩, ⟨_, Try.func56, by kernel_rfl, by kernel_rfl⟩, ⟨_, Try.func57, by kernel_rfl, by kernel_rfl⟩, ⟨_, Try.func58, by kernel_rfl, by kernel_rfl⟩, ⟨_, Try.func59, by kernel_rfl, by kernel_rfl⟩, ⟨_, Try.func60, by kernel_rfl, by kernel_rfl⟩, ⟨_, Try.func72, by kernel_rfl, by kernel_rfl⟩, ⟨_, Try.func73, by kernel_rfl, by kernel_rfl⟩, ⟨_, Try.func74, by kernel_rfl, by kernel_rfl⟩, ⟨_, Try.func75, by kernel_rfl, by kernel_rfl⟩, ⟨_, Try.func76, by kernel_rfl, by kernel_rfl⟩, ⟨_, Try.func77, by kernel_rfl, by kernel_rfl⟩, ⟨_, Try.func78, by kernel_rfl, by kernel_rfl⟩, ⟨_, Try.func79, by kernel_rfl, by kernel_rfl⟩, trivial⟩
def lays_ren : Go.Shelf.Ren := ⟨fun | 189 => 29 | 125 => 46 | 257 => 45 | 128 => 70 | 129 => 71 | 294 => 61 | 295 => 62 | 296 => 63 | 297 => 64 | 298 => 65 | 299 => 66 | 216 => 67 | 300 => 68 | 301 => 69 | 328 => 80 | 329 => 81 | 330 => 82 | 331 => 83 | 332 => 84 | 215 => 85 | 343 => 86 | n => n, fun | 28 => 22 | 3 => 3 | 46 => 74 | 0 => 0 | 51 => 105 | 53 => 107 | 4 => 4 | 183 => 98 | 182 => 97 | 131 => 44 | 5 => 5 | 9 => 9 | 218 => 111 | 222 => 115 | 228 => 117 | 229 => 118 | n => n, fun n => n⟩
theorem lays : Go.Proofs.Lays.n189 Try.prog lays_ren where
  mixed := by kernel_rfl
  f125 := Try.func46.trans (congrArg some (by kernel_rfl))
  f128 := Try.func70.trans (congrArg some (by kernel_rfl))
  f129 := Try.func71.trans (congrArg some (by kernel_rfl))
  f189 := Try.func29.trans (congrArg some (by kernel_rfl))
  f215 := Try.func85.trans (congrArg some (by kernel_rfl))
  f216 := Try.func67.trans (congrArg some (by kernel_rfl))
  f257 := Try.func45.trans (congrArg some (by kernel_rfl))
  f294 := Try.func61.trans (congrArg some (by kernel_rfl))
  f295 := Try.func62.trans (congrArg some (by kernel_rfl))
  f296 := Try.func63.trans (congrArg some (by kernel_rfl))
  f297 := Try.func64.trans (congrArg some (by kernel_rfl))
  f298 := Try.func65.trans (congrArg some (by kernel_rfl))
  f299 := Try.func66.trans (congrArg some (by kernel_rfl))
  f300 := Try.func68.trans (congrArg some (by kernel_rfl))
  f301 := Try.func69.trans (congrArg some (by kernel_rfl))
  f328 := Try.func80.trans (congrArg some (by kernel_rfl))
  f329 := Try.func81.trans (congrArg some (by kernel_rfl))
  f330 := Try.func82.trans (congrArg some (by kernel_rfl))
  f331 := Try.func83.trans (congrArg some (by kernel_rfl))
  f332 := Try.func84.trans (congrArg some (by kernel_rfl))
  f343 := Try.func86.trans (congrArg some (by kernel_rfl))
  t0 := Try.underlying0
  a0 := Try.isAgg0
  z0 := Try.sizeOf0
  v0 := Try.zeroValue0
  t3 := Try.underlying3
  a3 := Try.isAgg3
  z3 := Try.sizeOf3
  v3 := Try.zeroValue3
  t4 := Try.underlying4
  a4 := Try.isAgg4
  z4 := Try.sizeOf4
  v4 := Try.zeroValue4
  t5 := Try.underlying5
  a5 := Try.isAgg5
  z5 := Try.sizeOf5
  v5 := Try.zeroValue5
  t9 := Try.underlying9
  a9 := Try.isAgg9
  z9 := Try.sizeOf9
  v9 := Try.zeroValue9
  t28 := Try.underlying22
  a28 := Try.isAgg22
  z28 := Try.sizeOf22
  v28 := Try.zeroValue22
  t46 := Try.underlying74
  a46 := Try.isAgg74
  z46 := Try.sizeOf74
  v46 := Try.zeroValue74
  t51 := Try.underlying105
  a51 := Try.isAgg105
  z51 := Try.sizeOf105
  v51 := Try.zeroValue105
  t53 := Try.underlying107
  a53 := Try.isAgg107
  z53 := Try.sizeOf107
  v53 := Try.zeroValue107
  t131 := Try.underlying44
  a131 := Try.isAgg44
  z131 := Try.sizeOf44
  v131 := Try.zeroValue44
  t182 := Try.underlying97
  a182 := Try.isAgg97
  z182 := Try.sizeOf97
  v182 := Try.zeroValue97
  t183 := Try.underlying98
  a183 := Try.isAgg98
  z183 := Try.sizeOf98
  v183 := Try.zeroValue98
  t218 := Try.underlying111
  a218 := Try.isAgg111
  z218 := Try.sizeOf111
  v218 := Try.zeroValue111
  t222 := Try.underlying115
  a222 := Try.isAgg115
  z222 := Try.sizeOf115
  v222 := Try.zeroValue115
  t228 := Try.underlying117
  a228 := Try.isAgg117
  z228 := Try.sizeOf117
  v228 := Try.zeroValue117
  t229 := Try.underlying118
  a229 := Try.isAgg118
  z229 := Try.sizeOf118
  v229 := Try.zeroValue118
theorem okX (base : Nat) : ∀ f g, X f = some g → ExtOk ⟨Try.prog, fun _ => none, F⟩ base f g := by
  intro f g h
  unfold X at h
  split at h
  · rename_i e
    subst e
    cases h
    exact sortX_ok (ρ := lays_ren) lays (enters_of Try.func29 (by kernel_rfl) rfl)
  cases h
theorem keepF : ExtKeep F := ExtKeep.funsX fun f g h => by
  unfold X at h
  split at h
  · cases h
    exact fun args H v H' e => sortX_keep e
  cases h
theorem own : ownKnob Try.prog.godebug = none := by kernel_rfl
theorem laidOut : laidOutB Try.prog = true := by kernel_rfl
theorem says : SaysTrue Rows.clockPlaysSpec Try.f5.params.size := ⟨rfl, fun H ds h => by
  match ds, h with
  | [_, _], _ => rfl⟩
theorem ty1 : tyOf Try.prog 9 28 = some (.pair (.int .i64) (.pair (.sl (.int .i64)) (.pair (.int .i64) (.pair (.int .i64) (.pair (.int .i64) (.pair (.int .i64) (.pair (.int .i64) (.pair (.int .i64) (.pair (.sl (.pair (.int .i64) (.pair (.int .i64) (.pair (.int .i64) .unit)))) (.pair (.sl (.sl (.int .i64))) (.pair (.sl (.pair (.int .i64) (.pair (.int .i64) (.pair (.int .i64) (.pair (.int .i64) (.pair (.int .i64) (.pair (.int .i64) .unit))))))) (.pair (.sl (.pair (.int .i64) (.pair (.sl (.int .i64)) (.pair (.int .i64) .unit)))) .unit)))))))))))) := by kernel_rfl
theorem ty2 : tyOf Try.prog 9 51 = some (.sl (.pair (.int .i64) (.pair (.int .i64) (.pair (.int .i64) (.pair (.int .u16) .unit))))) := by kernel_rfl
theorem bulkL (H : Type) : BulkLaws (H := H) Rows.uptoBulk Rows.uptoBulkAll where
  one d := by
    cases d with
    | lit l => cases l <;> simp [Rows.uptoBulk]
    | _ => simp [Rows.uptoBulk]
  str l := by simp [Rows.uptoBulk]
  slice e s := by simp only [Rows.uptoBulk]; omega
  agg p := by simp only [Rows.uptoBulk]; omega
  cons d l := by simp only [Rows.uptoBulkAll]; omega
theorem walk {H : Type} {enc : TypeId × Value → H} (W : World) (args : Array Value) (ds : List (DataW H)) (p : List MemPlace) (hk : Rows.uptoSmall H ds = true) (hok : ∃ base, ∀ (j : Nat) t v, Try.f5.params[j]? = some t → args[j]? = some v → Value.okWide Try.prog W .any base t v)
    (hA : DataW.TrodAll enc Try.prog W 0 (fun _ => true) true Try.f5.params.toList args.toList ds p) :
    Calls Try.prog 5 args W fun e W' => e = .returned (.bool true) ∧ Below W.heap.size W W' := by
  obtain ⟨base, hok⟩ := hok
  rw [Try.params5] at hA hok
  obtain ⟨v1, vs1, d1, ds1, p1, q1, e1, hds1, -, h1, hA⟩ := trodAll_cons hA
  obtain ⟨v2, vs2, d2, ds2, p2, q2, e2, hds2, -, h2, hA⟩ := trodAll_cons hA
  obtain ⟨e0, hds0, -⟩ := trodAll_nil hA
  have ha : args = #[v1, v2] := by
    apply Array.toList_inj.1
    rw [e1, e2, e0]
  subst ha
  have hR0 := Rel.start (⟨Try.prog, fun _ => none, F⟩ : Ctx) (fun _ => rfl) (fun _ => ⟨0, 0, 0⟩) W
  obtain ⟨m1, J1, x1, a1, hR1, l1, r1, w1, n1⟩ := openW (bulkL _) (K := (⟨Try.prog, fun _ => none, F⟩ : Ctx)) ty1 ⟨base, hok 0 _ v1 rfl rfl⟩ (fun _ => rfl) h1 hR0
  obtain ⟨m2, J2, x2, a2, hR2, l2, r2, w2, n2⟩ := openW (bulkL _) (K := (⟨Try.prog, fun _ => none, F⟩ : Ctx)) ty2 ⟨base, hok 1 _ v2 rfl rfl⟩ (fun _ => rfl) h2 hR1
  have w1 := w1.keep (ro_app (J := J2))
  have r1 := r1.later l2
  have hb := of_decide_eq_true hk
  rw [hds1, hds2, hds0] at hb
  simp only [Rows.uptoBulkAll] at hb
  exact law_calls (K := (⟨Try.prog, fun _ => none, F⟩ : Ctx)) (ok.okFX _ (okX _)) (plays_wc _ (((Begins.refl []).app J1).app J2) w1 w2 (Nat.le_trans (Nat.add_le_add n1 (Nat.add_le_add n2 (Nat.le_refl 0))) hb)) hR2 (.cons r1 (.cons r2 .nil))
theorem lifted (os : Os) (started : os.Started) (H : Type) (enc : TypeId × Value → H) (F' : Stop.Interp) :
    ReturnsInHanded {} Try.checked os 5 .any ((Rows.OpenSpec.upto Rows.clockPlaysSpec).pre6 enc Try.prog Try.f5 Rows.clockPlaysUptoRow.domain false) (((Rows.OpenSpec.upto Rows.clockPlaysSpec).at F').post enc Try.prog Try.f5 false true false false) :=
  law_lifted_upto (C := Try.checked) (tb := 4) (k := Rows.uptoSmall) own laidOut started (by kernel_rfl) Try.func5 (by kernel_rfl) says (by kernel_rfl) (show Try.prog.underlying _ = some .bool by kernel_rfl)
    (OpenSpec.witness (enc := enc) (C := Try.checked) (s := Rows.OpenSpec.upto Rows.clockPlaysSpec) (k := Rows.uptoSmall) rfl false ⟨#[], #[.agg #[.int .i64 0, .slice none 0 0, .int .i64 0, .int .i64 0, .int .i64 0, .int .i64 0, .int .i64 0, .int .i64 0, .slice none 0 0, .slice none 0 0, .slice none 0 0, .slice none 0 0], .slice none 0 0], []⟩ 8 (by kernel_rfl) (by kernel_rfl) (by kernel_rfl) (x := ([.agg [.lit (.int .i64 0), .nil, .lit (.int .i64 0), .lit (.int .i64 0), .lit (.int .i64 0), .lit (.int .i64 0), .lit (.int .i64 0), .lit (.int .i64 0), .nil, .nil, .nil, .nil], .nil], [], [])) (by kernel_rfl) rfl (by kernel_rfl))
    (fun W args ds p hk hok hA hsz => walk W args ds p hk hok hA)
theorem over : Rows.clockPlaysUptoRow.holds Try.pinned (Rows.OpenSpec.upto Rows.clockPlaysSpec) :=
  OpenClaim.holds_of_cond 5 Try.f5 rfl rfl rfl rfl rfl rfl rfl ⟨rfl, rfl, rfl, rfl, rfl⟩ rfl rfl rfl rfl rfl (by kernel_rfl) Try.func5 (by kernel_rfl)
    (of_decide_eq_true (by kernel_rfl)) (by unfold Func.isWrapper; first | (rw [if_pos (by decide +kernel)]; kernel_rfl) | (rw [if_neg (by decide +kernel)]; exact ⟨rfl, rfl⟩))
    (fun os started H enc _ F' => lifted os started H enc F')
theorem holds : Rows.ClockPlaysUptoSaid := over
#print axioms holds
end Go.Proofs.Yteiiddefimpplaa.AM.D08

