/- The law DualTurned answers true for every input, of bulk at most 1048576, and its arguments read behind the call as they read before; no condition but the bound. -/
import Derived.Test.YtjcgdcadflplcaaDoorA4
import Derived.Deep.DeepWitnessRowRef
import Derived.OpenShut
import Derived.Test.YtjcgdcadflplcaaDoorA3
import Derived.Test.YtjcgdcadflplcaaDoorB1
import Derived.Test.YtjcgdcadflplcaaDoorB4
import Derived.Test.YtjcgdcadflplcaaDoorRows
import Derived.Test.YtjcgdcadflplcaaDoorCards
import Derived.Test.YtjcgdcadflplcaaDoorTie
import Derived.SevenTiedAt
import Derived.LaidMore
set_option linter.unusedVariables false
set_option linter.unusedSimpArgs false
set_option linter.unusedSectionVars false
namespace Go.Proofs.YtjcgdcadflplcaaDoor.AM.D21
open Go Go.Proofs.YtjcgdcadflplcaaDoor.AM Go.Proofs Go.Proofs.YtjcgdcadflplcaaDoor
open Go.ChangeShapes Go.WideShapes Go.ChangeAt Go.RowKit
set_option maxRecDepth 100000
def G:Nat→Option Nat:=fun g=>if g=0 then some 0 else none
theorem ok:OkL Tryd.prog (fun g=>if g=0 then some 0 else none) fs:=
 ⟨⟨_,Tryd.func8,by kernel_rfl,by kernel_rfl⟩,⟨_,Tryd.func9,by kernel_rfl,by kernel_rfl⟩,⟨_,Tryd.func11,by kernel_rfl,by kernel_rfl⟩,⟨_,Tryd.func12,by kernel_rfl,by kernel_rfl⟩,⟨_,Tryd.func13,by kernel_rfl,by kernel_rfl⟩,⟨_,Tryd.func14,by kernel_rfl,by kernel_rfl⟩,⟨_,Tryd.func15,by kernel_rfl,by kernel_rfl⟩,⟨_,Tryd.func16,by kernel_rfl,by kernel_rfl⟩,⟨_,Tryd.func17,by kernel_rfl,by kernel_rfl⟩,⟨_,Tryd.func19,by kernel_rfl,by kernel_rfl⟩,⟨_,Tryd.func20,by kernel_rfl,by kernel_rfl⟩,⟨_,Tryd.func28,by kernel_rfl,by kernel_rfl⟩,⟨_,Tryd.func29,by kernel_rfl,by kernel_rfl⟩,⟨_,Tryd.func30,by kernel_rfl,by kernel_rfl⟩,⟨_,Tryd.func31,by kernel_rfl,by kernel_rfl⟩,⟨_,Tryd.func32,by kernel_rfl,by kernel_rfl⟩,⟨_,Tryd.func34,by kernel_rfl,by kernel_rfl⟩,⟨_,Tryd.func35,by kernel_rfl,by kernel_rfl⟩,⟨_,Tryd.func36,by kernel_rfl,by kernel_rfl⟩,⟨_,Tryd.func37,by kernel_rfl,by kernel_rfl⟩,⟨_,Tryd.func38,by kernel_rfl,by kernel_rfl⟩,⟨_,Tryd.func39,by kernel_rfl,by kernel_rfl⟩,⟨_,Tryd.func42,by kernel_rfl,by kernel_rfl⟩,⟨_,Tryd.func43,by kernel_rfl,by kernel_rfl⟩,⟨_,Tryd.func44,by kernel_rfl,by kernel_rfl⟩,⟨_,Tryd.func45,by kernel_rfl,by kernel_rfl⟩,⟨_,Tryd.func49,by kernel_rfl,by kernel_rfl⟩,⟨_,Tryd.func50,by kernel_rfl,by kernel_rfl⟩,⟨_,Tryd.func51,by kernel_rfl,by kernel_rfl⟩,⟨_,Tryd.func52,by kernel_rfl,by kernel_rfl⟩,⟨_,Tryd.func53,by kernel_rfl,by kernel_rfl⟩,⟨_,Tryd.func54,by kernel_rfl,by kernel_rfl⟩,⟨_,Tryd.func55,by kernel_rfl,by kernel_rfl⟩,⟨_,Tryd.func60,by kernel_rfl,by kernel_rfl⟩,⟨_,Tryd.func61,by kernel_rfl,by kernel_rfl⟩,⟨_,Tryd.func63,by kernel_rfl,by kernel_rfl⟩,⟨_,Tryd.func64,by kernel_rfl,by kernel_rfl⟩,⟨_,Tryd.func65,by kernel_rfl,by kernel_rfl⟩,⟨_,Tryd.func66,by kernel_rfl,by kernel_rfl⟩,⟨_,Tryd.func67,by kernel_rfl,by kernel_rfl⟩,⟨_,Tryd.func77,by kernel_rfl,by kernel_rfl⟩,⟨_,Tryd.func78,by kernel_rfl,by kernel_rfl⟩,⟨_,Tryd.func79,by kernel_rfl,by kernel_rfl⟩,⟨_,Tryd.func80,by kernel_rfl,by kernel_rfl⟩,⟨_,Tryd.func81,by kernel_rfl,by kernel_rfl⟩,⟨_,Tryd.func82,by kernel_rfl,by kernel_rfl⟩,⟨_,Tryd.func90,by kernel_rfl,by kernel_rfl⟩,⟨_,Tryd.func91,by kernel_rfl,by kernel_rfl⟩,⟨_,Tryd.func92,by kernel_rfl,by kernel_rfl⟩,⟨_,Tryd.func93,by kernel_rfl,by kernel_rfl⟩,⟨_,Tryd.func94,by kernel_rfl,by kernel_rfl⟩,⟨_,Tryd.func95,by kernel_rfl,by kernel_rfl⟩,⟨_,Tryd.func96,by kernel_rfl,by kernel_rfl⟩,⟨_,Tryd.func97,by kernel_rfl,by kernel_rfl⟩,trivial⟩
theorem okX (base:Nat):∀f g,X f=some g→ExtOk ⟨Tryd.prog,fun g=>if g=0 then some 0 else none,F⟩ base f g:=by
 intro f g h
 unfold X at h
 split at h
 ·rename_i e
  subst e
  cases h
  exact loadX_ok Tryd.func75 (by kernel_rfl) (by kernel_rfl) (by kernel_rfl) (by kernel_rfl)
 split at h
 ·rename_i e
  subst e
  cases h
  exact addX_ok Tryd.func83 (by kernel_rfl) (by kernel_rfl) (by kernel_rfl) (by kernel_rfl)
 cases h
theorem keepF:ExtKeep F:=ExtKeep.funsX fun f g h=>by
 unfold X at h
 split at h
 ·cases h
  exact fun args H v H' e=>loadX_keep e
 split at h
 ·cases h
  exact fun args H v H' e=>addX_keep e
 cases h
theorem own:ownKnob Tryd.prog.godebug=none:=by kernel_rfl
theorem laidOut:laidOutB Tryd.prog=true:=by kernel_rfl
def tbs:List (Nat × IntKind × List Int):=[(0,.u32,nib)]
theorem laid_start {w:World} (h:laidMetH Tryd.prog Rows.dualTurnedRow.laid w) (F:FuncId→Option Fun):∃m,Rel ⟨Tryd.prog,G,F⟩ m w.heap.size (tabs tbs) w:=by
 rw[MakeChecks.laidMetH_plain _ _ _ (by kernel_rfl)] at h
 obtain⟨ps,hv,_,_⟩:=h
 obtain⟨t0,ps0,hv⟩:=laid_ints (k:=.u32) (zs:=nib) hv (by rfl) (show Tryd.prog.globalNamed "rota/sum.nibbles" = some 0 by kernel_rfl) (show (Tryd.prog.globals[0]?).map (·.type)=some 142 by kernel_rfl) Tryd.underlying142 Tryd.underlying63 (by kernel_rfl)
 refine Rel.tables ⟨Tryd.prog,G,F⟩ tbs ?_ ?_
 ·intro p hp
  simp only[tbs,List.mem_cons,List.not_mem_nil,or_false] at hp
  obtain rfl:=hp
  ·exact t0
 ·intro g b e
  simp only[G] at e
  split at e
  ·cases e;exact⟨_,rfl,by simp_all⟩
  cases e
theorem says:SaysTrue Rows.dualTurnedSpec Tryd.f8.params.size:=⟨rfl,fun H ds h=>by
 match ds,h with
 |[_,_],_=>rfl⟩
theorem ty1:tyOf Tryd.prog 9 39=some (.pair (.int .i64) (.pair (.sl (.int .i64)) (.pair (.int .i64) (.pair (.int .i64) (.pair (.int .i64) (.pair (.int .i64) (.pair (.int .i64) (.pair (.int .i64) (.pair (.sl (.pair (.int .i64) (.pair (.int .i64) (.pair (.int .i64) .unit)))) (.pair (.sl (.sl (.int .i64))) (.pair (.sl (.pair (.int .i64) (.pair (.int .i64) (.pair (.int .i64) (.pair (.int .i64) (.pair (.int .i64) (.pair (.int .i64) .unit))))))) (.pair (.sl (.pair (.int .i64) (.pair (.sl (.int .i64)) (.pair (.int .i64) .unit)))) .unit)))))))))))):=by kernel_rfl
theorem ty2:tyOf Tryd.prog 9 47=some (.sl (.pair (.int .i64) (.pair (.pair (.int .i64) (.pair (.int .u16) .unit)) (.pair (.arr 2 (.sl (.pair (.int .i64) (.pair (.sl (.int .u8)) .unit)))) (.pair (.arr 2 (.sl (.pair (.int .i64) (.pair (.int .i64) (.pair (.int .u32) .unit))))) .unit))))):=by kernel_rfl
theorem bulkL (H:Type):BulkLaws (H:=H) Rows.uptoBulk Rows.uptoBulkAll where
 one d:=by
  cases d with
  |lit l=>cases l<;>simp[Rows.uptoBulk]
  |_=>simp[Rows.uptoBulk]
 str l:=by simp[Rows.uptoBulk]
 slice e s:=by simp only[Rows.uptoBulk];omega
 agg p:=by simp only[Rows.uptoBulk];omega
 cons d l:=by simp only[Rows.uptoBulkAll];omega
theorem walk {H:Type} {enc:TypeId × Value→H} (W:World) (args:Array Value) (ds:List (DataW H)) (p:List MemPlace) (hL:laidMetH Tryd.prog Rows.dualTurnedRow.laid W) (hk:Rows.uptoSmall H ds=true) (hok:∃base,∀(j:Nat) t v,Tryd.f8.params[j]?=some t→args[j]?=some v→Value.okWide Tryd.prog W .any base t v)
  (hA:DataW.TrodAll enc Tryd.prog W 0 (fun _=>true) true Tryd.f8.params.toList args.toList ds p):
  Calls Tryd.prog 8 args W fun e W'=>e=.returned (.bool true)∧Below W.heap.size W W':=by
 obtain⟨base,hok⟩:=hok
 rw[Tryd.params8] at hA hok
 obtain⟨v1,vs1,d1,ds1,p1,q1,e1,hds1,-,h1,hA⟩:=trodAll_cons hA
 obtain⟨v2,vs2,d2,ds2,p2,q2,e2,hds2,-,h2,hA⟩:=trodAll_cons hA
 obtain⟨e0,hds0,-⟩:=trodAll_nil hA
 have ha:args=#[v1,v2]:=by
  apply Array.toList_inj.1
  rw[e1,e2,e0]
 subst ha
 obtain⟨m0,hR0⟩:=laid_start hL F
 obtain⟨m1,J1,x1,a1,hR1,l1,r1,w1,n1⟩:=openW (bulkL _) (K:=(⟨Tryd.prog,G,F⟩:Ctx)) ty1 ⟨base,hok 0 _ v1 rfl rfl⟩ (fun _=>rfl) h1 hR0
 obtain⟨m2,J2,x2,a2,hR2,l2,r2,w2,n2⟩:=openW (bulkL _) (K:=(⟨Tryd.prog,G,F⟩:Ctx)) ty2 ⟨base,hok 1 _ v2 rfl rfl⟩ (fun _=>rfl) h2 hR1
 have w1:=w1.keep (ro_app (J:=J2))
 have r1:=r1.later l2
 have hb:=of_decide_eq_true hk
 rw[hds1,hds2,hds0] at hb
 simp only[Rows.uptoBulkAll] at hb
 exact law_calls (K:=(⟨Tryd.prog,G,F⟩:Ctx)) (ok.okFX _ (okX _)) (turned_wc _ (((Begins.refl (tabs tbs)).app J1).app J2) w1 w2 (Nat.le_trans (Nat.add_le_add n1 (Nat.add_le_add n2 (Nat.le_refl 0))) hb)) hR2 (.cons r1 (.cons r2 .nil))
theorem door_met (os:Os) (args:Array Value):laidMetH Tryd.prog Rows.dualTurnedUptoRow.laid ((World.doorLaid Tryd.prog 400 os).forCall (fun _ _=>0) ⟨#[],args,[]⟩).memory:=
 laidMetH_of_parts3 (fuel:=8) (laidMet_of_run' 8 (by kernel_rfl) (by kernel_rfl)) (by kernel_rfl) (by kernel_rfl)
theorem lifted (os:Os) (started:os.Started) (H:Type) (enc:TypeId × Value→H) (F':Stop.Interp):
  ReturnsInHanded {} Tryd.checked os 8 .any ((Rows.OpenSpec.upto Rows.dualTurnedSpec).preRow enc Tryd.prog Tryd.f8 Rows.dualTurnedUptoRow.domain false Rows.dualTurnedUptoRow.laid) (((Rows.OpenSpec.upto Rows.dualTurnedSpec).at F').post enc Tryd.prog Tryd.f8 false true false false):=
 law_lifted_laid_upto (C:=Tryd.checked) (tb:=4) (k:=Rows.uptoSmall) own laidOut started (by kernel_rfl) Tryd.func8 (by kernel_rfl) says (by kernel_rfl) (show Tryd.prog.underlying _=some .bool by kernel_rfl)
  (witness_row_atRef (enc:=enc) (C:=Tryd.checked) false (World.doorLaid Tryd.prog 400 os) (#[.agg #[.int .i64 0,.slice none 0 0,.int .i64 0,.int .i64 0,.int .i64 0,.int .i64 0,.int .i64 0,.int .i64 0,.slice none 0 0,.slice none 0 0,.slice none 0 0,.slice none 0 0],.slice none 0 0]) rfl (by kernel_rfl) (by kernel_rfl) (by kernel_rfl)
   (OpenSpec.preRow_of_cond 8 (x:=([.agg [.lit (.int .i64 0),.nil,.lit (.int .i64 0),.lit (.int .i64 0),.lit (.int .i64 0),.lit (.int .i64 0),.lit (.int .i64 0),.lit (.int .i64 0),.nil,.nil,.nil,.nil],.nil],[],[])) (by kernel_rfl) (by kernel_rfl) (fun k hk=>by cases hk;kernel_rfl) (by kernel_rfl) (door_met os _)))
  (fun W args ds p hL hk hok hA hsz=>walk W args ds p hL hk hok hA)
theorem over:Rows.dualTurnedUptoRow.holds Tryd.pinned (Rows.OpenSpec.upto Rows.dualTurnedSpec):=
 OpenClaim.holds_of_cond 8 Tryd.f8 rfl rfl rfl rfl rfl rfl rfl ⟨rfl,rfl,rfl,rfl,rfl⟩ rfl rfl rfl rfl rfl (by kernel_rfl) Tryd.func8 (by kernel_rfl)
  (of_decide_eq_true (by kernel_rfl)) (by unfold Func.isWrapper;first|(rw[if_pos (by decide +kernel)];kernel_rfl)|(rw[if_neg (by decide +kernel)];exact⟨rfl,rfl⟩))
  (fun os started H enc _ F'=>by rw[OpenClaim.pre_eq_preRow];exact lifted os started H enc F')
theorem holds:Rows.DualTurnedUptoCardSaid:=
 Claim7.holds_tied_plain_at .later [] _ _ _ _ over (fun _ h=>by cases h) (by kernel_rfl) (fun _ h=>by cases h) dualTurnedUpto_row_tie rfl ⟨rfl,rfl⟩ (by kernel_rfl) rfl
  (fun f fn hf hfn=>by
   obtain rfl:f=8:=Option.some.inj ((show Tryd.prog.funcNamed "rota/rotalaw21.DualTurned" = some 8 by kernel_rfl).symm.trans hf) |>.symm
   obtain rfl:fn=Tryd.f8:=(Option.some.inj (Tryd.func8.symm.trans hfn)).symm
   exact⟨by kernel_rfl,fun j t ht=>by
    have key:(Tryd.f8.params.toList.all fun t=>!Tryd.prog.wantsStandIn t)=true:=by kernel_rfl
    have:=List.all_eq_true.1 key t (by simpa using (Array.mem_of_getElem? ht))
    exact(show Tryd.prog.wantsStandIn t=false by simpa using this)⟩)
  (by kernel_rfl)
#print axioms holds
end Go.Proofs.YtjcgdcadflplcaaDoor.AM.D21
