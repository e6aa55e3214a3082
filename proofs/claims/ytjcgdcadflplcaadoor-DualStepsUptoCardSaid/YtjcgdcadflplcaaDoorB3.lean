/- What the functions that this law reaches come to, each walked once, and the plain laws that stand behind them. -/
import Derived.Test.YtjcgdcadflplcaaDoorB2
import Derived.Test.YtjcgdcadflplcaaDoorA4
set_option linter.unusedVariables false
set_option linter.unusedSimpArgs false
set_option linter.unusedSectionVars false
namespace Go.Proofs.YtjcgdcadflplcaaDoor.AM.D21
open Go Go.Proofs.YtjcgdcadflplcaaDoor.AM Go.Proofs.YtjcgdcadflplcaaDoor.AM.C02
set_option maxHeartbeats 2000000
set_option maxRecDepth 100000
attribute [local go_sem] tn_add1 tn_sub1 put_all' nums_len sub12
def okE (c:Cfg) (e:Int):Prop:=if e=21 then c.okNodes else if e=22 then c.okClock else if e=23 then c.okParts else if e=24 then c.okWins else if e=25 then c.okPorts else c.okLinks
def okA (c:Cfg) (e:Int):Prop:=∀d,21≤d→d<e→okE c d
theorem s_fine {N:Nat} {H:Heap} {c:Cfg} {h:Hd} {e:Int} (he:21≤e∧e≤26) (ha:okA c e) (hc:CfgM N H c h) (hN:N≤H.length):WC F fXf [.c (.int .i64 e),.agg (c.cells h)] H fun v H'=>v=.c (.bool (dB (okE c e)))∧Xt H H':=by
 refine WC_start eXf (by simp) ?_
 unfold cXf
 obtain⟨C,hC⟩:∃C,C=c.cells h:=⟨_,rfl⟩
 have hsub:sub C 0 12=some C:=by rw[hC];rfl
 rw[←hC]
 have a1:21<e→c.okNodes:=fun h=>by have:=ha 21 (by omega) h;unfold okE at this;rwa [if_pos rfl] at this
 have a3:23<e→c.okParts:=fun h=>by have:=ha 23 (by omega) h;unfold okE at this;rwa [if_neg (by omega),if_neg (by omega),if_pos rfl] at this
 have a5:25<e→c.okPorts:=fun h=>by have:=ha 25 (by omega) h;unfold okE at this;rwa [if_neg (by omega),if_neg (by omega),if_neg (by omega),if_neg (by omega),if_pos rfl] at this
 have fin0:=hd5 a1 a3 a5 hc hC
 have hcases:e=21∨e=22∨e=23∨e=24∨e=25∨e=26:=by omega
 clear a1 a3 a5 hc ha he hC
 repeat (with_reducible first|(first|refine pI1 ?_|refine pS1 ?_);intros|refine pA1 ?_|refine pX1 ?_|refine pB1 ?_|exact True.intro)
 rename_i b1 H1 p1 g1 x1
 have hk:∀b,b<N→H1[b]?=H[b]?:=fun b hb=>x1 b (by omega)
 have fk:=hd2 hk x1
 clear hk x1
 rcases hcases with rfl|rfl|rfl|rfl|rfl|rfl
 ·repeat (with_reducible first|(first|refine pI1 ?_|refine pS1 ?_);intros|refine pA1 ?_|refine pX1 ?_|refine pB1 ?_|exact True.intro)
  refine fin0 _ fun a1 a3 a5 hc hC=>fk _ fun hk x1=>?_
  subst hC
  refine outM_call (s_cnodes (hc.keep (H':=H1) hk) (by omega)) ?_
  rintro _ H2 ⟨rfl,l2,x2⟩
  have fe:okE c 21=c.okNodes:=by unfold okE;rw[if_pos rfl]
  rw[fe]
  clear hc hk a1 a3 a5 fin0 fk
  repeat (with_reducible first|(first|refine pI1 ?_|refine pS1 ?_);intros|refine pA1 ?_|refine pX1 ?_|refine pB1 ?_|exact True.intro)
  exact⟨rfl,by omega,fun b hb=>by rw[x2 b (by omega),x1 b (by omega)]⟩
 ·repeat (with_reducible first|(first|refine pI1 ?_|refine pS1 ?_);intros|refine pA1 ?_|refine pX1 ?_|refine pB1 ?_|exact True.intro)
  refine fin0 _ fun a1 a3 a5 hc hC=>fk _ fun hk x1=>?_
  subst hC
  refine outM_call (s_cclocks (c:=c) (h:=h)) ?_
  rintro _ H2 ⟨rfl,l2,x2⟩
  have fe:okE c 22=c.okClock:=by unfold okE;rw[if_neg (by omega),if_pos rfl]
  rw[fe]
  clear hc hk a1 a3 a5 fin0 fk
  repeat (with_reducible first|(first|refine pI1 ?_|refine pS1 ?_);intros|refine pA1 ?_|refine pX1 ?_|refine pB1 ?_|exact True.intro)
  exact⟨rfl,by omega,fun b hb=>by rw[x2 b (by omega),x1 b (by omega)]⟩
 ·repeat (with_reducible first|(first|refine pI1 ?_|refine pS1 ?_);intros|refine pA1 ?_|refine pX1 ?_|refine pB1 ?_|exact True.intro)
  refine fin0 _ fun a1 a3 a5 hc hC=>fk _ fun hk x1=>?_
  subst hC
  have hn:=a1 (by omega)
  refine outM_call (s_cparts (hc.keep (H':=H1) hk) (by omega) ⟨hn.1,hn.2.1⟩) ?_
  rintro _ H2 ⟨rfl,l2,x2⟩
  have fe:okE c 23=c.okParts:=by unfold okE;rw[if_neg (by omega),if_neg (by omega),if_pos rfl]
  rw[fe]
  clear hc hk a1 a3 a5 fin0 fk hn
  repeat (with_reducible first|(first|refine pI1 ?_|refine pS1 ?_);intros|refine pA1 ?_|refine pX1 ?_|refine pB1 ?_|exact True.intro)
  exact⟨rfl,by omega,fun b hb=>by rw[x2 b (by omega),x1 b (by omega)]⟩
 ·repeat (with_reducible first|(first|refine pI1 ?_|refine pS1 ?_);intros|refine pA1 ?_|refine pX1 ?_|refine pB1 ?_|exact True.intro)
  refine fin0 _ fun a1 a3 a5 hc hC=>fk _ fun hk x1=>?_
  subst hC
  have hn:=a1 (by omega)
  refine outM_call (s_cwins (hc.keep (H':=H1) hk) (by omega) ⟨hn.1,hn.2.1⟩ (a3 (by omega)).1) ?_
  rintro _ H2 ⟨rfl,l2,x2⟩
  have fe:okE c 24=c.okWins:=by unfold okE;rw[if_neg (by omega),if_neg (by omega),if_neg (by omega),if_pos rfl]
  rw[fe]
  clear hc hk a1 a3 a5 fin0 fk hn
  repeat (with_reducible first|(first|refine pI1 ?_|refine pS1 ?_);intros|refine pA1 ?_|refine pX1 ?_|refine pB1 ?_|exact True.intro)
  exact⟨rfl,by omega,fun b hb=>by rw[x2 b (by omega),x1 b (by omega)]⟩
 ·repeat (with_reducible first|(first|refine pI1 ?_|refine pS1 ?_);intros|refine pA1 ?_|refine pX1 ?_|refine pB1 ?_|exact True.intro)
  refine fin0 _ fun a1 a3 a5 hc hC=>fk _ fun hk x1=>?_
  subst hC
  refine outM_call (s_cports (hc.keep (H':=H1) hk) (by omega) (a3 (by omega)).1) ?_
  rintro _ H2 ⟨rfl,l2,x2⟩
  have fe:okE c 25=c.okPorts:=by unfold okE;rw[if_neg (by omega),if_neg (by omega),if_neg (by omega),if_neg (by omega),if_pos rfl]
  rw[fe]
  clear hc hk a1 a3 a5 fin0 fk
  repeat (with_reducible first|(first|refine pI1 ?_|refine pS1 ?_);intros|refine pA1 ?_|refine pX1 ?_|refine pB1 ?_|exact True.intro)
  exact⟨rfl,by omega,fun b hb=>by rw[x2 b (by omega),x1 b (by omega)]⟩
 ·repeat (with_reducible first|(first|refine pI1 ?_|refine pS1 ?_);intros|refine pA1 ?_|refine pX1 ?_|refine pB1 ?_|exact True.intro)
  refine fin0 _ fun a1 a3 a5 hc hC=>fk _ fun hk x1=>?_
  subst hC
  refine outM_call (s_clinks (hc.keep (H':=H1) hk) (by omega) (a3 (by omega)) (a5 (by omega))) ?_
  rintro _ H2 ⟨rfl,l2,x2⟩
  have fe:okE c 26=c.okLinks:=by unfold okE;rw[if_neg (by omega),if_neg (by omega),if_neg (by omega),if_neg (by omega),if_neg (by omega)]
  rw[fe]
  clear hc hk a1 a3 a5 fin0 fk
  repeat (with_reducible first|(first|refine pI1 ?_|refine pS1 ?_);intros|refine pA1 ?_|refine pX1 ?_|refine pB1 ?_|exact True.intro)
  exact⟨rfl,by omega,fun b hb=>by rw[x2 b (by omega),x1 b (by omega)]⟩
theorem check_is {c:Cfg} {e:Int} (he:21≤e∧e≤26) (ha:okA c e) (h:¬okE c e):c.check=e:=by
 have k:∀d,21≤d→d<e→okE c d:=ha
 have h1:21<e→dB c.okNodes=true:=fun h=>dB_t (by have:=k 21 (by omega) h;unfold okE at this;rwa [if_pos rfl] at this)
 have h2:22<e→dB c.okClock=true:=fun h=>dB_t (by have:=k 22 (by omega) h;unfold okE at this;rwa [if_neg (by omega),if_pos rfl] at this)
 have h3:23<e→dB c.okParts=true:=fun h=>dB_t (by have:=k 23 (by omega) h;unfold okE at this;rwa [if_neg (by omega),if_neg (by omega),if_pos rfl] at this)
 have h4:24<e→dB c.okWins=true:=fun h=>dB_t (by have:=k 24 (by omega) h;unfold okE at this;rwa [if_neg (by omega),if_neg (by omega),if_neg (by omega),if_pos rfl] at this)
 have h5:25<e→dB c.okPorts=true:=fun h=>dB_t (by have:=k 25 (by omega) h;unfold okE at this;rwa [if_neg (by omega),if_neg (by omega),if_neg (by omega),if_neg (by omega),if_pos rfl] at this)
 have hcases:e=21∨e=22∨e=23∨e=24∨e=25∨e=26:=by omega
 unfold okE at h
 unfold Cfg.check
 rcases hcases with rfl|rfl|rfl|rfl|rfl|rfl
 ·rw[if_pos rfl] at h;rw[dB_f h];rfl
 ·rw[if_neg (by omega),if_pos rfl] at h;rw[dB_f h,h1 (by omega)];rfl
 ·rw[if_neg (by omega),if_neg (by omega),if_pos rfl] at h;rw[dB_f h,h1 (by omega),h2 (by omega)];rfl
 ·rw[if_neg (by omega),if_neg (by omega),if_neg (by omega),if_pos rfl] at h;rw[dB_f h,h1 (by omega),h2 (by omega),h3 (by omega)];rfl
 ·rw[if_neg (by omega),if_neg (by omega),if_neg (by omega),if_neg (by omega),if_pos rfl] at h;rw[dB_f h,h1 (by omega),h2 (by omega),h3 (by omega),h4 (by omega)];rfl
 ·rw[if_neg (by omega),if_neg (by omega),if_neg (by omega),if_neg (by omega),if_neg (by omega)] at h;rw[dB_f h,h1 (by omega),h2 (by omega),h3 (by omega),h4 (by omega),h5 (by omega)];rfl
theorem check_all {c:Cfg} (ha:okA c 27):c.check=0:=by
 have k:∀d,21≤d→d<27→okE c d:=ha
 refine Cfg.check_ok.2 ⟨?_,?_,?_,?_,?_,?_⟩
 ·have:=k 21 (by omega) (by omega);unfold okE at this;rwa [if_pos rfl] at this
 ·have:=k 22 (by omega) (by omega);unfold okE at this;rwa [if_neg (by omega),if_pos rfl] at this
 ·have:=k 23 (by omega) (by omega);unfold okE at this;rwa [if_neg (by omega),if_neg (by omega),if_pos rfl] at this
 ·have:=k 24 (by omega) (by omega);unfold okE at this;rwa [if_neg (by omega),if_neg (by omega),if_neg (by omega),if_pos rfl] at this
 ·have:=k 25 (by omega) (by omega);unfold okE at this;rwa [if_neg (by omega),if_neg (by omega),if_neg (by omega),if_neg (by omega),if_pos rfl] at this
 ·have:=k 26 (by omega) (by omega);unfold okE at this;rwa [if_neg (by omega),if_neg (by omega),if_neg (by omega),if_neg (by omega),if_neg (by omega)] at this
theorem s_Check {N:Nat} {H:Heap} {c:Cfg} {h:Hd} (hc:CfgM N H c h) (hN:N≤H.length):WC F fXb [.agg (c.cells h)] H fun v H'=>v=.c (.int .i64 c.check)∧Xt H H':=by
 refine WC_start eXb (by simp) ?_
 unfold cXb
 obtain⟨C,hC⟩:∃C,C=c.cells h:=⟨_,rfl⟩
 have hsub:sub C 0 12=some C:=by rw[hC];rfl
 rw[←hC]
 have fin0:=hd2 hc hC
 clear hc hC
 repeat (with_reducible first|(first|refine pI1 ?_|refine pS1 ?_);intros|refine pA1 ?_|refine pX1 ?_|refine pB1 ?_|exact True.intro)
 rename_i b1 H1 p1 g1 x1
 refine W_loop (fun m st=>∃ρ,∃k:Nat,∃Hk,st=⟨L 13 ρ,[],Hk⟩∧m=6-k∧k≤6∧ρ 1=.c (.ptr (some (b1,0)))∧ρ 3=.c (.int .i64 (21+k:Int))∧okA c (21+k)∧Xt H1 Hk) 6 ⟨_,0,H1,rfl,rfl,by omega,zf,zf,fun d h1 h2=>by omega,Nat.le_refl _,fun _ _=>rfl⟩ ?_
 rintro m st ⟨ρ,k,Hk,rfl,rfl,hk,e1,e3,ha,lk,xk⟩
 unfold bXb_6
 have k1:Hk[b1]?=_:=(xk b1 (by omega)).trans g1
 have yk:∀b,b<H.length→Hk[b]?=H[b]?:=fun b hb=>by rw[xk b (by omega),x1 b (by omega)]
 have fy:=hd3 yk xk ha
 clear yk xk ha x1
 by_cases h6:(21+k:Int)≤26
 ·repeat (with_reducible first|(first|refine pI1 ?_|refine pS1 ?_);intros|refine pA1 ?_|refine pX1 ?_|refine pB1 ?_|exact True.intro)
  refine fin0 _ fun hc hC=>fy _ fun yk xk ha=>?_
  subst hC
  refine outM_call (s_fine (e:=21+k) (by omega) ha (hc.keep (H':=Hk) fun b hb=>yk b (by omega)) (by omega)) ?_
  rintro _ H2 ⟨rfl,l2,x2⟩
  have fz:=hd1 x2
  clear hc yk xk ha x2
  by_cases hok:okE c (21+k)
  ·rw[dB_t hok]
   repeat (with_reducible first|(first|refine pI1 ?_|refine pS1 ?_);intros|refine pA1 ?_|refine pX1 ?_|refine pB1 ?_|exact True.intro)
   exact loopQ_n (6-(k+1)) (by omega) ⟨_,k+1,H2,rfl,rfl,by omega,zf,by rw[show (21+((k+1:Nat):Int))=21+(k:Int)+1 by omega];simp (disch:=first|with_reducible assumption|omega) only [go_sem,*,reduceCtorEq,↓reduceIte,Nat.reduceLT,Nat.reduceBEq,Nat.reduceAdd,Nat.reduceSub,Nat.reduceMul,Nat.reduceDiv,Nat.reduceMod,Nat.reducePow,Nat.reduceEqDiff,Nat.reduceLeDiff,Int.reduceLT,Int.reduceLE,Int.reduceNeg,Int.reduceToNat,Int.reduceAdd,Int.reduceSub,Int.reduceMul,Int.reduceEq,Int.reduceNe,Int.reduceBEq,Int.reduceBNe,Int.reducePow];first|done|rfl,fun d h1 h2=>by
    by_cases e:d=21+k
    ·subst e;exact hok
    ·exact fy _ fun _ _ ha=>ha d h1 (by omega),by omega,fun b hb=>by rw[fz _ fun x2=>x2 b (by omega)];exact fy _ fun _ xk _=>xk b hb⟩
  ·rw[dB_f hok]
   repeat (with_reducible first|(first|refine pI1 ?_|refine pS1 ?_);intros|refine pA1 ?_|refine pX1 ?_|refine pB1 ?_|exact True.intro)
   exact⟨by rw[check_is (by omega) (fy _ fun _ _ ha=>ha) hok],by omega,fun b hb=>by rw[fz _ fun x2=>x2 b (by omega)];exact fy _ fun yk _ _=>yk b hb⟩
 ·obtain rfl:k=6:=by omega
  repeat (with_reducible first|(first|refine pI1 ?_|refine pS1 ?_);intros|refine pA1 ?_|refine pX1 ?_|refine pB1 ?_|exact True.intro)
  exact⟨by rw[check_all (fy _ fun _ _ ha=>ha)],by omega,fy _ fun yk _ _=>yk⟩
end Go.Proofs.YtjcgdcadflplcaaDoor.AM.D21
namespace Go.Proofs.YtjcgdcadflplcaaDoor.AM.D21
open Go Go.Proofs.YtjcgdcadflplcaaDoor.AM Go.Proofs.YtjcgdcadflplcaaDoor.AM.C02
set_option maxHeartbeats 2000000
set_option maxRecDepth 100000
attribute [local go_sem] tn_add1 tn_sub1 put_all' nums_len sub12 sub3 sub6
theorem cn_take {ws:List Int} {x:Int} {i:Nat} (h:i<ws.length):cn x (ws.take (i+1))=cn x (ws.take i)+if gn ws i=x then 1 else 0:=by
 have e:gn ws i=ws[i]:=by simp[gn,h]
 rw[List.take_succ_eq_append_getElem h,cn_app,cn_one,e]
theorem s_rcount {H:Heap} {n c:Nat} {a:Option Ad} {o:Bool} {ws:List Int} {x:Int} (hn:n≤10000000) (hl:ws.length=n) (hs:Sl H 1 a n (nums ws)):
  WC F fX1h [.c (.sl a n c o),.c (.int .i64 x)] H fun v H'=>v=.c (.int .i64 (cn x ws:Nat))∧H'=H:=by
 refine WC_start eX1h (by simp) ?_
 unfold cX1h
 have fin0:=hd2 hs hl
 have hcl:∀i,cn x (ws.take i)≤n:=fun i=>by
  have h1:cn x (ws.take i)≤(ws.take i).length:=List.countP_le_length
  rw[List.length_take] at h1;omega
 have fcl:=hd1 hcl
 clear hs hl hcl
 repeat (with_reducible first|(first|refine pI1 ?_|refine pS1 ?_);intros|refine pA1 ?_|refine pX1 ?_|refine pB1 ?_|exact True.intro)
 refine W_loop (fun m st=>∃ρ,∃i:Nat,st=⟨L 22 ρ,[],H⟩∧m=n-i∧i≤n∧ρ 0=.c (.sl a n c o)∧ρ 1=.c (.int .i64 x)∧ρ 5=.c (.int .i64 (cn x (ws.take i):Nat))∧ρ 6=.c (.int .i64 (i:Nat))) n ⟨_,0,rfl,by omega,by omega,zf,zf,zf,zf⟩ ?_
 rintro m st ⟨ρ,i,rfl,rfl,hi,e0,e1,e5,e6⟩
 unfold bX1h_7
 by_cases hin:i<n
 ·obtain⟨⟨lb,y⟩,ea⟩:=fin0 _ fun hs _=>hs.is_some (by omega)
  have hld:=fin0 _ fun hs hl=>Sl.gn (by rw[ea] at hs;exact hs) hl hin
  dsimp only at hld
  have hct:=fin0 _ fun _ hl=>cn_take (x:=x) (by rw[hl];exact hin)
  have hc1:=fcl _ fun h=>h i
  rw[ea] at e0
  have hxt:(i:Int)<(n:Int):=by omega
  generalize cn x (ws.take i)=k at *
  generalize gn ws i=u at *
  have f1:=hd2 hct ea
  clear hct ea
  by_cases h1:u=x
  ·have hk:cn x (ws.take (i+1))=k+1:=f1 _ fun h _=>by rw[h,if_pos h1]
   have fk:=hd1 hk
   clear hk
   subst h1
   repeat (with_reducible first|(first|refine pI1 ?_|refine pS1 ?_);intros|refine pA1 ?_|refine pX1 ?_|refine pB1 ?_|exact True.intro)
   exact loopQ_n (n-(i+1)) (by omega) ⟨_,i+1,rfl,by omega,by omega,by rw[f1 _ fun _ h=>h];exact zf,zf,by rw[fk _ fun h=>h];exact zf,zf⟩
  ·have hk:cn x (ws.take (i+1))=k:=f1 _ fun h _=>by rw[h,if_neg h1];rfl
   have fk:=hd1 hk
   clear hk
   repeat (with_reducible first|(first|refine pI1 ?_|refine pS1 ?_);intros|refine pA1 ?_|refine pX1 ?_|refine pB1 ?_|exact True.intro)
   exact loopQ_n (n-(i+1)) (by omega) ⟨_,i+1,rfl,by omega,by omega,by rw[f1 _ fun _ h=>h];exact zf,zf,by rw[fk _ fun h=>h];exact zf,zf⟩
 ·obtain rfl:i=n:=by omega
  have e:ws.take i=ws:=fin0 _ fun _ hl=>by rw[←hl];exact List.take_length
  rw[e] at e5
  have hxt:¬(i:Int)<(i:Int):=by omega
  clear fcl fin0 e
  repeat (with_reducible first|(first|refine pI1 ?_|refine pS1 ?_);intros|refine pA1 ?_|refine pX1 ?_|refine pB1 ?_|exact True.intro)
  exact⟨rfl,rfl⟩
theorem s_rmeet {H:Heap} {a b c d:Nat} (hb:b≤1000000):WC F fX1k [.c (.int .i64 (a:Nat)),.c (.int .i64 (b:Nat)),.c (.int .i64 (c:Nat)),.c (.int .i64 (d:Nat))] H fun v H'=>v=.c (.bool (dB (Cfg.meets a b c d)))∧H'=H:=by
 refine WC_start eX1k (by simp) ?_
 unfold cX1k
 have hmt:Cfg.meets a b c d↔max (a:Int) c<min (b:Int) d:=Iff.rfl
 have fm:=hd1 hmt
 clear hmt
 repeat (with_reducible first|(first|refine pI1 ?_|refine pS1 ?_);intros|refine pA1 ?_|refine pX1 ?_|refine pB1 ?_|exact True.intro)
 refine W_loop (fun m st=>∃ρ,∃i:Nat,st=⟨L 24 ρ,[],H⟩∧m=b-i∧a≤i∧ρ 0=.c (.int .i64 (a:Nat))∧ρ 1=.c (.int .i64 (b:Nat))∧ρ 2=.c (.int .i64 (c:Nat))∧ρ 3=.c (.int .i64 (d:Nat))∧ρ 9=.c (.int .i64 (i:Nat))∧∀j,a≤j→j<i→j<b→¬(c≤j∧j<d)) (b-a) ⟨_,a,rfl,by omega,by omega,zf,zf,zf,zf,zf,fun j h1 h2=>by omega⟩ ?_
 rintro m st ⟨ρ,i,rfl,rfl,hi,e0,e1,e2,e3,e9,hall⟩
 unfold bX1k_6
 have fa:=hd1 hall
 clear hall
 by_cases hin:i<b
 ·have hxt:(i:Int)<(b:Int):=by omega
  by_cases h1:c≤i
  ·by_cases h2:i<d
   ·have e:dB (Cfg.meets a b c d)=true:=dB_t (fm _ fun h=>h.2 (by omega))
    rw[e]
    repeat (with_reducible first|(first|refine pI1 ?_|refine pS1 ?_);intros|refine pA1 ?_|refine pX1 ?_|refine pB1 ?_|exact True.intro)
    exact⟨rfl,rfl⟩
   ·repeat (with_reducible first|(first|refine pI1 ?_|refine pS1 ?_);intros|refine pA1 ?_|refine pX1 ?_|refine pB1 ?_|exact True.intro)
    exact loopQ_n (b-(i+1)) (by omega) ⟨_,i+1,rfl,by omega,by omega,zf,zf,zf,zf,zf,fun j q1 q2 q3=>by
     by_cases e:j=i
     ·subst e;omega
     ·exact fa _ fun h=>h j q1 (by omega) q3⟩
  ·repeat (with_reducible first|(first|refine pI1 ?_|refine pS1 ?_);intros|refine pA1 ?_|refine pX1 ?_|refine pB1 ?_|exact True.intro)
   exact loopQ_n (b-(i+1)) (by omega) ⟨_,i+1,rfl,by omega,by omega,zf,zf,zf,zf,zf,fun j q1 q2 q3=>by
    by_cases e:j=i
    ·subst e;omega
    ·exact fa _ fun h=>h j q1 (by omega) q3⟩
 ·have hxt:¬(i:Int)<(b:Int):=by omega
  have e:dB (Cfg.meets a b c d)=false:=dB_f (fm _ fun hm h=>by
   have h:=hm.1 h
   exact fa _ fun hall=>hall (max a c) (by omega) (by omega) (by omega) ⟨by omega,by omega⟩)
  rw[e]
  repeat (with_reducible first|(first|refine pI1 ?_|refine pS1 ?_);intros|refine pA1 ?_|refine pX1 ?_|refine pB1 ?_|exact True.intro)
  exact⟨rfl,rfl⟩
section
variable {N:Nat} {H:Heap} {c:Cfg} {h:Hd}
theorem s_rPrec (hd:0≤c.drift∧c.drift≤1048576∧0≤c.reading∧c.reading≤1048576):WC F fX1e [.agg (c.cells h)] H fun v H'=>v=.c (.int .i64 c.prec)∧Xt H H':=by
 refine WC_start eX1e (by simp) ?_
 unfold cX1e Cfg.prec Cfg.cells
 obtain⟨d1,d2,d3,d4⟩:=hd
 repeat (with_reducible first|(first|refine pI1 ?_|refine pS1 ?_);intros|refine pA1 ?_|refine pX1 ?_|refine pB1 ?_|exact True.intro)
 rename_i b1 H1 p1 g1 x1
 repeat (with_reducible first|(first|refine pI1 ?_|refine pS1 ?_);intros|refine pA1 ?_|refine pX1 ?_|refine pB1 ?_|exact True.intro)
 exact⟨rfl,by omega,fun b hb=>x1 b (by omega)⟩
theorem s_ris {n:Int}:WC F fX1i [.agg (c.cells h),.c (.int .i64 n)] H fun v H'=>v=.c (.bool (decide (0≤n∧n<(c.ports.length:Int))))∧Xt H H':=by
 refine WC_start eX1i (by simp) ?_
 unfold cX1i Cfg.cells
 obtain⟨k,hk⟩:∃k,c.ports.length=k:=⟨_,rfl⟩
 rw[hk]
 clear hk
 by_cases h1:0≤n
 ·by_cases h2:n<k
  ·repeat (with_reducible first|(first|refine pI1 ?_|refine pS1 ?_);intros|refine pA1 ?_|refine pX1 ?_|refine pB1 ?_|exact True.intro)
   rename_i b1 H1 p1 g1 x1
   repeat (with_reducible first|(first|refine pI1 ?_|refine pS1 ?_);intros|refine pA1 ?_|refine pX1 ?_|refine pB1 ?_|exact True.intro)
   exact⟨by simp[h1,h2],by omega,fun b hb=>x1 b (by omega)⟩
  ·repeat (with_reducible first|(first|refine pI1 ?_|refine pS1 ?_);intros|refine pA1 ?_|refine pX1 ?_|refine pB1 ?_|exact True.intro)
   rename_i b1 H1 p1 g1 x1
   repeat (with_reducible first|(first|refine pI1 ?_|refine pS1 ?_);intros|refine pA1 ?_|refine pX1 ?_|refine pB1 ?_|exact True.intro)
   exact⟨by simp[h2],by omega,fun b hb=>x1 b (by omega)⟩
 ·repeat (with_reducible first|(first|refine pI1 ?_|refine pS1 ?_);intros|refine pA1 ?_|refine pX1 ?_|refine pB1 ?_|exact True.intro)
  rename_i b1 H1 p1 g1 x1
  repeat (with_reducible first|(first|refine pI1 ?_|refine pS1 ?_);intros|refine pA1 ?_|refine pX1 ?_|refine pB1 ?_|exact True.intro)
  exact⟨by simp[h1],by omega,fun b hb=>x1 b (by omega)⟩
theorem s_rnodes (hc:CfgM N H c h) (hN:N≤H.length) (hw:c.owners.length≤10000000):WC F fX1l [.agg (c.cells h)] H fun v H'=>v=.c (.bool (dB c.okNodes))∧Xt H H':=by
 refine WC_start eX1l (by simp) ?_
 unfold cX1l Cfg.cells
 obtain⟨n,hn⟩:∃n,c.owners.length=n:=⟨_,rfl⟩
 rw[hn] at hw ⊢
 obtain⟨nd,hnd⟩:∃nd,c.nodes=nd:=⟨_,rfl⟩
 rw[hnd]
 have ho:=hc.owners
 rw[hn] at ho
 have hlt:∀b x,h.a1=some (b,x)→b<H.length:=fun b x e=>by have:=hc.ownersN b x e;omega
 have hok:c.okNodes↔(4≤nd∧nd≤16∧(n:Int)=nd∧∀k:Nat,(k:Int)<nd→(k:Int)∈c.owners):=by unfold Cfg.okNodes;rw[hnd,hn]
 have fin0:=hd4 ho hn hlt hok
 clear hnd hc hok ho hn hlt
 by_cases h1:nd<4
 ·have e:dB c.okNodes=false:=dB_f fun h=>fin0 _ fun _ _ _ hok=>by have:=(hok.1 h).1;omega
  rw[e]
  repeat (with_reducible first|(first|refine pI1 ?_|refine pS1 ?_);intros|refine pA1 ?_|refine pX1 ?_|refine pB1 ?_|exact True.intro)
  rename_i b1 H1 p1 g1 x1
  repeat (with_reducible first|(first|refine pI1 ?_|refine pS1 ?_);intros|refine pA1 ?_|refine pX1 ?_|refine pB1 ?_|exact True.intro)
  exact⟨rfl,by omega,fun b hb=>x1 b (by omega)⟩
 by_cases h2:16<nd
 ·have e:dB c.okNodes=false:=dB_f fun h=>fin0 _ fun _ _ _ hok=>by have:=(hok.1 h).2.1;omega
  rw[e]
  repeat (with_reducible first|(first|refine pI1 ?_|refine pS1 ?_);intros|refine pA1 ?_|refine pX1 ?_|refine pB1 ?_|exact True.intro)
  rename_i b1 H1 p1 g1 x1
  repeat (with_reducible first|(first|refine pI1 ?_|refine pS1 ?_);intros|refine pA1 ?_|refine pX1 ?_|refine pB1 ?_|exact True.intro)
  exact⟨rfl,by omega,fun b hb=>x1 b (by omega)⟩
 by_cases h3:(n:Int)=nd
 case neg=>
  have e:dB c.okNodes=false:=dB_f fun h=>fin0 _ fun _ _ _ hok=>h3 (hok.1 h).2.2.1
  rw[e]
  repeat (with_reducible first|(first|refine pI1 ?_|refine pS1 ?_);intros|refine pA1 ?_|refine pX1 ?_|refine pB1 ?_|exact True.intro)
  rename_i b1 H1 p1 g1 x1
  repeat (with_reducible first|(first|refine pI1 ?_|refine pS1 ?_);intros|refine pA1 ?_|refine pX1 ?_|refine pB1 ?_|exact True.intro)
  exact⟨rfl,by omega,fun b hb=>x1 b (by omega)⟩
 subst h3
 repeat (with_reducible first|(first|refine pI1 ?_|refine pS1 ?_);intros|refine pA1 ?_|refine pX1 ?_|refine pB1 ?_|exact True.intro)
 rename_i b1 H1 p1 g1 x1
 have ho1:Sl H1 1 h.a1 n (nums c.owners):=fin0 _ fun ho _ hlt _=>ho.keep fun b x e=>x1 b (by have:=hlt b x e;omega)
 have fx:=hd2 x1 ho1
 clear x1 ho1
 repeat (with_reducible first|(first|refine pI1 ?_|refine pS1 ?_);intros|refine pA1 ?_|refine pX1 ?_|refine pB1 ?_|exact True.intro)
 refine W_loop (fun m st=>∃ρ,∃i:Nat,st=⟨L 31 ρ,[],H1⟩∧m=n-i∧i≤n∧ρ 1=.c (.ptr (some (b1,0)))∧ρ 3=.c (.int .i64 (i:Nat))∧∀j:Nat,j<i→cn (j:Int) c.owners=1) n ⟨_,0,rfl,by omega,by omega,zf,zf,fun j hj=>by omega⟩ ?_
 rintro m st ⟨ρ,i,rfl,rfl,hi,e1,e3,hall⟩
 unfold bX1l_8
 have fa:=hd1 hall
 clear hall
 by_cases hin:i<n
 ·have hxt:(i:Int)<(n:Int):=by omega
  have hcnt:=fx _ fun _ ho1=>fin0 _ fun _ hn _ _=>s_rcount (c:=h.c1) (o:=h.o1) (x:=(i:Nat)) hw hn ho1
  have hyes:cn (i:Int) c.owners=1→∀j:Nat,j<i+1→cn (j:Int) c.owners=1:=fun h1 j hj=>by
   by_cases e:j=i
   ·subst e;exact h1
   ·exact fa _ fun hall=>hall j (by omega)
  have hno:cn (i:Int) c.owners≠1→dB c.okNodes=false:=fun hne=>dB_f fun h=>fin0 _ fun _ hn _ hok=>by
   obtain⟨q1,q2,q3,q4⟩:=hok.1 h
   exact hne (once hn (fun k hk=>q4 k (by omega)) i hin)
  have hkb:cn (i:Int) c.owners≤n:=fin0 _ fun _ hn _ _=>by rw[←hn];exact List.countP_le_length
  generalize cn (i:Int) c.owners=k at *
  have fy:=hd2 hyes hno
  clear hyes hno
  repeat (with_reducible first|(first|refine pI1 ?_|refine pS1 ?_);intros|refine pA1 ?_|refine pX1 ?_|refine pB1 ?_|exact True.intro)
  refine outM_call hcnt ?_
  rintro _ H1 ⟨rfl,rfl⟩
  clear hcnt
  by_cases hk:k=1
  ·have hk':=fy _ fun hy _=>hy hk
   have fk:=hd1 hk'
   clear hk'
   subst hk
   repeat (with_reducible first|(first|refine pI1 ?_|refine pS1 ?_);intros|refine pA1 ?_|refine pX1 ?_|refine pB1 ?_|exact True.intro)
   exact loopQ_n (n-(i+1)) (by omega) ⟨_,i+1,rfl,by omega,by omega,zf,zf,fk _ fun h=>h⟩
  ·have hk':¬(k:Int)=1:=by omega
   have e:=fy _ fun _ hno=>hno hk
   rw[e]
   repeat (with_reducible first|(first|refine pI1 ?_|refine pS1 ?_);intros|refine pA1 ?_|refine pX1 ?_|refine pB1 ?_|exact True.intro)
   exact⟨rfl,by omega,fx _ fun x1 _ b hb=>x1 b (by omega)⟩
 ·obtain rfl:i=n:=by omega
  have hxt:¬(i:Int)<(i:Int):=by omega
  have e:dB c.okNodes=true:=dB_t (fin0 _ fun _ hn _ hok=>hok.2 ⟨by omega,by omega,rfl,fun k hk=>cn_pos.1 (by have:=fa _ fun hall=>hall k (by omega);omega)⟩)
  rw[e]
  repeat (with_reducible first|(first|refine pI1 ?_|refine pS1 ?_);intros|refine pA1 ?_|refine pX1 ?_|refine pB1 ?_|exact True.intro)
  exact⟨rfl,by omega,fx _ fun x1 _ b hb=>x1 b (by omega)⟩
end
end Go.Proofs.YtjcgdcadflplcaaDoor.AM.D21
namespace Go.Proofs.YtjcgdcadflplcaaDoor.AM.D21
open Go Go.Proofs.YtjcgdcadflplcaaDoor.AM Go.Proofs.YtjcgdcadflplcaaDoor.AM.C02
set_option maxHeartbeats 2000000
set_option maxRecDepth 100000
attribute [local go_sem] tn_add1 tn_sub1 put_all' nums_len sub12 sub3 sub6
section
variable {N:Nat} {H:Heap} {c:Cfg} {h:Hd}
theorem s_rclock:WC F fX1g [.agg (c.cells h)] H fun v H'=>v=.c (.bool (dB c.okClock))∧Xt H H':=by
 have hP:∀Hx:Heap,(0≤c.drift∧c.drift≤1048576∧0≤c.reading∧c.reading≤1048576)→_:=fun Hx h1=>s_rPrec (H:=Hx) (c:=c) (h:=h) h1
 have hpr:c.prec=2 * (c.drift+c.reading)+1:=rfl
 have hok:c.okClock↔(0≤c.drift∧c.drift≤1048576∧0≤c.reading∧c.reading≤1048576∧2 * c.prec+c.reading≤c.margin∧c.margin≤16777216∧2 * c.prec+c.reading≤c.bound∧c.bound≤16777216∧1≤c.rejoin∧c.rejoin≤8∧1≤c.quota∧c.quota≤16):=Iff.rfl
 rw[dB_iff hok]
 clear hok
 unfold Cfg.cells at *
 generalize c.prec=p at *
 generalize c.drift=d at *
 generalize c.reading=r at *
 generalize c.margin=m at *
 generalize c.bound=bo at *
 generalize c.rejoin=rj at *
 generalize c.quota=q at *
 refine WC_start eX1g (by simp) ?_
 unfold cX1g
 by_cases h1:d<0
 ·clear hP
  repeat (with_reducible first|(first|refine pI1 ?_|refine pS1 ?_);intros|refine pA1 ?_|refine pX1 ?_|refine pB1 ?_|exact True.intro)
  rename_i b1 H1 p1 g1 x1
  repeat (with_reducible first|(first|refine pI1 ?_|refine pS1 ?_);intros|refine pA1 ?_|refine pX1 ?_|refine pB1 ?_|exact True.intro)
  exact⟨by rw[dB_f (by omega)],by omega,fun b hb=>x1 b (by omega)⟩
 by_cases h2:1048576<d
 ·clear hP
  repeat (with_reducible first|(first|refine pI1 ?_|refine pS1 ?_);intros|refine pA1 ?_|refine pX1 ?_|refine pB1 ?_|exact True.intro)
  rename_i b1 H1 p1 g1 x1
  repeat (with_reducible first|(first|refine pI1 ?_|refine pS1 ?_);intros|refine pA1 ?_|refine pX1 ?_|refine pB1 ?_|exact True.intro)
  exact⟨by rw[dB_f (by omega)],by omega,fun b hb=>x1 b (by omega)⟩
 by_cases h3:r<0
 ·clear hP
  repeat (with_reducible first|(first|refine pI1 ?_|refine pS1 ?_);intros|refine pA1 ?_|refine pX1 ?_|refine pB1 ?_|exact True.intro)
  rename_i b1 H1 p1 g1 x1
  repeat (with_reducible first|(first|refine pI1 ?_|refine pS1 ?_);intros|refine pA1 ?_|refine pX1 ?_|refine pB1 ?_|exact True.intro)
  exact⟨by rw[dB_f (by omega)],by omega,fun b hb=>x1 b (by omega)⟩
 by_cases h4:1048576<r
 ·clear hP
  repeat (with_reducible first|(first|refine pI1 ?_|refine pS1 ?_);intros|refine pA1 ?_|refine pX1 ?_|refine pB1 ?_|exact True.intro)
  rename_i b1 H1 p1 g1 x1
  repeat (with_reducible first|(first|refine pI1 ?_|refine pS1 ?_);intros|refine pA1 ?_|refine pX1 ?_|refine pB1 ?_|exact True.intro)
  exact⟨by rw[dB_f (by omega)],by omega,fun b hb=>x1 b (by omega)⟩
 have hP:=fun Hx=>hP Hx ⟨by omega,by omega,by omega,by omega⟩
 have hpb:1≤p∧p≤4194305:=by omega
 obtain⟨p1,p2⟩:=hpb
 have fp:=hd2 hP hpr
 clear hP hpr
 repeat (with_reducible first|(first|refine pI1 ?_|refine pS1 ?_);intros|refine pA1 ?_|refine pX1 ?_|refine pB1 ?_|exact True.intro)
 rename_i b1 H1 q1 g1 x1
 have fx:=hd1 x1
 clear x1
 repeat (with_reducible first|(first|refine pI1 ?_|refine pS1 ?_);intros|refine pA1 ?_|refine pX1 ?_|refine pB1 ?_|exact True.intro)
 refine outM_call (fp _ fun hP _=>hP H1) ?_
 rintro _ H2 ⟨rfl,l2,x2⟩
 have g2:H2[b1]?=_:=(x2 b1 (by omega)).trans g1
 have fx2:=hd1 x2
 clear x2 g1
 repeat (with_reducible first|(first|refine pI1 ?_|refine pS1 ?_);intros|refine pA1 ?_|refine pX1 ?_|refine pB1 ?_|exact True.intro)
 refine outM_call (fp _ fun hP _=>hP H2) ?_
 rintro _ H3 ⟨rfl,l3,x3⟩
 have g3:H3[b1]?=_:=(x3 b1 (by omega)).trans g2
 have y3:∀b,b<H.length→H3[b]?=H[b]?:=fun b hb=>by rw[x3 b (by omega),fx2 _ fun x2=>x2 b (by omega)];exact fx _ fun x1=>x1 b (by omega)
 have fy:=hd1 y3
 clear x3 g2 y3 fx fx2
 obtain⟨least,hle⟩:∃least,p+p+r=least:=⟨_,rfl⟩
 by_cases m1:least≤m
 case neg=>
  have m1':¬m≥least:=m1
  repeat (with_reducible first|(first|refine pI1 ?_|refine pS1 ?_);intros|refine pA1 ?_|refine pX1 ?_|refine pB1 ?_|exact True.intro)
  exact⟨by rw[dB_f (by omega)],by omega,fy _ fun y=>y⟩
 by_cases m2:m≤16777216
 case neg=>
  repeat (with_reducible first|(first|refine pI1 ?_|refine pS1 ?_);intros|refine pA1 ?_|refine pX1 ?_|refine pB1 ?_|exact True.intro)
  exact⟨by rw[dB_f (by omega)],by omega,fy _ fun y=>y⟩
 by_cases m3:least≤bo
 case neg=>
  repeat (with_reducible first|(first|refine pI1 ?_|refine pS1 ?_);intros|refine pA1 ?_|refine pX1 ?_|refine pB1 ?_|exact True.intro)
  exact⟨by rw[dB_f (by omega)],by omega,fy _ fun y=>y⟩
 by_cases m4:bo≤16777216
 case neg=>
  repeat (with_reducible first|(first|refine pI1 ?_|refine pS1 ?_);intros|refine pA1 ?_|refine pX1 ?_|refine pB1 ?_|exact True.intro)
  exact⟨by rw[dB_f (by omega)],by omega,fy _ fun y=>y⟩
 by_cases m5:1≤rj
 case neg=>
  repeat (with_reducible first|(first|refine pI1 ?_|refine pS1 ?_);intros|refine pA1 ?_|refine pX1 ?_|refine pB1 ?_|exact True.intro)
  exact⟨by rw[dB_f (by omega)],by omega,fy _ fun y=>y⟩
 by_cases m6:rj≤8
 case neg=>
  repeat (with_reducible first|(first|refine pI1 ?_|refine pS1 ?_);intros|refine pA1 ?_|refine pX1 ?_|refine pB1 ?_|exact True.intro)
  exact⟨by rw[dB_f (by omega)],by omega,fy _ fun y=>y⟩
 by_cases m7:1≤q
 case neg=>
  repeat (with_reducible first|(first|refine pI1 ?_|refine pS1 ?_);intros|refine pA1 ?_|refine pX1 ?_|refine pB1 ?_|exact True.intro)
  exact⟨by rw[dB_f (by omega)],by omega,fy _ fun y=>y⟩
 by_cases m8:q≤16
 case neg=>
  repeat (with_reducible first|(first|refine pI1 ?_|refine pS1 ?_);intros|refine pA1 ?_|refine pX1 ?_|refine pB1 ?_|exact True.intro)
  exact⟨by rw[dB_f (by omega)],by omega,fy _ fun y=>y⟩
 repeat (with_reducible first|(first|refine pI1 ?_|refine pS1 ?_);intros|refine pA1 ?_|refine pX1 ?_|refine pB1 ?_|exact True.intro)
 exact⟨by rw[dB_t (by omega)],by omega,fy _ fun y=>y⟩
end
end Go.Proofs.YtjcgdcadflplcaaDoor.AM.D21
namespace Go.Proofs.YtjcgdcadflplcaaDoor.AM.D21
open Go Go.Proofs.YtjcgdcadflplcaaDoor.AM Go.Proofs.YtjcgdcadflplcaaDoor.AM.C02
set_option maxHeartbeats 2000000
set_option maxRecDepth 100000
attribute [local go_sem] tn_add1 tn_sub1 put_all' nums_len sub12 sub3 sub6
section
variable {N:Nat} {H:Heap} {c:Cfg} {h:Hd}
theorem s_rparts (hc:CfgM N H c h) (hN:N≤H.length) (hnd:4≤c.nodes∧c.nodes≤16):WC F fX1m [.agg (c.cells h)] H fun v H'=>v=.c (.bool (dB c.okParts))∧Xt H H':=by
 refine WC_start eX1m (by simp) ?_
 unfold cX1m Cfg.cells
 obtain⟨n,hn⟩:∃n,c.parts.length=n:=⟨_,rfl⟩
 rw[hn]
 obtain⟨n1,n2⟩:=hnd
 obtain⟨nd,hnd⟩:∃nd,c.nodes=nd:=⟨_,rfl⟩
 rw[hnd] at n1 n2 ⊢
 have fin0:=hd3 hc hn hnd
 clear hc hn hnd
 by_cases hbig:32<n
 ·have e:dB c.okParts=false:=dB_f fun h=>fin0 _ fun _ hn _=>by have:=h.1;omega
  rw[e]
  repeat (with_reducible first|(first|refine pI1 ?_|refine pS1 ?_);intros|refine pA1 ?_|refine pX1 ?_|refine pB1 ?_|exact True.intro)
  rename_i b1 H1 p1 g1 x1
  repeat (with_reducible first|(first|refine pI1 ?_|refine pS1 ?_);intros|refine pA1 ?_|refine pX1 ?_|refine pB1 ?_|exact True.intro)
  exact⟨rfl,by omega,fun b hb=>x1 b (by omega)⟩
 repeat (with_reducible first|(first|refine pI1 ?_|refine pS1 ?_);intros|refine pA1 ?_|refine pX1 ?_|refine pB1 ?_|exact True.intro)
 rename_i b1 H1 p1 g1 x1
 have fx:=hd1 x1
 clear x1
 repeat (with_reducible first|(first|refine pI1 ?_|refine pS1 ?_);intros|refine pA1 ?_|refine pX1 ?_|refine pB1 ?_|exact True.intro)
 refine W_loop (fun m st=>∃ρ,∃i:Nat,∃Hk,st=⟨L 90 ρ,[],Hk⟩∧m=n-i∧i≤n∧ρ 1=.c (.ptr (some (b1,0)))∧ρ 3=.c (.int .i64 (i:Nat))∧H1.length≤Hk.length∧Hid ((∀d,d<H1.length→Hk[d]?=H1[d]?)∧∀j,j<i→c.okPart (c.part (j:Nat)))) n ⟨_,0,H1,rfl,rfl,by omega,zf,zf,Nat.le_refl _,fun _ _=>rfl,fun j hj=>by omega⟩ ?_
 rintro m st ⟨ρ,i,Hk,rfl,rfl,hi,e1,e3,lk,hall⟩
 unfold bX1m_9
 have k1:Hk[b1]?=_:=(hall.1 b1 (by omega)).trans g1
 by_cases hin:i<n
 ·have hxt:(i:Int)<(n:Int):=by omega
  obtain⟨la,y,ea,hla,hld,hmem⟩:=fin0 _ fun hc hn _=>part_at hc (i:=i) (by omega)
  have yk:∀b,b<H.length→Hk[b]?=H[b]?:=fun b hb=>(hall.1 b (by omega)).trans (fx _ fun x1=>x1 b (by omega))
  rw[←yk la (by omega)] at hld
  have hokp:c.okPart (c.part (i:Nat))↔(0≤(c.part (i:Nat)).node∧(c.part (i:Nat)).node≤nd-1∧0≤(c.part (i:Nat)).lo∧(c.part (i:Nat)).lo≤(c.part (i:Nat)).hi∧(c.part (i:Nat)).hi≤256):=fin0 _ fun _ _ hnd=>by rw[←hnd];exact Iff.rfl
  have hnot:¬c.okPart (c.part (i:Nat))→dB c.okParts=false:=fun h=>dB_f fun h'=>h (h'.2.1 _ hmem)
  have hnext:c.okPart (c.part (i:Nat))→∀j,j<i+1→c.okPart (c.part (j:Nat)):=fun h j hj=>by
   by_cases e:j=i
   ·subst e;exact h
   ·exact hall.2 j (by omega)
  generalize c.okPart (c.part (i:Nat))=P at *
  generalize c.part (i:Nat)=p at *
  obtain⟨pn,lo,hi_⟩:=p
  dsimp only [Pa.cells] at hld hokp
  have fin2:=hd5 hnot hnext hall yk hokp
  clear hnot hnext hmem hall yk hokp
  have hout:¬(0≤pn∧pn≤nd-1∧0≤lo∧lo≤hi_∧hi_≤256)→dB c.okParts=false:=fun h=>fin2 _ fun hnot _ _ _ hokp=>hnot fun hp=>h (hokp.1 hp)
  have fo:=hd1 hout
  clear hout
  rw[ea] at k1
  have fea:=hd1 ea
  clear ea
  have hend:∀H',Hk.length≤H'.length→(∀b,b<Hk.length→H'[b]?=Hk[b]?)→Xt H H':=fun H' l x=>⟨by omega,fun b hb=>by rw[x b (by omega)];exact fin2 _ fun _ _ _ yk _=>yk b hb⟩
  have fe:=hd1 hend
  clear hend
  by_cases c1:pn<0
  ·have e:=fo _ fun h=>h (by omega)
   rw[e]
   repeat (with_reducible first|(first|refine pI1 ?_|refine pS1 ?_);intros|refine pA1 ?_|refine pX1 ?_|refine pB1 ?_|exact True.intro)
   rename_i b3 H3 p3 g3 x3 H4 l4 g4 x4
   repeat (with_reducible first|(first|refine pI1 ?_|refine pS1 ?_);intros|refine pA1 ?_|refine pX1 ?_|refine pB1 ?_|exact True.intro)
   exact⟨rfl,fe _ fun h=>h _ (by omega) fun b hb=>by rw[x4 b (by omega),x3 b (by omega)]⟩
  by_cases c2:nd≤pn
  ·have e:=fo _ fun h=>h (by omega)
   rw[e]
   repeat (with_reducible first|(first|refine pI1 ?_|refine pS1 ?_);intros|refine pA1 ?_|refine pX1 ?_|refine pB1 ?_|exact True.intro)
   rename_i b3 H3 p3 g3 x3 H4 l4 g4 x4
   have k1':=(x4 b1 (by omega)).trans ((x3 b1 (by omega)).trans k1)
   repeat (with_reducible first|(first|refine pI1 ?_|refine pS1 ?_);intros|refine pA1 ?_|refine pX1 ?_|refine pB1 ?_|exact True.intro)
   exact⟨rfl,fe _ fun h=>h _ (by omega) fun b hb=>by rw[x4 b (by omega),x3 b (by omega)]⟩
  by_cases c3:lo<0
  ·have e:=fo _ fun h=>h (by omega)
   rw[e]
   repeat (with_reducible first|(first|refine pI1 ?_|refine pS1 ?_);intros|refine pA1 ?_|refine pX1 ?_|refine pB1 ?_|exact True.intro)
   rename_i b3 H3 p3 g3 x3 H4 l4 g4 x4
   have k1':=(x4 b1 (by omega)).trans ((x3 b1 (by omega)).trans k1)
   repeat (with_reducible first|(first|refine pI1 ?_|refine pS1 ?_);intros|refine pA1 ?_|refine pX1 ?_|refine pB1 ?_|exact True.intro)
   exact⟨rfl,fe _ fun h=>h _ (by omega) fun b hb=>by rw[x4 b (by omega),x3 b (by omega)]⟩
  by_cases c4:hi_<lo
  ·have e:=fo _ fun h=>h (by omega)
   rw[e]
   repeat (with_reducible first|(first|refine pI1 ?_|refine pS1 ?_);intros|refine pA1 ?_|refine pX1 ?_|refine pB1 ?_|exact True.intro)
   rename_i b3 H3 p3 g3 x3 H4 l4 g4 x4
   have k1':=(x4 b1 (by omega)).trans ((x3 b1 (by omega)).trans k1)
   repeat (with_reducible first|(first|refine pI1 ?_|refine pS1 ?_);intros|refine pA1 ?_|refine pX1 ?_|refine pB1 ?_|exact True.intro)
   exact⟨rfl,fe _ fun h=>h _ (by omega) fun b hb=>by rw[x4 b (by omega),x3 b (by omega)]⟩
  by_cases c5:256<hi_
  ·have e:=fo _ fun h=>h (by omega)
   rw[e]
   repeat (with_reducible first|(first|refine pI1 ?_|refine pS1 ?_);intros|refine pA1 ?_|refine pX1 ?_|refine pB1 ?_|exact True.intro)
   rename_i b3 H3 p3 g3 x3 H4 l4 g4 x4
   have k1':=(x4 b1 (by omega)).trans ((x3 b1 (by omega)).trans k1)
   repeat (with_reducible first|(first|refine pI1 ?_|refine pS1 ?_);intros|refine pA1 ?_|refine pX1 ?_|refine pB1 ?_|exact True.intro)
   exact⟨rfl,fe _ fun h=>h _ (by omega) fun b hb=>by rw[x4 b (by omega),x3 b (by omega)]⟩
  repeat (with_reducible first|(first|refine pI1 ?_|refine pS1 ?_);intros|refine pA1 ?_|refine pX1 ?_|refine pB1 ?_|exact True.intro)
  rename_i b3 H3 p3 g3 x3 H4 l4 g4 x4
  have k1':=(x4 b1 (by omega)).trans ((x3 b1 (by omega)).trans k1)
  repeat (with_reducible first|(first|refine pI1 ?_|refine pS1 ?_);intros|refine pA1 ?_|refine pX1 ?_|refine pB1 ?_|exact True.intro)
  exact loopQ_n (n-(i+1)) (by omega) ⟨_,i+1,H4,rfl,rfl,by omega,zf,zf,by omega,fin2 _ fun _ hnext hall _ hokp=>⟨fun d hd=>by rw[x4 d (by omega),x3 d (by omega)];exact hall.1 d hd,hnext (hokp.2 (by omega))⟩⟩
 obtain rfl:i=n:=by omega
 have hxt:¬(i:Int)<(i:Int):=by omega
 have f1:=hd1 hall
 clear hall g1
 repeat (with_reducible first|(first|refine pI1 ?_|refine pS1 ?_);intros|refine pA1 ?_|refine pX1 ?_|refine pB1 ?_|exact True.intro)
 refine W_loop (fun m st=>∃ρ,∃k:Nat,∃Hl,st=⟨L 90 ρ,[],Hl⟩∧m=i-k∧k≤i∧ρ 1=.c (.ptr (some (b1,0)))∧ρ 5=.c (.int .i64 (k:Nat))∧Hk.length≤Hl.length∧Hid ((∀d,d<Hk.length→Hl[d]?=Hk[d]?)∧∀j l,l<j→j<k→c.apartP l j)) i ⟨_,0,Hk,rfl,rfl,by omega,zf,zf,Nat.le_refl _,fun _ _=>rfl,fun j l hl hj=>by omega⟩ ?_
 clear e1 e3
 rintro m st ⟨ρ,k,Hl,rfl,rfl,hk,e1,e5,ll,hap⟩
 unfold bX1m_21
 have k2:Hl[b1]?=_:=(hap.1 b1 (by omega)).trans k1
 by_cases hkn:k<i
 ·have hxt:(k:Int)<(i:Int):=by omega
  have f2:=hd1 hap
  clear hap k1
  repeat (with_reducible first|(first|refine pI1 ?_|refine pS1 ?_);intros|refine pA1 ?_|refine pX1 ?_|refine pB1 ?_|exact True.intro)
  refine W_loop (fun m st=>∃ρ,∃l:Nat,∃Hm,st=⟨L 90 ρ,[],Hm⟩∧m=k-l∧l≤k∧ρ 1=.c (.ptr (some (b1,0)))∧ρ 5=.c (.int .i64 (k:Nat))∧ρ 6=.c (.int .i64 (l:Nat))∧Hl.length≤Hm.length∧Hid ((∀d,d<Hl.length→Hm[d]?=Hl[d]?)∧∀j,j<l→c.apartP j k)) k ⟨_,0,Hl,rfl,rfl,by omega,zf,zf,zf,Nat.le_refl _,fun _ _=>rfl,fun j hj=>by omega⟩ ?_
  clear e1 e5
  rintro m st ⟨ρ,l,Hm,rfl,rfl,hl,e1,e5,e6,lm,hal⟩
  unfold bX1m_19
  have k3:Hm[b1]?=_:=(hal.1 b1 (by omega)).trans k2
  by_cases hlk:l<k
  ·have hxl:(l:Int)<(k:Int):=by omega
   obtain⟨la,y,ea,hla,hldk,-⟩:=fin0 _ fun hc hn _=>part_at hc (i:=k) (by omega)
   obtain⟨la',y',ea',-,hldl,-⟩:=fin0 _ fun hc hn _=>part_at hc (i:=l) (by omega)
   rw[ea] at ea'
   cases ea'
   have ym:∀b,b<H.length→Hm[b]?=H[b]?:=fun b hb=>(hal.1 b (by omega)).trans (f2 _ fun hap=>(hap.1 b (by omega)).trans (f1 _ fun hall=>(hall.1 b (by omega)).trans (fx _ fun x1=>x1 b (by omega))))
   rw[←ym la (by omega)] at hldk hldl
   have okk:c.okPart (c.part (k:Nat)):=f1 _ fun hall=>hall.2 k hkn
   have okl:c.okPart (c.part (l:Nat)):=f1 _ fun hall=>hall.2 l (by omega)
   have hapd:c.apartP l k↔¬((c.part (l:Nat)).node=(c.part (k:Nat)).node∧Cfg.meets (c.part (l:Nat)).lo (c.part (l:Nat)).hi (c.part (k:Nat)).lo (c.part (k:Nat)).hi):=Iff.rfl
   have hnot:¬c.apartP l k→dB c.okParts=false:=fun h=>dB_f fun h'=>h (h'.2.2 l k hlk (fin0 _ fun _ hn _=>by omega))
   have hnext:c.apartP l k→∀j,j<l+1→c.apartP j k:=fun h j hj=>by
    by_cases e:j=l
    ·subst e;exact h
    ·exact hal.2 j (by omega)
   unfold Cfg.okPart at okk okl
   generalize c.apartP l k=P at *
   generalize c.part (k:Nat)=p at *
   generalize c.part (l:Nat)=q at *
   obtain⟨pn,lo,hi_⟩:=p
   obtain⟨qn,lo',hi'⟩:=q
   obtain⟨-,-,w1,w2,w3⟩:=okk
   obtain⟨-,-,w4,w5,w6⟩:=okl
   dsimp only [Pa.cells] at hldk hldl hapd w1 w2 w3 w4 w5 w6
   obtain⟨a,rfl⟩:∃a:Nat,lo=a:=⟨lo.toNat,by omega⟩
   obtain⟨b,rfl⟩:∃b:Nat,hi_=b:=⟨hi_.toNat,by omega⟩
   obtain⟨a',rfl⟩:∃a':Nat,lo'=a':=⟨lo'.toNat,by omega⟩
   obtain⟨b',rfl⟩:∃b':Nat,hi'=b':=⟨hi'.toNat,by omega⟩
   have hcom:Cfg.meets a b a' b'↔Cfg.meets a' b' a b:=by unfold Cfg.meets;omega
   have fin2:=hd6 hnot hnext hal ym hapd hcom
   clear hnot hnext hal ym hapd hcom
   rw[ea] at k3
   have fea:=hd1 ea
   clear ea k2
   by_cases c1:pn=qn
   ·subst c1
    repeat (with_reducible first|(first|refine pI1 ?_|refine pS1 ?_);intros|refine pA1 ?_|refine pX1 ?_|refine pB1 ?_|exact True.intro)
    rename_i b3 H3 p3 g3 x3 H4 l4 g4 x4 b5 H5 p5 g5 x5 H6 l6 g6 x6
    have k3':=(x4 b1 (by omega)).trans ((x3 b1 (by omega)).trans k3)
    have f4:=hd2 x3 x4
    clear x3 x4 hldk hldl g3 k3
    have k4:=(x6 b1 (by omega)).trans ((x5 b1 (by omega)).trans k3')
    have g4':=(x6 b3 (by omega)).trans ((x5 b3 (by omega)).trans g4)
    have f5:=hd2 x5 x6
    have hmt:=s_rmeet (H:=H6) (a:=a) (b:=b) (c:=a') (d:=b') (by omega)
    clear x5 x6 g4 k3' g5
    repeat (with_reducible first|(first|refine pI1 ?_|refine pS1 ?_);intros|refine pA1 ?_|refine pX1 ?_|refine pB1 ?_|exact True.intro)
    refine outM_call hmt ?_
    rintro _ H6 ⟨rfl,rfl⟩
    clear hmt
    have hx6:∀d,d<Hm.length→H6[d]?=Hm[d]?:=fun d hd=>by rw[f5 _ fun _ x6=>x6 d (by omega),f5 _ fun x5 _=>x5 d (by omega),f4 _ fun _ x4=>x4 d (by omega)];exact f4 _ fun x3 _=>x3 d (by omega)
    by_cases hme:Cfg.meets a b a' b'
    ·have e:=fin2 _ fun hnot _ _ _ hapd hcom=>hnot fun hp=>(hapd.1 hp) ⟨rfl,hcom.1 hme⟩
     rw[dB_t hme,e]
     have fh:=hd1 hx6
     clear hme hx6 e
     repeat (with_reducible first|(first|refine pI1 ?_|refine pS1 ?_);intros|refine pA1 ?_|refine pX1 ?_|refine pB1 ?_|exact True.intro)
     exact⟨rfl,by omega,fun b hb=>by rw[fh _ fun h=>h b (by omega)];exact fin2 _ fun _ _ _ ym _ _=>ym b hb⟩
    ·rw[dB_f hme]
     have fh:=hd2 hx6 hme
     clear hme hx6
     repeat (with_reducible first|(first|refine pI1 ?_|refine pS1 ?_);intros|refine pA1 ?_|refine pX1 ?_|refine pB1 ?_|exact True.intro)
     exact loopQ_n (k-(l+1)) (by omega) ⟨_,l+1,H6,rfl,rfl,by omega,zf,zf,zf,by omega,fh _ fun hx6 hme=>fin2 _ fun _ hnext hal _ hapd hcom=>⟨fun d hd=>by rw[hx6 d (by omega)];exact hal.1 d hd,hnext (hapd.2 fun h=>hme (hcom.2 h.2))⟩⟩
   ·repeat (with_reducible first|(first|refine pI1 ?_|refine pS1 ?_);intros|refine pA1 ?_|refine pX1 ?_|refine pB1 ?_|exact True.intro)
    rename_i b3 H3 p3 g3 x3 H4 l4 g4 x4 b5 H5 p5 g5 x5 H6 l6 g6 x6
    have k3':=(x4 b1 (by omega)).trans ((x3 b1 (by omega)).trans k3)
    have f4:=hd2 x3 x4
    clear x3 x4 hldk hldl g3 k3
    have k4:=(x6 b1 (by omega)).trans ((x5 b1 (by omega)).trans k3')
    have g4':=(x6 b3 (by omega)).trans ((x5 b3 (by omega)).trans g4)
    have f5:=hd2 x5 x6
    clear x5 x6 g4 k3' g5
    repeat (with_reducible first|(first|refine pI1 ?_|refine pS1 ?_);intros|refine pA1 ?_|refine pX1 ?_|refine pB1 ?_|exact True.intro)
    have hx6:∀d,d<Hm.length→H6[d]?=Hm[d]?:=fun d hd=>by rw[f5 _ fun _ x6=>x6 d (by omega),f5 _ fun x5 _=>x5 d (by omega),f4 _ fun _ x4=>x4 d (by omega)];exact f4 _ fun x3 _=>x3 d (by omega)
    exact loopQ_n (k-(l+1)) (by omega) ⟨_,l+1,H6,rfl,rfl,by omega,zf,zf,zf,by omega,fin2 _ fun _ hnext hal _ hapd hcom=>⟨fun d hd=>by rw[hx6 d (by omega)];exact hal.1 d hd,hnext (hapd.2 fun h=>c1 h.1.symm)⟩⟩
  ·obtain rfl:l=k:=by omega
   have hxl:¬(l:Int)<(l:Int):=by omega
   have fl:=hd1 hal
   clear hal
   repeat (with_reducible first|(first|refine pI1 ?_|refine pS1 ?_);intros|refine pA1 ?_|refine pX1 ?_|refine pB1 ?_|exact True.intro)
   exact loopQ_n (i-(l+1)) (by omega) ⟨_,l+1,Hm,rfl,rfl,by omega,zf,zf,by omega,fl _ fun hal=>f2 _ fun hap=>⟨fun d hd=>by rw[hal.1 d (by omega)];exact hap.1 d hd,fun j q h1 h2=>by
    by_cases e:j=l
    ·subst e;exact hal.2 q h1
    ·exact hap.2 j q h1 (by omega)⟩⟩
 ·obtain rfl:k=i:=by omega
  have hxk:¬(k:Int)<(k:Int):=by omega
  have e:dB c.okParts=true:=dB_t (fin0 _ fun _ hn _=>⟨by omega,fun p hp=>by
   obtain⟨j,hj,rfl⟩:=part_of hp
   exact f1 _ fun hall=>hall.2 j (by omega),fun j l h1 h2=>hap.2 l j h1 (by omega)⟩)
  rw[e]
  have fl:=hd1 hap
  clear hap
  repeat (with_reducible first|(first|refine pI1 ?_|refine pS1 ?_);intros|refine pA1 ?_|refine pX1 ?_|refine pB1 ?_|exact True.intro)
  exact⟨rfl,by omega,fun b hb=>by rw[fl _ fun hap=>hap.1 b (by omega),f1 _ fun hall=>hall.1 b (by omega)];exact fx _ fun x1=>x1 b (by omega)⟩
end
end Go.Proofs.YtjcgdcadflplcaaDoor.AM.D21
namespace Go.Proofs.YtjcgdcadflplcaaDoor.AM.D21
open Go Go.Proofs.YtjcgdcadflplcaaDoor.AM Go.Proofs.YtjcgdcadflplcaaDoor.AM.C02
set_option maxHeartbeats 2000000
set_option maxRecDepth 100000
attribute [local go_sem] tn_add1 tn_sub1 put_all' nums_len sub12 sub3 sub6
section
variable {N:Nat} {H:Heap} {c:Cfg} {h:Hd}
theorem s_rwins (hc:CfgM N H c h) (hN:N≤H.length) (hnd:4≤c.nodes∧c.nodes≤16) (hps:c.parts.length≤32):WC F fX1o [.agg (c.cells h)] H fun v H'=>v=.c (.bool (dB c.okWins))∧Xt H H':=by
 refine WC_start eX1o (by simp) ?_
 unfold cX1o Cfg.cells
 obtain⟨n,hn⟩:∃n,c.wins.length=n:=⟨_,rfl⟩
 obtain⟨np,hnp⟩:∃n,c.parts.length=n:=⟨_,rfl⟩
 rw[hn,hnp]
 rw[hnp] at hps
 obtain⟨nd,hnd'⟩:∃nd:Nat,c.nodes=nd:=⟨c.nodes.toNat,by omega⟩
 rw[hnd'] at hnd ⊢
 obtain⟨n1,n2⟩:=hnd
 have fin0:=hd4 hc hn hnp hnd'
 clear hc hn hnp hnd'
 by_cases hlen:n=nd
 case neg=>
  have hlen':¬(n:Int)=(nd:Int):=by omega
  have e:dB c.okWins=false:=dB_f fun h=>fin0 _ fun _ hn _ hnd=>by have:=h.1;omega
  rw[e]
  repeat (with_reducible first|(first|refine pI1 ?_|refine pS1 ?_);intros|refine pA1 ?_|refine pX1 ?_|refine pB1 ?_|exact True.intro)
  rename_i b1 H1 p1 g1 x1
  repeat (with_reducible first|(first|refine pI1 ?_|refine pS1 ?_);intros|refine pA1 ?_|refine pX1 ?_|refine pB1 ?_|exact True.intro)
  exact⟨rfl,by omega,fun b hb=>x1 b (by omega)⟩
 subst hlen
 repeat (with_reducible first|(first|refine pI1 ?_|refine pS1 ?_);intros|refine pA1 ?_|refine pX1 ?_|refine pB1 ?_|exact True.intro)
 rename_i b1 H1 p1 g1 x1
 have fx:=hd1 x1
 clear x1
 repeat (with_reducible first|(first|refine pI1 ?_|refine pS1 ?_);intros|refine pA1 ?_|refine pX1 ?_|refine pB1 ?_|exact True.intro)
 refine W_loop (fun m st=>∃ρ,∃i:Nat,st=⟨L 64 ρ,[],H1⟩∧m=n-i∧i≤n∧ρ 1=.c (.ptr (some (b1,0)))∧ρ 3=.c (.int .i64 (i:Nat))∧∀(j:Nat) row,j<i→c.wins[j]?=some row→(row.length:Int)=c.nodes∧∀p∈row,c.okWin j p) n ⟨_,0,rfl,rfl,by omega,zf,zf,fun j r hj=>by omega⟩ ?_
 rintro m st ⟨ρ,i,rfl,rfl,hi,e1,e3,hall⟩
 unfold bX1o_15
 have fin1:=hd1 hall
 clear hall
 by_cases hin:i<n
 ·have hxt:(i:Int)<(n:Int):=by omega
  obtain⟨la,y,a,cc,orr,row,ea,hla,hld,hrow,hsl,hsN⟩:=fin0 _ fun hc hn _ _=>win_at hc (i:=i) (by omega)
  rw[←fx _ fun x1=>x1 la (by omega)] at hld
  rw[ea] at g1
  have hsl1:Sl H1 1 a row.length (nums row):=hsl.keep fun b x e=>fx _ fun x1=>x1 b (by have:=hsN b x e;omega)
  clear hsl
  obtain⟨rl,hrl⟩:∃rl,row.length=rl:=⟨_,rfl⟩
  rw[hrl] at hld hsl1
  have hbad:¬((row.length:Int)=c.nodes∧∀p∈row,c.okWin i p)→dB c.okWins=false:=fun h=>dB_f fun h'=>h (h'.2 i row hrow)
  have hnext:((row.length:Int)=c.nodes∧∀p∈row,c.okWin i p)→∀(j:Nat) r,j<i+1→c.wins[j]?=some r→(r.length:Int)=c.nodes∧∀p∈r,c.okWin j p:=fun h j r hj hr=>by
   by_cases e:j=i
   ·subst e;rw[hrow] at hr;cases hr;exact h
   ·exact fin1 _ fun hall=>hall j r (by omega) hr
  have f2:=hd5 hbad hnext hsl1 hrl ea
  clear hbad hnext hsl1 hrow hsN ea
  by_cases hr:rl=n
  case neg=>
   have hr':¬(rl:Int)=(n:Int):=by omega
   have e:=f2 _ fun hbad _ _ _ _=>hbad fun h=>hr (fin0 _ fun _ _ _ hnd=>by have:=h.1;omega)
   have fr:=hd1 hrl
   clear hrl
   rw[e]
   repeat (with_reducible first|(first|refine pI1 ?_|refine pS1 ?_);intros|refine pA1 ?_|refine pX1 ?_|refine pB1 ?_|exact True.intro)
   exact⟨rfl,by omega,fx _ fun x1 b hb=>x1 b (by omega)⟩
  subst hr
  have fr:=hd1 hrl
  clear hrl
  repeat (with_reducible first|(first|refine pI1 ?_|refine pS1 ?_);intros|refine pA1 ?_|refine pX1 ?_|refine pB1 ?_|exact True.intro)
  refine W_loop (fun m st=>∃ρ,∃k:Nat,st=⟨L 64 ρ,[],H1⟩∧m=rl-k∧k≤rl∧ρ 1=.c (.ptr (some (b1,0)))∧ρ 3=.c (.int .i64 (i:Nat))∧ρ 4=.c (.int .i64 (k:Nat))∧∀j,j<k→c.okWin i (gn row j)) rl ⟨_,0,rfl,rfl,by omega,zf,zf,zf,fun j hj=>by omega⟩ ?_
  clear e1 e3
  rintro m st ⟨ρ,k,rfl,rfl,hk,e1,e3,e4,hwk⟩
  unfold bX1o_13
  have f3:=hd1 hwk
  clear hwk
  by_cases hkn:k<rl
  ·have hxk:(k:Int)<(rl:Int):=by omega
   obtain⟨⟨lb,z⟩,eb⟩:=f2 _ fun _ _ hsl _ _=>hsl.is_some (by omega)
   have hld2:=f2 _ fun _ _ hsl hrl _=>Sl.gn (by rw[eb] at hsl;exact hsl) hrl hkn
   dsimp only at hld2
   rw[eb] at hld
   have hokw:c.okWin i (gn row k)↔(gn row k=-1∨(0≤gn row k∧gn row k<c.parts.length∧(c.part (gn row k)).node=i)):=Iff.rfl
   have hbad:¬c.okWin i (gn row k)→dB c.okWins=false:=fun h=>f2 _ fun hbad _ _ hrl _=>hbad fun h'=>h (h'.2 _ (gn_mem (by omega)))
   have hnext:c.okWin i (gn row k)→∀j,j<k+1→c.okWin i (gn row j):=fun h j hj=>by
    by_cases e:j=k
    ·subst e;exact h
    ·exact f3 _ fun h=>h j (by omega)
   have hpart:0≤gn row k→gn row k<np→∃la y,h.a8=some (la,y)∧la<N∧ldnB H[la]? (y+(gn row k).toNat * 3) 3=some (c.part (gn row k)).cells:=fun h0 h1=>fin0 _ fun hc _ hnp _=>by
    obtain⟨la,y,q1,q2,q3,-⟩:=part_at hc (i:=(gn row k).toNat) (by omega)
    rw[show ((gn row k).toNat:Int)=gn row k by omega] at q3
    exact⟨la,y,q1,q2,q3⟩
   have hnpe:(c.parts.length:Int)=np:=fin0 _ fun _ _ hnp _=>by rw[hnp]
   rw[hnpe] at hokw
   clear hnpe
   generalize c.okWin i (gn row k)=P at *
   generalize gn row k=u at *
   have f4:=hd5 hbad hnext hokw eb hpart
   clear hbad hnext hokw eb hpart
   by_cases c1:u=-1
   ·have hP:=f4 _ fun _ hnext hokw _ _=>hnext (hokw.2 (.inl c1))
    have fP:=hd2 hP c1
    clear hP
    subst c1
    repeat (with_reducible first|(first|refine pI1 ?_|refine pS1 ?_);intros|refine pA1 ?_|refine pX1 ?_|refine pB1 ?_|exact True.intro)
    exact loopQ_n (rl-(k+1)) (by omega) ⟨_,k+1,rfl,rfl,by omega,zf,zf,zf,fP _ fun h _=>h⟩
   by_cases c2:u<0
   ·have e:=f4 _ fun hbad _ hokw _ _=>hbad fun h=>by rcases hokw.1 h with h|h;exact c1 h;omega
    rw[e]
    repeat (with_reducible first|(first|refine pI1 ?_|refine pS1 ?_);intros|refine pA1 ?_|refine pX1 ?_|refine pB1 ?_|exact True.intro)
    exact⟨rfl,by omega,fx _ fun x1 b hb=>x1 b (by omega)⟩
   by_cases c3:(np:Int)≤u
   ·have e:=f4 _ fun hbad _ hokw _ _=>hbad fun h=>by rcases hokw.1 h with h|h;exact c1 h;omega
    rw[e]
    repeat (with_reducible first|(first|refine pI1 ?_|refine pS1 ?_);intros|refine pA1 ?_|refine pX1 ?_|refine pB1 ?_|exact True.intro)
    exact⟨rfl,by omega,fx _ fun x1 b hb=>x1 b (by omega)⟩
   obtain⟨u,rfl⟩:∃w:Nat,u=w:=⟨u.toNat,by omega⟩
   obtain⟨la',y',ea',hla',hlp⟩:=f4 _ fun _ _ _ _ hp=>hp (by omega) (by omega)
   rw[Int.toNat_natCast] at hlp
   have hlp1:=ld_of_ldn3 hlp
   rw[←fx _ fun x1=>x1 la' (by omega)] at hlp1
   rw[ea'] at g1
   clear hlp
   generalize (c.part (u:Nat)).node=pn at *
   have fe':=fun(A:Prop) (h:_→A)=>h ea'
   clear ea'
   by_cases c4:pn=i
   ·have hP:=f4 _ fun _ hnext hokw _ _=>hnext (hokw.2 (.inr ⟨by omega,by omega,c4⟩))
    have fP:=hd2 hP c4
    clear hP
    subst c4
    repeat (with_reducible first|(first|refine pI1 ?_|refine pS1 ?_);intros|refine pA1 ?_|refine pX1 ?_|refine pB1 ?_|exact True.intro)
    exact loopQ_n (rl-(k+1)) (by omega) ⟨_,k+1,rfl,rfl,by omega,zf,zf,zf,fP _ fun h _=>h⟩
   ·have e:=f4 _ fun hbad _ hokw _ _=>hbad fun h=>by rcases hokw.1 h with h|h;exact c1 h;exact c4 h.2.2
    rw[e]
    repeat (with_reducible first|(first|refine pI1 ?_|refine pS1 ?_);intros|refine pA1 ?_|refine pX1 ?_|refine pB1 ?_|exact True.intro)
    exact⟨rfl,by omega,fx _ fun x1 b hb=>x1 b (by omega)⟩
  ·obtain rfl:k=rl:=by omega
   have hxk:¬(k:Int)<(k:Int):=by omega
   have hg:=f2 _ fun _ hnext _ hrl _=>hnext ⟨fin0 _ fun _ _ _ hnd=>by rw[hrl,hnd],fun p hp=>by
    obtain⟨j,hj,rfl⟩:=gn_of hp
    exact f3 _ fun h=>h j (by omega)⟩
   have fg:=hd1 hg
   clear hg
   repeat (with_reducible first|(first|refine pI1 ?_|refine pS1 ?_);intros|refine pA1 ?_|refine pX1 ?_|refine pB1 ?_|exact True.intro)
   exact loopQ_n (k-(i+1)) (by omega) ⟨_,i+1,rfl,rfl,by omega,zf,zf,fg _ fun h=>h⟩
 ·obtain rfl:i=n:=by omega
  have hxt:¬(i:Int)<(i:Int):=by omega
  have e:dB c.okWins=true:=dB_t (fin0 _ fun _ hn _ hnd=>⟨by rw[hn,hnd],fun j row hr=>fin1 _ fun hall=>hall j row (by have:=(List.getElem?_eq_some_iff.1 hr).1;omega) hr⟩)
  rw[e]
  repeat (with_reducible first|(first|refine pI1 ?_|refine pS1 ?_);intros|refine pA1 ?_|refine pX1 ?_|refine pB1 ?_|exact True.intro)
  exact⟨rfl,by omega,fx _ fun x1 b hb=>x1 b (by omega)⟩
end
end Go.Proofs.YtjcgdcadflplcaaDoor.AM.D21
namespace Go.Proofs.YtjcgdcadflplcaaDoor.AM.D21
open Go Go.Proofs.YtjcgdcadflplcaaDoor.AM Go.Proofs.YtjcgdcadflplcaaDoor.AM.C02
set_option maxHeartbeats 2000000
set_option maxRecDepth 100000
attribute [local go_sem] tn_add1 tn_sub1 put_all' nums_len sub12 sub3 sub6
section
variable {N:Nat} {H:Heap} {c:Cfg} {h:Hd}
theorem s_rAlone {p:Pt}:WC F fX1b [.agg p.cells] H fun v H'=>v=.c (.bool (dB p.ok))∧Xt H H':=by
 refine WC_start eX1b (by simp) ?_
 unfold cX1b Pt.cells
 have hok:p.ok↔((p.kind=1∨p.kind=2)∧(p.dir=1∨p.dir=2)∧1≤p.size∧p.size≤32∧(p.kind=2→1≤p.depth∧p.depth≤8∧p.fresh=0)∧(p.kind≠2→p.depth=0∧(p.dir=2→1≤p.fresh∧p.fresh≤65535)∧(p.dir≠2→p.fresh=0))):=Iff.rfl
 generalize p.ok=P at *
 obtain⟨pa,kd,dr,sz,dp,fr⟩:=p
 dsimp only at hok ⊢
 have fo:=hd1 hok
 clear hok
 by_cases a1:kd<1
 ·have e:dB P=false:=dB_f fun h=>fo _ fun hok=>by have:=(hok.1 h).1;omega
  rw[e]
  repeat (with_reducible first|(first|refine pI1 ?_|refine pS1 ?_);intros|refine pA1 ?_|refine pX1 ?_|refine pB1 ?_|exact True.intro)
  rename_i b1 H1 p1 g1 x1
  repeat (with_reducible first|(first|refine pI1 ?_|refine pS1 ?_);intros|refine pA1 ?_|refine pX1 ?_|refine pB1 ?_|exact True.intro)
  exact⟨rfl,by omega,fun b hb=>x1 b (by omega)⟩
 by_cases a2:2<kd
 ·have e:dB P=false:=dB_f fun h=>fo _ fun hok=>by have:=(hok.1 h).1;omega
  rw[e]
  repeat (with_reducible first|(first|refine pI1 ?_|refine pS1 ?_);intros|refine pA1 ?_|refine pX1 ?_|refine pB1 ?_|exact True.intro)
  rename_i b1 H1 p1 g1 x1
  repeat (with_reducible first|(first|refine pI1 ?_|refine pS1 ?_);intros|refine pA1 ?_|refine pX1 ?_|refine pB1 ?_|exact True.intro)
  exact⟨rfl,by omega,fun b hb=>x1 b (by omega)⟩
 by_cases a3:dr<1
 ·have e:dB P=false:=dB_f fun h=>fo _ fun hok=>by have:=(hok.1 h).2.1;omega
  rw[e]
  repeat (with_reducible first|(first|refine pI1 ?_|refine pS1 ?_);intros|refine pA1 ?_|refine pX1 ?_|refine pB1 ?_|exact True.intro)
  rename_i b1 H1 p1 g1 x1
  repeat (with_reducible first|(first|refine pI1 ?_|refine pS1 ?_);intros|refine pA1 ?_|refine pX1 ?_|refine pB1 ?_|exact True.intro)
  exact⟨rfl,by omega,fun b hb=>x1 b (by omega)⟩
 by_cases a4:2<dr
 ·have e:dB P=false:=dB_f fun h=>fo _ fun hok=>by have:=(hok.1 h).2.1;omega
  rw[e]
  repeat (with_reducible first|(first|refine pI1 ?_|refine pS1 ?_);intros|refine pA1 ?_|refine pX1 ?_|refine pB1 ?_|exact True.intro)
  rename_i b1 H1 p1 g1 x1
  repeat (with_reducible first|(first|refine pI1 ?_|refine pS1 ?_);intros|refine pA1 ?_|refine pX1 ?_|refine pB1 ?_|exact True.intro)
  exact⟨rfl,by omega,fun b hb=>x1 b (by omega)⟩
 by_cases a5:sz<1
 ·have e:dB P=false:=dB_f fun h=>fo _ fun hok=>by have:=(hok.1 h).2.2.1;omega
  rw[e]
  repeat (with_reducible first|(first|refine pI1 ?_|refine pS1 ?_);intros|refine pA1 ?_|refine pX1 ?_|refine pB1 ?_|exact True.intro)
  rename_i b1 H1 p1 g1 x1
  repeat (with_reducible first|(first|refine pI1 ?_|refine pS1 ?_);intros|refine pA1 ?_|refine pX1 ?_|refine pB1 ?_|exact True.intro)
  exact⟨rfl,by omega,fun b hb=>x1 b (by omega)⟩
 by_cases a6:32<sz
 ·have e:dB P=false:=dB_f fun h=>fo _ fun hok=>by have:=(hok.1 h).2.2.2.1;omega
  rw[e]
  repeat (with_reducible first|(first|refine pI1 ?_|refine pS1 ?_);intros|refine pA1 ?_|refine pX1 ?_|refine pB1 ?_|exact True.intro)
  rename_i b1 H1 p1 g1 x1
  repeat (with_reducible first|(first|refine pI1 ?_|refine pS1 ?_);intros|refine pA1 ?_|refine pX1 ?_|refine pB1 ?_|exact True.intro)
  exact⟨rfl,by omega,fun b hb=>x1 b (by omega)⟩
 by_cases k2:kd=2
 ·by_cases d1:1≤dp
  case neg=>
   have e:dB P=false:=dB_f fun h=>fo _ fun hok=>by have:=(hok.1 h).2.2.2.2.1 k2;omega
   rw[e]
   repeat (with_reducible first|(first|refine pI1 ?_|refine pS1 ?_);intros|refine pA1 ?_|refine pX1 ?_|refine pB1 ?_|exact True.intro)
   rename_i b1 H1 p1 g1 x1
   repeat (with_reducible first|(first|refine pI1 ?_|refine pS1 ?_);intros|refine pA1 ?_|refine pX1 ?_|refine pB1 ?_|exact True.intro)
   exact⟨rfl,by omega,fun b hb=>x1 b (by omega)⟩
  by_cases d2:dp≤8
  case neg=>
   have e:dB P=false:=dB_f fun h=>fo _ fun hok=>by have:=(hok.1 h).2.2.2.2.1 k2;omega
   rw[e]
   repeat (with_reducible first|(first|refine pI1 ?_|refine pS1 ?_);intros|refine pA1 ?_|refine pX1 ?_|refine pB1 ?_|exact True.intro)
   rename_i b1 H1 p1 g1 x1
   repeat (with_reducible first|(first|refine pI1 ?_|refine pS1 ?_);intros|refine pA1 ?_|refine pX1 ?_|refine pB1 ?_|exact True.intro)
   exact⟨rfl,by omega,fun b hb=>x1 b (by omega)⟩
  by_cases d3:fr=0
  ·have e:dB P=true:=dB_t (fo _ fun hok=>hok.2 ⟨by omega,by omega,by omega,by omega,fun _=>⟨d1,d2,d3⟩,fun h=>absurd k2 h⟩)
   rw[e]
   repeat (with_reducible first|(first|refine pI1 ?_|refine pS1 ?_);intros|refine pA1 ?_|refine pX1 ?_|refine pB1 ?_|exact True.intro)
   rename_i b1 H1 p1 g1 x1
   repeat (with_reducible first|(first|refine pI1 ?_|refine pS1 ?_);intros|refine pA1 ?_|refine pX1 ?_|refine pB1 ?_|exact True.intro)
   exact⟨rfl,by omega,fun b hb=>x1 b (by omega)⟩
  ·have e:dB P=false:=dB_f fun h=>fo _ fun hok=>by have:=(hok.1 h).2.2.2.2.1 k2;omega
   rw[e]
   repeat (with_reducible first|(first|refine pI1 ?_|refine pS1 ?_);intros|refine pA1 ?_|refine pX1 ?_|refine pB1 ?_|exact True.intro)
   rename_i b1 H1 p1 g1 x1
   repeat (with_reducible first|(first|refine pI1 ?_|refine pS1 ?_);intros|refine pA1 ?_|refine pX1 ?_|refine pB1 ?_|exact True.intro)
   exact⟨rfl,by omega,fun b hb=>x1 b (by omega)⟩
 by_cases d1:dp=0
 case neg=>
  have e:dB P=false:=dB_f fun h=>fo _ fun hok=>d1 ((hok.1 h).2.2.2.2.2 k2).1
  rw[e]
  by_cases r2:dr=2
  ·repeat (with_reducible first|(first|refine pI1 ?_|refine pS1 ?_);intros|refine pA1 ?_|refine pX1 ?_|refine pB1 ?_|exact True.intro)
   rename_i b1 H1 p1 g1 x1
   repeat (with_reducible first|(first|refine pI1 ?_|refine pS1 ?_);intros|refine pA1 ?_|refine pX1 ?_|refine pB1 ?_|exact True.intro)
   exact⟨rfl,by omega,fun b hb=>x1 b (by omega)⟩
  ·repeat (with_reducible first|(first|refine pI1 ?_|refine pS1 ?_);intros|refine pA1 ?_|refine pX1 ?_|refine pB1 ?_|exact True.intro)
   rename_i b1 H1 p1 g1 x1
   repeat (with_reducible first|(first|refine pI1 ?_|refine pS1 ?_);intros|refine pA1 ?_|refine pX1 ?_|refine pB1 ?_|exact True.intro)
   exact⟨rfl,by omega,fun b hb=>x1 b (by omega)⟩
 by_cases r2:dr=2
 ·by_cases f1:1≤fr
  case neg=>
   have e:dB P=false:=dB_f fun h=>fo _ fun hok=>by have:=((hok.1 h).2.2.2.2.2 k2).2.1 r2;omega
   rw[e]
   repeat (with_reducible first|(first|refine pI1 ?_|refine pS1 ?_);intros|refine pA1 ?_|refine pX1 ?_|refine pB1 ?_|exact True.intro)
   rename_i b1 H1 p1 g1 x1
   repeat (with_reducible first|(first|refine pI1 ?_|refine pS1 ?_);intros|refine pA1 ?_|refine pX1 ?_|refine pB1 ?_|exact True.intro)
   exact⟨rfl,by omega,fun b hb=>x1 b (by omega)⟩
  by_cases f2:fr≤65535
  ·have e:dB P=true:=dB_t (fo _ fun hok=>hok.2 ⟨by omega,by omega,by omega,by omega,fun h=>absurd h k2,fun _=>⟨d1,fun _=>⟨f1,f2⟩,fun h=>absurd r2 h⟩⟩)
   rw[e]
   repeat (with_reducible first|(first|refine pI1 ?_|refine pS1 ?_);intros|refine pA1 ?_|refine pX1 ?_|refine pB1 ?_|exact True.intro)
   rename_i b1 H1 p1 g1 x1
   repeat (with_reducible first|(first|refine pI1 ?_|refine pS1 ?_);intros|refine pA1 ?_|refine pX1 ?_|refine pB1 ?_|exact True.intro)
   exact⟨rfl,by omega,fun b hb=>x1 b (by omega)⟩
  ·have e:dB P=false:=dB_f fun h=>fo _ fun hok=>by have:=((hok.1 h).2.2.2.2.2 k2).2.1 r2;omega
   rw[e]
   repeat (with_reducible first|(first|refine pI1 ?_|refine pS1 ?_);intros|refine pA1 ?_|refine pX1 ?_|refine pB1 ?_|exact True.intro)
   rename_i b1 H1 p1 g1 x1
   repeat (with_reducible first|(first|refine pI1 ?_|refine pS1 ?_);intros|refine pA1 ?_|refine pX1 ?_|refine pB1 ?_|exact True.intro)
   exact⟨rfl,by omega,fun b hb=>x1 b (by omega)⟩
 ·by_cases f1:fr=0
  ·have e:dB P=true:=dB_t (fo _ fun hok=>hok.2 ⟨by omega,by omega,by omega,by omega,fun h=>absurd h k2,fun _=>⟨d1,fun h=>absurd h r2,fun _=>f1⟩⟩)
   rw[e]
   repeat (with_reducible first|(first|refine pI1 ?_|refine pS1 ?_);intros|refine pA1 ?_|refine pX1 ?_|refine pB1 ?_|exact True.intro)
   rename_i b1 H1 p1 g1 x1
   repeat (with_reducible first|(first|refine pI1 ?_|refine pS1 ?_);intros|refine pA1 ?_|refine pX1 ?_|refine pB1 ?_|exact True.intro)
   exact⟨rfl,by omega,fun b hb=>x1 b (by omega)⟩
  ·have e:dB P=false:=dB_f fun h=>fo _ fun hok=>f1 (((hok.1 h).2.2.2.2.2 k2).2.2 r2)
   rw[e]
   repeat (with_reducible first|(first|refine pI1 ?_|refine pS1 ?_);intros|refine pA1 ?_|refine pX1 ?_|refine pB1 ?_|exact True.intro)
   rename_i b1 H1 p1 g1 x1
   repeat (with_reducible first|(first|refine pI1 ?_|refine pS1 ?_);intros|refine pA1 ?_|refine pX1 ?_|refine pB1 ?_|exact True.intro)
   exact⟨rfl,by omega,fun b hb=>x1 b (by omega)⟩
theorem s_rports (hc:CfgM N H c h) (hN:N≤H.length) (hps:c.parts.length≤32) (hpo:c.ports.length≤10000000):WC F fX1n [.agg (c.cells h)] H fun v H'=>v=.c (.bool (dB c.okPorts))∧Xt H H':=by
 refine WC_start eX1n (by simp) ?_
 unfold cX1n Cfg.cells
 obtain⟨n,hn⟩:∃n,c.ports.length=n:=⟨_,rfl⟩
 obtain⟨np,hnp⟩:∃n,c.parts.length=n:=⟨_,rfl⟩
 rw[hn,hnp]
 rw[hnp] at hps
 rw[hn] at hpo
 have fin0:=hd3 hc hn hnp
 clear hc hn hnp
 repeat (with_reducible first|(first|refine pI1 ?_|refine pS1 ?_);intros|refine pA1 ?_|refine pX1 ?_|refine pB1 ?_|exact True.intro)
 rename_i b1 H1 p1 g1 x1
 have fx:=hd1 x1
 clear x1
 repeat (with_reducible first|(first|refine pI1 ?_|refine pS1 ?_);intros|refine pA1 ?_|refine pX1 ?_|refine pB1 ?_|exact True.intro)
 refine W_loop (fun m st=>∃ρ,∃i:Nat,∃Hk,st=⟨L 43 ρ,[],Hk⟩∧m=n-i∧i≤n∧ρ 1=.c (.ptr (some (b1,0)))∧ρ 3=.c (.int .i64 (i:Nat))∧H1.length≤Hk.length∧Hid ((∀d,d<H1.length→Hk[d]?=H1[d]?)∧∀j,j<i→c.okPort (c.port (j:Nat)))) n ⟨_,0,H1,rfl,rfl,by omega,zf,zf,Nat.le_refl _,fun _ _=>rfl,fun j hj=>by omega⟩ ?_
 rintro m st ⟨ρ,i,Hk,rfl,rfl,hi,e1,e3,lk,hall⟩
 unfold bX1n_6
 have k1:=(hall.1 b1 (by omega)).trans g1
 clear g1
 by_cases hin:i<n
 ·have hxt:(i:Int)<(n:Int):=by omega
  obtain⟨la,y,ea,hla,hld,hmem⟩:=fin0 _ fun hc hn _=>port_at hc (i:=i) (by omega)
  have yk:∀b,b<H.length→Hk[b]?=H[b]?:=fun b hb=>(hall.1 b (by omega)).trans (fx _ fun x1=>x1 b (by omega))
  rw[←yk la (by omega)] at hld
  have hokp:c.okPort (c.port (i:Nat))↔((c.port (i:Nat)).ok∧0≤(c.port (i:Nat)).part∧(c.port (i:Nat)).part<np):=fin0 _ fun _ _ hnp=>by rw[←hnp];exact Iff.rfl
  have hnot:¬c.okPort (c.port (i:Nat))→dB c.okPorts=false:=fun h=>dB_f fun h'=>h (h'.2 _ hmem)
  have hnext:c.okPort (c.port (i:Nat))→∀j,j<i+1→c.okPort (c.port (j:Nat)):=fun h j hj=>by
   by_cases e:j=i
   ·subst e;exact h
   ·exact hall.2 j (by omega)
  generalize c.okPort (c.port (i:Nat))=P at *
  generalize c.port (i:Nat)=p at *
  have hal:=fun Hx=>s_rAlone (H:=Hx) (p:=p)
  obtain⟨pa,kd,dr,sz,dp,fr⟩:=p
  generalize (Pt.mk pa kd dr sz dp fr).ok=K at *
  dsimp only [Pt.cells] at hld hokp hal
  have fin2:=hd5 hnot hnext hall yk hokp
  clear hnot hnext hmem hall yk hokp
  rw[ea] at k1
  have fea:=hd1 ea
  clear ea
  have halk:=hal Hk
  have fal:=hd1 hal
  clear hal
  repeat (with_reducible first|(first|refine pI1 ?_|refine pS1 ?_);intros|refine pA1 ?_|refine pX1 ?_|refine pB1 ?_|exact True.intro)
  refine outM_call halk ?_
  rintro _ H2 ⟨rfl,l2,x2⟩
  clear halk
  have k2:=(x2 b1 (by omega)).trans k1
  rw[←x2 la (by omega)] at hld
  have hx:∀b,b<H.length→H2[b]?=H[b]?:=fun b hb=>by rw[x2 b (by omega)];exact fin2 _ fun _ _ _ yk _=>yk b hb
  have hld1:ldB H2[la]? (y+i * 6)=some (.int .i64 pa):=by
   unfold ldnB at hld
   unfold ldB
   generalize H2[la]?=q at *
   split at hld
   ·unfold sub at hld
    split at hld
    ·have h':=Option.some.inj hld
     have:=congrArg (fun(l:List Cell)=>l[0]?) h'
     simpa using this
    ·cases hld
   ·cases hld
  have f3:=hd2 x2 hx
  clear x2 hx k1
  by_cases hK:K
  case neg=>
   have e:=fin2 _ fun hnot _ _ _ hokp=>hnot fun h=>hK (hokp.1 h).1
   rw[dB_f hK,e]
   clear hld
   repeat (with_reducible first|(first|refine pI1 ?_|refine pS1 ?_);intros|refine pA1 ?_|refine pX1 ?_|refine pB1 ?_|exact True.intro)
   exact⟨rfl,by omega,f3 _ fun _ hx=>hx⟩
  rw[dB_t hK]
  by_cases c1:pa<0
  ·have e:=fin2 _ fun hnot _ _ _ hokp=>hnot fun h=>by have:=(hokp.1 h).2;omega
   rw[e]
   clear hK hld
   repeat (with_reducible first|(first|refine pI1 ?_|refine pS1 ?_);intros|refine pA1 ?_|refine pX1 ?_|refine pB1 ?_|exact True.intro)
   exact⟨rfl,by omega,f3 _ fun _ hx=>hx⟩
  by_cases c2:(np:Int)≤pa
  ·have e:=fin2 _ fun hnot _ _ _ hokp=>hnot fun h=>by have:=(hokp.1 h).2;omega
   rw[e]
   clear hK hld
   repeat (with_reducible first|(first|refine pI1 ?_|refine pS1 ?_);intros|refine pA1 ?_|refine pX1 ?_|refine pB1 ?_|exact True.intro)
   exact⟨rfl,by omega,f3 _ fun _ hx=>hx⟩
  have fK:=hd1 hK
  clear hK hld
  repeat (with_reducible first|(first|refine pI1 ?_|refine pS1 ?_);intros|refine pA1 ?_|refine pX1 ?_|refine pB1 ?_|exact True.intro)
  exact loopQ_n (n-(i+1)) (by omega) ⟨_,i+1,H2,rfl,rfl,by omega,zf,zf,by omega,f3 _ fun x2 _=>fin2 _ fun _ hnext hall _ hokp=>fK _ fun hK=>⟨fun d hd=>by rw[x2 d (by omega)];exact hall.1 d hd,hnext (hokp.2 ⟨hK,by omega,by omega⟩)⟩⟩
 ·obtain rfl:i=n:=by omega
  have hxt:¬(i:Int)<(i:Int):=by omega
  have f1:=hd1 hall
  have hx:∀b,b<H.length→Hk[b]?=H[b]?:=fun b hb=>(hall.1 b (by omega)).trans (fx _ fun x1=>x1 b (by omega))
  have fh:=hd1 hx
  clear hx
  by_cases c1:i≤64
  ·have e:dB c.okPorts=true:=dB_t (fin0 _ fun _ hn _=>⟨by omega,fun p hp=>by
    obtain⟨j,hj,rfl⟩:=List.mem_iff_getElem.1 hp
    have:=hall.2 j (by omega)
    rwa [show c.port (j:Nat)=c.ports[j] by simp[Cfg.port,hj]] at this⟩)
   rw[e]
   clear hall
   repeat (with_reducible first|(first|refine pI1 ?_|refine pS1 ?_);intros|refine pA1 ?_|refine pX1 ?_|refine pB1 ?_|exact True.intro)
   exact⟨rfl,by omega,fh _ fun h=>h⟩
  ·have e:dB c.okPorts=false:=dB_f fun h=>fin0 _ fun _ hn _=>by have:=h.1;omega
   rw[e]
   clear hall
   repeat (with_reducible first|(first|refine pI1 ?_|refine pS1 ?_);intros|refine pA1 ?_|refine pX1 ?_|refine pB1 ?_|exact True.intro)
   exact⟨rfl,by omega,fh _ fun h=>h⟩
end
end Go.Proofs.YtjcgdcadflplcaaDoor.AM.D21
namespace Go.Proofs.YtjcgdcadflplcaaDoor.AM.D21
open Go Go.Proofs.YtjcgdcadflplcaaDoor.AM Go.Proofs.YtjcgdcadflplcaaDoor.AM.C02
set_option maxHeartbeats 2000000
set_option maxRecDepth 100000
attribute [local go_sem] tn_add1 tn_sub1 put_all' nums_len sub12 sub3 sub6 rep6
section
variable {N:Nat} {H:Heap} {c:Cfg} {h:Hd}
theorem lk_view (hc:CfgM N H c h) (hpt:c.okPorts) {j:Nat} (hj:j<c.links.length) (hl:c.okLink (c.link j)):∃la y ad cd od,∃s o z p:Nat,∃lp yp kd dr dp fr lq yq nd,h.a11=some (la,y)∧la<N∧ldnB H[la]? (y+j * 3) 3=some [.int .i64 (s:Nat),.sl ad (c.link j).dests.length cd od,.int .i64 (o:Nat)]∧
  h.a10=some (lp,yp)∧lp<N∧ldnB H[lp]? (yp+s * 6) 6=some [.int .i64 (p:Nat),.int .i64 kd,.int .i64 dr,.int .i64 (z:Nat),.int .i64 dp,.int .i64 fr]∧h.a8=some (lq,yq)∧lq<N∧ldB H[lq]? (yq+p * 3)=some (.int .i64 nd)∧
  (c.part (c.port (c.link j).src).part).node=nd∧(c.link j).off=o∧(c.port (c.link j).src).size=z∧o+1+z≤64∧s<c.ports.length∧p<c.parts.length:=by
 obtain⟨⟨⟨q1,q2⟩,-,-,q3,q4⟩,-⟩:=hl
 obtain⟨s,hs⟩:∃s:Nat,(c.link j).src=s:=⟨(c.link j).src.toNat,by omega⟩
 rw[hs] at q1 q2 q4 ⊢
 obtain⟨la,y,ad,cd,od,h1,h2,h3,-⟩:=link_at hc hj
 obtain⟨lp,yp,h4,h5,h6,h7⟩:=port_at hc (i:=s) (by omega)
 obtain⟨h8,h9,h10⟩:=hpt.2 _ h7
 obtain⟨-,-,z1,z2,-⟩:=h8
 obtain⟨p,hp⟩:∃p:Nat,(c.port s).part=p:=⟨(c.port s).part.toNat,by omega⟩
 obtain⟨z,hz⟩:∃z:Nat,(c.port s).size=z:=⟨(c.port s).size.toNat,by omega⟩
 obtain⟨o,ho⟩:∃o:Nat,(c.link j).off=o:=⟨(c.link j).off.toNat,by omega⟩
 obtain⟨lq,yq,h11,h12,h13,-⟩:=part_at hc (i:=p) (by omega)
 rw[hs,ho] at h3
 unfold Pt.cells at h6
 rw[hp,hz] at h6
 exact⟨la,y,ad,cd,od,s,o,z,p,lp,yp,_,_,_,_,lq,yq,_,h1,h2,h3,h4,h5,h6,h11,h12,ld_of_ldn3 h13,by rw[hp],ho,hz,by omega,by omega,by omega⟩
theorem rl_pairs {Hk:Heap} {ρ:Env} {b1:Nat} (hc:CfgM N H c h) (hN:N≤H.length) (hpt:c.okPorts) (hn64:c.links.length≤64) (e1:ρ 1=.c (.ptr (some (b1,0)))) (k1:Hk[b1]?=some (.cells (c.cells h) false none)) (lk:H.length≤Hk.length) (yk:∀b,b<H.length→Hk[b]?=H[b]?)
  (hall:∀j,j<c.links.length→c.okLink (c.link j)) (hcn:∀n:Int,cn n (Cfg.used c.links)≤1):
  WO F oX1j_28 (L 227 ρ) Hk fun t H'=>W F none ((IC.block 6 bX1j_41.loop).seq ((IC.ops oX1j_42).seq IC.ret)) ⟨t,[],H'⟩ (callQ [(2,none)] fun v H'=>v=.c (.bool (dB c.okLinks))∧Xt H H'):=by
 unfold Cfg.cells at k1
 obtain⟨n,hn⟩:∃n,c.links.length=n:=⟨_,rfl⟩
 rw[hn] at hn64 k1
 have fin0:=hd6 hc hpt hall hcn hn yk
 have lb1:=lt_of_get k1
 clear hc hpt hall hcn hn yk
 repeat (with_reducible first|(first|refine pI1 ?_|refine pS1 ?_);intros|refine pA1 ?_|refine pX1 ?_|refine pB1 ?_|exact True.intro)
 refine W_loop (fun m st=>∃ρ,∃k:Nat,∃Hl,st=⟨L 227 ρ,[],Hl⟩∧m=n-k∧k≤n∧ρ 1=.c (.ptr (some (b1,0)))∧ρ 9=.c (.int .i64 (k:Nat))∧Hk.length≤Hl.length∧Hid ((∀d,d<Hk.length→Hl[d]?=Hk[d]?)∧∀j l,l<j→j<k→c.apartL l j)) n ⟨_,0,Hk,rfl,rfl,by omega,zf,zf,Nat.le_refl _,fun _ _=>rfl,fun j l hl hj=>by omega⟩ ?_
 clear e1
 rintro m st ⟨ρ,k,Hl,rfl,rfl,hk,e1,e9,ll,hap⟩
 unfold bX1j_41
 have k2:=(hap.1 b1 lb1).trans k1
 by_cases hkn:k<n
 ·have hxt:(k:Int)<(n:Int):=by omega
  have f2:=hd1 hap
  clear hap k1
  repeat (with_reducible first|(first|refine pI1 ?_|refine pS1 ?_);intros|refine pA1 ?_|refine pX1 ?_|refine pB1 ?_|exact True.intro)
  refine W_loop (fun m st=>∃ρ,∃l:Nat,∃Hm,st=⟨L 227 ρ,[],Hm⟩∧m=k-l∧l≤k∧ρ 1=.c (.ptr (some (b1,0)))∧ρ 9=.c (.int .i64 (k:Nat))∧ρ 10=.c (.int .i64 (l:Nat))∧Hl.length≤Hm.length∧Hid ((∀d,d<Hl.length→Hm[d]?=Hl[d]?)∧∀j,j<l→c.apartL j k)) k ⟨_,0,Hl,rfl,rfl,by omega,zf,zf,zf,Nat.le_refl _,fun _ _=>rfl,fun j hj=>by omega⟩ ?_
  clear e1 e9
  rintro m st ⟨ρ,l,Hm,rfl,rfl,hl,e1,e9,e10,lm,hal⟩
  unfold bX1j_39
  have k3:=(hal.1 b1 (by omega)).trans k2
  by_cases hlk:l<k
  ·have hxl:(l:Int)<(k:Int):=by omega
   have ym:∀b,b<H.length→Hm[b]?=H[b]?:=fun b hb=>(hal.1 b (by omega)).trans (f2 _ fun hap=>(hap.1 b (by omega)).trans (fin0 _ fun _ _ _ _ _ yk=>yk b hb))
   obtain⟨la,y,ad,cd,od,s,o,z,p,lp,yp,kd,dr,dp,fr,lq,yq,nd,ea,hla,v1,ep,hlp,v2,eq,hlq,v3,w1,w2,w3,w4,w5,w6⟩:=fin0 _ fun hc hpt hall _ hn _=>lk_view hc hpt (j:=k) (by omega) (hall k (by omega))
   obtain⟨la',y',ad',cd',od',s',o',z',p',lp',yp',kd',dr',dp',fr',lq',yq',nd',ea',-,v1',ep',-,v2',eq',-,v3',w1',w2',w3',w4',w5',w6'⟩:=fin0 _ fun hc hpt hall _ hn _=>lk_view hc hpt (j:=l) (by omega) (hall l (by omega))
   rw[ea] at ea'
   cases ea'
   rw[ep] at ep'
   cases ep'
   rw[eq] at eq'
   cases eq'
   rw[←ym la (by omega)] at v1 v1'
   rw[←ym lp (by omega)] at v2 v2'
   rw[←ym lq (by omega)] at v3 v3'
   have hapd:c.apartL l k↔¬(nd'=nd∧Cfg.meets (o':Nat) (o'+1+z':Nat) (o:Nat) (o+1+z:Nat)):=by
    unfold Cfg.apartL
    rw[w1,w2,w3,w1',w2',w3',show ((o'+1+z':Nat):Int)=(o':Int)+1+z' by omega,show ((o+1+z:Nat):Int)=(o:Int)+1+z by omega]
   have hnot:¬c.apartL l k→dB c.okLinks=false:=fun h=>dB_f fun h'=>h (h'.2.2.2 l k hlk (fin0 _ fun _ _ _ _ hn _=>by omega))
   have hnext:c.apartL l k→∀j,j<l+1→c.apartL j k:=fun h j hj=>by
    by_cases e:j=l
    ·subst e;exact h
    ·exact hal.2 j (by omega)
   generalize c.apartL l k=P at *
   obtain⟨dl,hdl⟩:∃dl,(c.link k).dests.length=dl:=⟨_,rfl⟩
   obtain⟨dl',hdl'⟩:∃dl,(c.link l).dests.length=dl:=⟨_,rfl⟩
   rw[hdl] at v1
   rw[hdl'] at v1'
   have hcom:Cfg.meets (o:Nat) (o+1+z:Nat) (o':Nat) (o'+1+z':Nat)↔Cfg.meets (o':Nat) (o'+1+z':Nat) (o:Nat) (o+1+z:Nat):=by unfold Cfg.meets;omega
   have fin2:=hd6 hnot hnext hal ym hapd hcom
   clear hnot hnext hal ym hapd hcom w1 w2 w3 w1' w2' w3' hdl hdl'
   rw[ea,ep,eq] at k3
   have fea:=hd3 ea ep eq
   clear ea ep eq k2
   have hmt:=fun Hx=>s_rmeet (H:=Hx) (a:=o) (b:=o+1+z) (c:=o') (d:=o'+1+z') (by omega)
   rw[show ((o'+1+z':Nat):Int)=(o':Int)+1+z' by omega,show ((o+1+z:Nat):Int)=(o:Int)+1+z by omega] at hmt
   have fmt:=hd1 hmt
   clear hmt
   by_cases c1:nd=nd'
   ·subst c1
    repeat (with_reducible first|(first|refine pI1 ?_|refine pS1 ?_);intros|refine pA1 ?_|refine pX1 ?_|refine pB1 ?_|exact True.intro)
    rename_i b3 H3 p3 g3 x3 H4 l4 g4 x4 b5 H5 p5 g5 x5 H6 l6 g6 x6 b7 H7 p7 g7 x7 H8 l8 g8 x8 b9 H9 p9 g9 x9 Ha la_ ga xa
    have k3':=(xa b1 (by omega)).trans ((x9 b1 (by omega)).trans ((x8 b1 (by omega)).trans ((x7 b1 (by omega)).trans ((x6 b1 (by omega)).trans ((x5 b1 (by omega)).trans ((x4 b1 (by omega)).trans ((x3 b1 (by omega)).trans k3)))))))
    have hxa:∀d,d<Hm.length→Ha[d]?=Hm[d]?:=fun d hd=>by rw[xa d (by omega),x9 d (by omega),x8 d (by omega),x7 d (by omega),x6 d (by omega),x5 d (by omega),x4 d (by omega),x3 d (by omega)]
    have fh:=hd1 hxa
    clear x3 x4 x5 x6 x7 x8 x9 xa g3 g4 g5 g6 g7 g8 g9 ga k3 v1 v1' v2 v2' v3 v3' hxa
    repeat (with_reducible first|(first|refine pI1 ?_|refine pS1 ?_);intros|refine pA1 ?_|refine pX1 ?_|refine pB1 ?_|exact True.intro)
    refine outM_call (fmt _ fun h=>h Ha) ?_
    rintro _ Ha ⟨rfl,rfl⟩
    by_cases hme:Cfg.meets o (o+1+z) o' (o'+1+z')
    ·have e:=fin2 _ fun hnot _ _ _ hapd hcom=>hnot fun hp=>(hapd.1 hp) ⟨rfl,hcom.1 (by rw[show ((o'+1+z':Nat):Int)=(o':Int)+1+z' by omega,show ((o+1+z:Nat):Int)=(o:Int)+1+z by omega];exact hme)⟩
     rw[dB_t hme,e]
     clear hme e
     repeat (with_reducible first|(first|refine pI1 ?_|refine pS1 ?_);intros|refine pA1 ?_|refine pX1 ?_|refine pB1 ?_|exact True.intro)
     exact⟨rfl,by omega,fun b hb=>by rw[fh _ fun h=>h b (by omega)];exact fin2 _ fun _ _ _ ym _ _=>ym b hb⟩
    ·rw[dB_f hme]
     have fm:=hd1 hme
     clear hme
     repeat (with_reducible first|(first|refine pI1 ?_|refine pS1 ?_);intros|refine pA1 ?_|refine pX1 ?_|refine pB1 ?_|exact True.intro)
     exact loopQ_n (k-(l+1)) (by omega) ⟨_,l+1,Ha,rfl,rfl,by omega,zf,zf,zf,by omega,fm _ fun hme=>fh _ fun hxa=>fin2 _ fun _ hnext hal _ hapd hcom=>⟨fun d hd=>by rw[hxa d (by omega)];exact hal.1 d hd,hnext (hapd.2 fun h=>hme (by
      have:=hcom.2 h.2
      rwa [show ((o'+1+z':Nat):Int)=(o':Int)+1+z' by omega,show ((o+1+z:Nat):Int)=(o:Int)+1+z by omega] at this))⟩⟩
   ·repeat (with_reducible first|(first|refine pI1 ?_|refine pS1 ?_);intros|refine pA1 ?_|refine pX1 ?_|refine pB1 ?_|exact True.intro)
    rename_i b3 H3 p3 g3 x3 H4 l4 g4 x4 b5 H5 p5 g5 x5 H6 l6 g6 x6 b7 H7 p7 g7 x7 H8 l8 g8 x8 b9 H9 p9 g9 x9 Ha la_ ga xa
    have k3':=(xa b1 (by omega)).trans ((x9 b1 (by omega)).trans ((x8 b1 (by omega)).trans ((x7 b1 (by omega)).trans ((x6 b1 (by omega)).trans ((x5 b1 (by omega)).trans ((x4 b1 (by omega)).trans ((x3 b1 (by omega)).trans k3)))))))
    have hxa:∀d,d<Hm.length→Ha[d]?=Hm[d]?:=fun d hd=>by rw[xa d (by omega),x9 d (by omega),x8 d (by omega),x7 d (by omega),x6 d (by omega),x5 d (by omega),x4 d (by omega),x3 d (by omega)]
    have fh:=hd1 hxa
    clear x3 x4 x5 x6 x7 x8 x9 xa g3 g4 g5 g6 g7 g8 g9 ga k3 v1 v1' v2 v2' v3 v3' hxa
    repeat (with_reducible first|(first|refine pI1 ?_|refine pS1 ?_);intros|refine pA1 ?_|refine pX1 ?_|refine pB1 ?_|exact True.intro)
    exact loopQ_n (k-(l+1)) (by omega) ⟨_,l+1,Ha,rfl,rfl,by omega,zf,zf,zf,by omega,fh _ fun hxa=>fin2 _ fun _ hnext hal _ hapd hcom=>⟨fun d hd=>by rw[hxa d (by omega)];exact hal.1 d hd,hnext (hapd.2 fun h=>c1 h.1.symm)⟩⟩
  ·obtain rfl:l=k:=by omega
   have hxl:¬(l:Int)<(l:Int):=by omega
   have fl:=hd1 hal
   clear hal
   repeat (with_reducible first|(first|refine pI1 ?_|refine pS1 ?_);intros|refine pA1 ?_|refine pX1 ?_|refine pB1 ?_|exact True.intro)
   exact loopQ_n (n-(l+1)) (by omega) ⟨_,l+1,Hm,rfl,rfl,by omega,zf,zf,by omega,fl _ fun hal=>f2 _ fun hap=>⟨fun d hd=>by rw[hal.1 d (by omega)];exact hap.1 d hd,fun j q h1 h2=>by
    by_cases e:j=l
    ·subst e;exact hal.2 q h1
    ·exact hap.2 j q h1 (by omega)⟩⟩
 ·obtain rfl:k=n:=by omega
  have hxk:¬(k:Int)<(k:Int):=by omega
  have e:dB c.okLinks=true:=dB_t (fin0 _ fun _ _ hall hcn hn _=>⟨by omega,fun l hl=>by
   obtain⟨j,hj,rfl⟩:=List.mem_iff_getElem.1 hl
   have:=hall j hj
   rwa [show c.link j=c.links[j] by simp[Cfg.link,hj]] at this,hcn,fun j l h1 h2=>hap.2 l j h1 (by omega)⟩)
  rw[e]
  have fl:=hd1 hap
  clear hap
  repeat (with_reducible first|(first|refine pI1 ?_|refine pS1 ?_);intros|refine pA1 ?_|refine pX1 ?_|refine pB1 ?_|exact True.intro)
  exact⟨rfl,by omega,fun b hb=>by rw[fl _ fun hap=>hap.1 b (by omega)];exact fin0 _ fun _ _ _ _ _ yk=>yk b hb⟩
end
end Go.Proofs.YtjcgdcadflplcaaDoor.AM.D21
namespace Go.Proofs.YtjcgdcadflplcaaDoor.AM.D21
open Go Go.Proofs.YtjcgdcadflplcaaDoor.AM Go.Proofs.YtjcgdcadflplcaaDoor.AM.C02
set_option maxHeartbeats 2000000
set_option maxRecDepth 100000
attribute [local go_sem] tn_add1 tn_sub1 put_all' nums_len sub12 sub3 sub6 rep6
section
variable {N:Nat} {H:Heap} {c:Cfg} {h:Hd}
theorem used_in:∀{i:Nat},i≤c.links.length→(∀j,j<i→c.okLink (c.link j))→∀x∈Cfg.used (c.links.take i),c.isP x
 |0,_,_,x,hx=>by simp[Cfg.used] at hx
 |i+1,hi,h,x,hx=>by
  rw[used_take (by omega)] at hx
  rcases List.mem_append.1 hx with hx|hx
  ·exact used_in (by omega) (fun j hj=>h j (by omega)) x hx
  ·have hl:=h i (by omega)
   rcases List.mem_cons.1 hx with rfl|hx
   ·exact hl.1.1
   ·exact(hl.2 x hx).1
theorem used_few {i:Nat} (hi:i≤c.links.length) (h:∀j,j<i→c.okLink (c.link j)) (hcn:∀n:Int,cn n (Cfg.used (c.links.take i))≤1):(Cfg.used (c.links.take i)).length≤c.ports.length:=by
 have h1:=rng_all (l:=Cfg.used (c.links.take i)) (n:=c.ports.length) fun x hx=>used_in hi h x hx
 have h2:=rng_few (l:=Cfg.used (c.links.take i)) c.ports.length fun k _=>hcn k
 omega
theorem rl_counts {Hk:Heap} {ρ:Env} {b1 nu:Nat} {ua:Option Ad} {uo:Bool} (hc:CfgM N H c h) (hN:N≤H.length) (hpt:c.okPorts) (hn64:c.links.length≤64) (e1:ρ 1=.c (.ptr (some (b1,0)))) (e3:ρ 3=.c (.sl ua nu nu uo)) (k1:Hk[b1]?=some (.cells (c.cells h) false none)) (lk:H.length≤Hk.length) (yk:∀b,b<H.length→Hk[b]?=H[b]?)
  (hall:∀j,j<c.links.length→c.okLink (c.link j)) (hu:Sl Hk 1 ua nu (nums (Cfg.used c.links))) (hnu:(Cfg.used c.links).length=nu) (hn6:nu≤64):
  WO F oX1j_22 (L 227 ρ) Hk fun t H'=>W F none ((IC.block 4 bX1j_27.loop).seq (((IC.ops oX1j_28).seq (IC.block 6 bX1j_41.loop)).seq ((IC.ops oX1j_42).seq IC.ret))) ⟨t,[],H'⟩ (callQ [(2,none)] fun v H'=>v=.c (.bool (dB c.okLinks))∧Xt H H'):=by
 have hpairs:∀ρ:Env,ρ 1=.c (.ptr (some (b1,0)))→(∀n:Int,cn n (Cfg.used c.links)≤1)→_:=fun ρ e hcn=>rl_pairs (ρ:=ρ) hc hN hpt hn64 e k1 lk yk hall hcn
 obtain⟨m,hm⟩:∃m,c.ports.length=m:=⟨_,rfl⟩
 have hm64:m≤64:=by have:=hpt.1;omega
 unfold Cfg.cells at k1
 rw[hm] at k1
 have hin:∀x∈Cfg.used c.links,c.isP x:=fun x hx=>used_in (c:=c) (Nat.le_refl _) hall x (by rw[List.take_length];exact hx)
 obtain⟨o28,ho⟩:∃o,o=oX1j_28:=⟨_,rfl⟩
 rw[←ho] at hpairs ⊢
 have hcb:∀x,cn x (Cfg.used c.links)≤nu:=fun x=>by rw[←hnu];exact List.countP_le_length
 have fin0:=hd8 hpairs hu hnu hin ho hm yk hcb
 clear hc hpt hall hu hnu hin ho hm yk hpairs hcb
 repeat (with_reducible first|(first|refine pI1 ?_|refine pS1 ?_);intros|refine pA1 ?_|refine pX1 ?_|refine pB1 ?_|exact True.intro)
 refine W_loop (fun mm st=>∃ρ,∃k:Nat,st=⟨L 227 ρ,[],Hk⟩∧mm=m-k∧k≤m∧ρ 1=.c (.ptr (some (b1,0)))∧ρ 3=.c (.sl ua nu nu uo)∧ρ 8=.c (.int .i64 (k:Nat))∧∀j:Nat,j<k→cn (j:Int) (Cfg.used c.links)≤1) m ⟨_,0,rfl,rfl,by omega,zf,zf,zf,fun j hj=>by omega⟩ ?_
 clear e1 e3
 rintro mm st ⟨ρ,k,rfl,rfl,hk,e1,e3,e8,hall⟩
 unfold bX1j_27
 have fa:=hd1 hall
 clear hall
 by_cases hkm:k<m
 ·have hxt:(k:Int)<(m:Int):=by omega
  have hcnt:=fin0 _ fun _ hu hnu _ _ _ _ _=>s_rcount (c:=nu) (o:=uo) (x:=(k:Nat)) (by omega) hnu hu
  have hcb:=fin0 _ fun _ _ _ _ _ _ _ hcb=>hcb (k:Nat)
  have hno:1<cn (k:Int) (Cfg.used c.links)→dB c.okLinks=false:=fun h=>dB_f fun h'=>by have:=h'.2.2.1 k;omega
  have hyes:cn (k:Int) (Cfg.used c.links)≤1→∀j:Nat,j<k+1→cn (j:Int) (Cfg.used c.links)≤1:=fun h j hj=>by
   by_cases e:j=k
   ·subst e;exact h
   ·exact fa _ fun hall=>hall j (by omega)
  generalize cn (k:Int) (Cfg.used c.links)=q at *
  have fh:=hd2 hno hyes
  clear hno hyes
  repeat (with_reducible first|(first|refine pI1 ?_|refine pS1 ?_);intros|refine pA1 ?_|refine pX1 ?_|refine pB1 ?_|exact True.intro)
  refine outM_call hcnt ?_
  rintro _ Hk ⟨rfl,rfl⟩
  clear hcnt
  by_cases hq:1<q
  ·have e:=fh _ fun hno _=>hno hq
   rw[e]
   repeat (with_reducible first|(first|refine pI1 ?_|refine pS1 ?_);intros|refine pA1 ?_|refine pX1 ?_|refine pB1 ?_|exact True.intro)
   exact⟨rfl,by omega,fin0 _ fun _ _ _ _ _ _ yk _=>yk⟩
  ·have hy:=fh _ fun _ hyes=>hyes (by omega)
   have fy:=hd1 hy
   clear hy
   repeat (with_reducible first|(first|refine pI1 ?_|refine pS1 ?_);intros|refine pA1 ?_|refine pX1 ?_|refine pB1 ?_|exact True.intro)
   exact loopQ_n (m-(k+1)) (by omega) ⟨_,k+1,rfl,rfl,by omega,zf,zf,zf,fy _ fun h=>h⟩
 ·obtain rfl:k=m:=by omega
  have hxt:¬(k:Int)<(k:Int):=by omega
  repeat (with_reducible first|(first|refine pI1 ?_|refine pS1 ?_);intros|refine pA1 ?_|refine pX1 ?_|refine pB1 ?_|exact True.intro)
  refine fin0 _ fun hpairs _ _ hin _ hm _ _=>hpairs _ zf fun n=>?_
  by_cases hn:c.isP n
  ·obtain⟨j,rfl⟩:∃j:Nat,n=j:=⟨n.toNat,by have:=hn.1;omega⟩
   exact fa _ fun hall=>hall j (by have:=hn.2;omega)
  ·have:¬0<cn n (Cfg.used c.links):=fun h=>hn (hin n (cn_pos.1 h))
   omega
end
end Go.Proofs.YtjcgdcadflplcaaDoor.AM.D21
namespace Go.Proofs.YtjcgdcadflplcaaDoor.AM.D21
open Go Go.Proofs.YtjcgdcadflplcaaDoor.AM Go.Proofs.YtjcgdcadflplcaaDoor.AM.C02
set_option maxHeartbeats 2000000
set_option maxRecDepth 100000
attribute [local go_sem] tn_add1 tn_sub1 put_all' nums_len sub12 sub3 sub6 rep6
section
variable {N:Nat} {H:Heap} {c:Cfg} {h:Hd}
theorem ld6 {k:Option Blk} {o:Nat} {a b d w3 f g:Cell} (h:ldnB k o 6=some [a,b,d,w3,f,g]):ldB k (o+2)=some d∧ldB k (o+3)=some w3∧ldB k (o+1)=some b:=by
 match k,h with
 |some (.cells cs ro gg),h=>
  have h:sub cs o 6=some [a,b,d,w3,f,g]:=h
  unfold sub at h
  split at h
  ·have e:=Option.some.inj h
   have e0:((cs.drop o).take 6)[1]?=some b:=by rw[e];rfl
   have e1:((cs.drop o).take 6)[2]?=some d:=by rw[e];rfl
   have e2:((cs.drop o).take 6)[3]?=some w3:=by rw[e];rfl
   simp at e0 e1 e2
   exact⟨by simpa [ldB] using e1,by simpa [ldB] using e2,by simpa [ldB] using e0⟩
  ·cases h
theorem s_rlinks (hc:CfgM N H c h) (hN:N≤H.length) (hpt:c.okPorts) (hdest:∀l∈c.links,l.dests.length≤1048576):WC F fX1j [.agg (c.cells h)] H fun v H'=>v=.c (.bool (dB c.okLinks))∧Xt H H':=by
 refine WC_start eX1j (by simp) ?_
 unfold cX1j
 have hm64:c.ports.length≤64:=hpt.1
 by_cases hbig:64<c.links.length
 ·have e:dB c.okLinks=false:=dB_f fun h=>by have:=h.1;omega
  rw[e]
  clear hc hdest hpt
  unfold Cfg.cells
  repeat (with_reducible first|(first|refine pI1 ?_|refine pS1 ?_);intros|refine pA1 ?_|refine pX1 ?_|refine pB1 ?_|exact True.intro)
  rename_i b1 H1 p1 g1 x1
  repeat (with_reducible first|(first|refine pI1 ?_|refine pS1 ?_);intros|refine pA1 ?_|refine pX1 ?_|refine pB1 ?_|exact True.intro)
  exact⟨rfl,by omega,fun b hb=>x1 b (by omega)⟩
 have hcounts:=fun(Hk:Heap) (ρ:Env) (b1 nu:Nat) (ua:Option Ad) (uo:Bool) e1 e3 k1 lk yk hall hu hnu hn6=>rl_counts (Hk:=Hk) (ρ:=ρ) (b1:=b1) (nu:=nu) (ua:=ua) (uo:=uo) hc hN hpt (by omega) e1 e3 k1 lk yk hall hu hnu hn6
 obtain⟨o22,ho⟩:∃o,o=oX1j_22:=⟨_,rfl⟩
 rw[←ho] at hcounts ⊢
 have his:=fun(Hx:Heap) (n:Int)=>s_ris (H:=Hx) (c:=c) (h:=h) (n:=n)
 obtain⟨a1,c1,a8,c8,a9,c9,a10,c10,a11,c11,o1,o8,o9,o10,o11⟩:=h
 unfold Cfg.cells at hcounts his ⊢
 dsimp only at hcounts his ⊢
 obtain⟨n,hn⟩:∃n,c.links.length=n:=⟨_,rfl⟩
 obtain⟨m,hm⟩:∃m,c.ports.length=m:=⟨_,rfl⟩
 rw[hn] at hbig ⊢
 rw[hm] at hm64 ⊢
 rw[hn,hm] at his
 have fin0:=hd7 hc hpt hdest hcounts hn hm ho
 have fis:=hd1 his
 clear hc hpt hdest hcounts hn hm ho his
 repeat (with_reducible first|(first|refine pI1 ?_|refine pS1 ?_);intros|refine pA1 ?_|refine pX1 ?_|refine pB1 ?_|exact True.intro)
 rename_i b1 H1 p1 g1 x1
 have fx:=hd1 x1
 clear x1
 repeat (with_reducible first|(first|refine pI1 ?_|refine pS1 ?_);intros|refine pA1 ?_|refine pX1 ?_|refine pB1 ?_|exact True.intro)
 refine W_loop (fun mm st=>∃ρ,∃i nu:Nat,∃uo Hk ua,st=⟨L 227 ρ,[],Hk⟩∧mm=n-i∧i≤n∧ρ 1=.c (.ptr (some (b1,0)))∧ρ 3=.c (.sl ua nu nu uo)∧ρ 4=.c (.int .i64 (i:Nat))∧H1.length≤Hk.length∧nu≤64∧Hid ((∀d,d<H1.length→Hk[d]?=H1[d]?)∧Gr H1.length Hk 1 ua nu uo (nums (Cfg.used (c.links.take i)))∧∀j,j<i→c.okLink (c.link j))) n ⟨_,0,0,false,H1,none,rfl,rfl,by omega,zf,zf,zf,Nat.le_refl _,by omega,fun _ _=>rfl,Gr.none _ _ _,fun j hj=>by omega⟩ ?_
 rintro mm st ⟨ρ,i,nu,uo,Hk,ua,rfl,rfl,hi,e1,e3,e4,lk,hnu,hall⟩
 unfold bX1j_21
 have k1:=(hall.1 b1 (by omega)).trans g1
 by_cases hin:i<n
 ·have hxt:(i:Int)<(n:Int):=by omega
  have yk:∀b,b<H.length→Hk[b]?=H[b]?:=fun b hb=>(hall.1 b (by omega)).trans (fx _ fun x1=>x1 b (by omega))
  obtain⟨la,y,ad,cd,od,ea,hla,v1,hsl,hsN,hmem,-⟩:=fin0 _ fun hc _ _ _ hn _ _=>link_at hc (i:=i) (by omega)
  rw[←yk la (by omega)] at v1
  have hdl:=fin0 _ fun _ _ hdest _ _ _ _=>hdest _ hmem
  have hport:∀s:Nat,s<m→∃lp yp,a10=some (lp,yp)∧lp<N∧ldnB H[lp]? (yp+s * 6) 6=some (c.port (s:Nat)).cells:=fun s hs=>fin0 _ fun hc _ _ _ _ hm _=>by
   obtain⟨lp,yp,q1,q2,q3,-⟩:=port_at hc (i:=s) (by omega)
   exact⟨lp,yp,q1,q2,q3⟩
  have hpsz:∀s:Nat,s<m→1≤(c.port (s:Nat)).size∧(c.port (s:Nat)).size≤32:=fun s hs=>fin0 _ fun hc hpt _ _ _ hm _=>by
   obtain⟨-,-,-,-,-,q4⟩:=port_at hc (i:=s) (by omega)
   have:=(hpt.2 _ q4).1
   exact⟨this.2.2.1,this.2.2.2.1⟩
  have fsz:=hd1 hpsz
  clear hpsz
  have hnosrc:¬c.okSrc (c.link i)→dB c.okLinks=false:=fun h'=>dB_f (no_src (fin0 _ fun _ _ _ _ hn _ _=>by omega) (.inl h'))
  have hosrc:c.okSrc (c.link i)↔((0≤(c.link i).src∧(c.link i).src<(m:Int))∧(c.port (c.link i).src).dir=1∧(c.link i).dests≠[]∧0≤(c.link i).off∧(c.link i).off≤63-(c.port (c.link i).src).size):=by
   unfold Cfg.okSrc Cfg.isP
   rw[fin0 _ fun _ _ _ _ _ hm _=>hm]
  have hseq:c.link i=c.link i:=rfl
  generalize hlk:c.link i=L0 at *
  obtain⟨src,dests,off⟩:=L0
  dsimp only at v1 hsl hdl hosrc
  obtain⟨dl,hdl'⟩:∃dl,dests.length=dl:=⟨_,rfl⟩
  rw[hdl'] at v1 hsl hdl
  have hds:dests≠[]↔dl≠0:=by rw[←hdl'];cases dests<;>simp
  rw[hds] at hosrc
  have f1:=hd10 hall yk hsl hsN hmem hport hnosrc hosrc hlk hdl'
  clear hall yk hsl hsN hmem hport hnosrc hosrc hlk hdl' hds hseq
  have hbad:¬((0≤src∧src<(m:Int))∧(c.port src).dir=1∧dl≠0∧0≤off∧off≤63-(c.port src).size)→dB c.okLinks=false:=fun h'=>f1 _ fun _ _ _ _ _ _ hnosrc hosrc _ _=>hnosrc fun h''=>h' (hosrc.1 h'')
  have fb:=hd1 hbad
  clear hbad
  have ea:a11=some (la,y):=ea
  subst ea
  repeat (with_reducible first|(first|refine pI1 ?_|refine pS1 ?_);intros|refine pA1 ?_|refine pX1 ?_|refine pB1 ?_|exact True.intro)
  rename_i b3 H3 p3 g3 x3 H4 l4 g4 x4
  have k1':=(x4 b1 (by omega)).trans ((x3 b1 (by omega)).trans k1)
  have hx4:∀d,d<Hk.length→H4[d]?=Hk[d]?:=fun d hd=>by rw[x4 d (by omega),x3 d (by omega)]
  have f4:=hd1 hx4
  clear x3 x4 hx4 k1 v1 g3
  repeat (with_reducible first|(first|refine pI1 ?_|refine pS1 ?_);intros|refine pA1 ?_|refine pX1 ?_|refine pB1 ?_|exact True.intro)
  refine outM_call (fis _ fun h=>h H4 src) ?_
  rintro _ H5 ⟨rfl,l5,x5⟩
  have k5:=(x5 b1 (by omega)).trans k1'
  have g5:=(x5 b3 (by omega)).trans g4
  have hxe:∀b,b<H.length→H5[b]?=H[b]?:=fun b hb=>by rw[x5 b (by omega),f4 _ fun h=>h b (by omega)];exact f1 _ fun _ yk _ _ _ _ _ _ _ _=>yk b hb
  have f5:=hd2 x5 hxe
  clear x5 hxe k1' g4
  by_cases z1:0≤src∧src<(m:Int)
  case neg=>
   have e:=fb _ fun h=>h fun h'=>z1 h'.1
   rw[decide_eq_false z1,e]
   repeat (with_reducible first|(first|refine pI1 ?_|refine pS1 ?_);intros|refine pA1 ?_|refine pX1 ?_|refine pB1 ?_|exact True.intro)
   exact⟨rfl,by omega,f5 _ fun _ h=>h⟩
  rw[decide_eq_true z1]
  obtain⟨z11,z12⟩:=z1
  obtain⟨s,rfl⟩:∃s:Nat,src=s:=⟨src.toNat,by omega⟩
  obtain⟨lp,yp,ep,hlp,v2⟩:=f1 _ fun _ _ _ _ _ hport _ _ _ _=>hport s (by omega)
  rw[←f5 _ fun _ h=>h lp (by omega)] at v2
  have hsz:=fsz _ fun h=>h s (by omega)
  generalize hps:c.port (s:Nat)=ps at *
  obtain⟨pa,kd,dr,sz,dp,fr⟩:=ps
  dsimp only [Pt.cells] at v2 hsz
  obtain⟨sz1,sz2⟩:=hsz
  have ep:a10=some (lp,yp):=ep
  subst ep
  have fps:=hd1 hps
  clear hps
  have hbad:¬(dr=1∧dl≠0∧0≤off∧off≤63-sz)→dB c.okLinks=false:=fun h=>fb _ fun hb=>hb fun h'=>h h'.2
  have fb2:=hd1 hbad
  clear hbad fb
  have hdir:ldB H5[lp]? (yp+s * 6+2)=some (.int .i64 dr)∧ldB H5[lp]? (yp+s * 6+3)=some (.int .i64 sz)∧ldB H5[lp]? (yp+s * 6+1)=some (.int .i64 kd):=ld6 v2
  obtain⟨v21,v22,v23⟩:=hdir
  have fv:=hd4 v2 v21 v22 v23
  clear v2 v23
  by_cases z2:dr=1
  case neg=>
   have e:=fb2 _ fun h=>h fun h'=>z2 h'.1
   rw[e]
   repeat (with_reducible first|(first|refine pI1 ?_|refine pS1 ?_);intros|refine pA1 ?_|refine pX1 ?_|refine pB1 ?_|exact True.intro)
   exact⟨rfl,by omega,f5 _ fun _ h=>h⟩
  by_cases z3:dl=0
  ·have e:=fb2 _ fun h=>h fun h'=>h'.2.1 z3
   have fz:=hd1 z3
   subst z2
   subst z3
   rw[e]
   repeat (with_reducible first|(first|refine pI1 ?_|refine pS1 ?_);intros|refine pA1 ?_|refine pX1 ?_|refine pB1 ?_|exact True.intro)
   exact⟨rfl,by omega,f5 _ fun _ h=>h⟩
  have z3':¬(dl:Int)=0:=by omega
  by_cases z4:off<0
  ·have e:=fb2 _ fun h=>h fun h'=>by omega
   rw[e]
   subst z2
   repeat (with_reducible first|(first|refine pI1 ?_|refine pS1 ?_);intros|refine pA1 ?_|refine pX1 ?_|refine pB1 ?_|exact True.intro)
   exact⟨rfl,by omega,f5 _ fun _ h=>h⟩
  by_cases z5:64<off
  ·have e:=fb2 _ fun h=>h fun h'=>by omega
   rw[e]
   subst z2
   repeat (with_reducible first|(first|refine pI1 ?_|refine pS1 ?_);intros|refine pA1 ?_|refine pX1 ?_|refine pB1 ?_|exact True.intro)
   exact⟨rfl,by omega,f5 _ fun _ h=>h⟩
  by_cases z6:64<off+1+sz
  ·have e:=fb2 _ fun h=>h fun h'=>by omega
   rw[e]
   subst z2
   repeat (with_reducible first|(first|refine pI1 ?_|refine pS1 ?_);intros|refine pA1 ?_|refine pX1 ?_|refine pB1 ?_|exact True.intro)
   exact⟨rfl,by omega,f5 _ fun _ h=>h⟩
  subst z2
  have hsrc:c.okSrc (c.link i):=f1 _ fun _ _ _ _ _ _ _ hosrc hlk _=>by rw[hlk];exact hosrc.2 ⟨⟨z11,z12⟩,rfl,z3,by omega,by show off≤63-sz;omega⟩
  have fsrc:=hd1 hsrc
  clear hsrc fb2
  repeat (with_reducible first|(first|refine pI1 ?_|refine pS1 ?_);intros|refine pA1 ?_|refine pX1 ?_|refine pB1 ?_|exact True.intro)
  rename_i b7 H7 p7 g7 x7
  have hx7:∀d,d<Hk.length→H7[d]?=Hk[d]?:=fun d hd=>by rw[x7 d (by omega),f5 _ fun x5 _=>x5 d (by omega)];exact f4 _ fun h=>h d hd
  have hgr:=f1 _ fun hall _ _ _ _ _ _ _ _ _=>hall.2.1.keepX (H':=H7) hx7
  have haw:away ua b3:=f1 _ fun hall _ _ _ _ _ _ _ _ _ x e=>by have:=(hall.2.1.lt x e).2;omega
  have k7:=(x7 b1 (by omega)).trans k5
  have g37:=(x7 b3 (by omega)).trans g5
  refine outM_appG (j:=1) hgr (by omega) (Sl.blk g7 rfl) (by omega) (by omega) ?_
  intro a' H8 q1 q2 q3 q4 q5
  have k8:=(q3 b1 (by omega)).trans k7
  have g8:=(q4 b3 (by omega) haw).trans g37
  rw[show nums (Cfg.used (List.take i c.links))++[Cell.int .i64 (s:Nat)]=nums (Cfg.used (List.take i c.links)++((s:Int) :: dests.take 0)) by rw[nums_app];rfl] at q1
  have h8:∀d,d<H1.length→H8[d]?=H1[d]?:=fun d hd=>by rw[q3 d hd,hx7 d (by omega)];exact f1 _ fun hall _ _ _ _ _ _ _ _ _=>hall.1 d hd
  have haw':=q5 b3 (by omega)
  have f8:=hd3 q1 h8 haw'
  clear hgr haw k7 g37 x7 g7 hx7 q1 q3 q4 q5 h8 haw' k5 g5 v21 v22 fv
  obtain⟨⟨da,dz⟩,had⟩:=f1 _ fun _ _ hsl _ _ _ _ _ _ _=>hsl.is_some (by omega)
  subst had
  repeat (with_reducible first|(first|refine pI1 ?_|refine pS1 ?_);intros|refine pA1 ?_|refine pX1 ?_|refine pB1 ?_|exact True.intro)
  refine W_loop (fun mm st=>∃ρ,∃k:Nat,∃oo Hm aa,st=⟨L 227 ρ,[],Hm⟩∧mm=dl-k∧k≤dl∧ρ 1=.c (.ptr (some (b1,0)))∧ρ 3=.c (.sl aa (nu+1+k) (nu+1+k) oo)∧ρ 4=.c (.int .i64 (i:Nat))∧ρ 5=.c (.ptr (some (b3,0)))∧ρ 6=.c (.int .i64 (k:Nat))∧H8.length≤Hm.length∧
   Hid ((∀d,d<H1.length→Hm[d]?=H1[d]?)∧Hm[b3]?=H8[b3]?∧away aa b3∧Gr H1.length Hm 1 aa (nu+1+k) oo (nums (Cfg.used (List.take i c.links)++((s:Int) :: dests.take k)))∧∀j,j<k→c.okDest (s:Nat) (gn dests j))) dl ⟨_,0,true,H8,a',rfl,rfl,by omega,zf,zf,zf,zf,zf,Nat.le_refl _,f8 _ fun q1 h8 haw'=>⟨h8,rfl,haw',q1,fun j hj=>by omega⟩⟩ ?_
  clear e1 e3 e4
  rintro mm st ⟨ρ,k,oo,Hm,aa,rfl,rfl,hk,e1,e3,e4,e5,e6,lm,hall⟩
  unfold bX1j_17
  have km:=(hall.1 b1 (by omega)).trans g1
  have gm:=hall.2.1.trans g8
  by_cases hkd:k<dl
  ·have hxk:(k:Int)<(dl:Int):=by omega
   have ym:∀b,b<H.length→Hm[b]?=H[b]?:=fun b hb=>(hall.1 b (by omega)).trans (fx _ fun x1=>x1 b (by omega))
   have hld:=f1 _ fun _ _ hsl _ _ _ _ _ _ hdl'=>hsl.gn hdl' hkd
   have hda:da<N:=f1 _ fun _ _ _ hsN _ _ _ _ _ _=>hsN _ _ rfl
   rw[←ym da (by omega)] at hld
   dsimp only at hld
   have hbad:¬c.okDest (s:Nat) (gn dests k)→dB c.okLinks=false:=fun h=>dB_f (no_dest (i:=i) (k:=k) (fin0 _ fun _ _ _ _ hn _ _=>by omega) (f1 _ fun _ _ _ _ _ _ _ _ hlk hdl'=>by rw[hlk];show k<dests.length;omega) (.inl (f1 _ fun _ _ _ _ _ _ _ _ hlk _=>by rw[hlk];exact h)))
   have hnext:c.okDest (s:Nat) (gn dests k)→∀j,j<k+1→c.okDest (s:Nat) (gn dests j):=fun h j hj=>by
    by_cases e:j=k
    ·subst e;exact h
    ·exact hall.2.2.2.2 j (by omega)
   have hod:c.okDest (s:Nat) (gn dests k)↔((0≤gn dests k∧gn dests k<(m:Int))∧(c.port (gn dests k)).dir=2∧(c.port (gn dests k)).kind=kd∧(c.port (gn dests k)).size=sz):=by
    unfold Cfg.okDest Cfg.isP
    rw[fin0 _ fun _ _ _ _ _ hm _=>hm,fps _ fun h=>h]
   have htk:(s:Int) :: dests.take (k+1)=((s:Int) :: dests.take k)++[gn dests k]:=f1 _ fun _ _ _ _ _ _ _ _ _ hdl'=>by
    have e1:gn dests k=dests[k]'(by omega):=by simp[gn,show k<dests.length by omega]
    rw[List.take_succ_eq_append_getElem (by omega),e1];rfl
   generalize c.okDest (s:Nat) (gn dests k)=P at *
   generalize gn dests k=u at *
   obtain⟨lp1,v2⟩:=f1 _ fun _ _ _ _ _ hport _ _ _ _=>hport s (by omega)
   obtain⟨yp1,ep1,-,v2⟩:=v2
   cases ep1
   rw[←ym lp (by omega),fps _ fun h=>h] at v2
   obtain⟨w1,w2,w3⟩:=ld6 v2
   have f9:=hd6 hall ym hbad hnext hod htk
   clear hall ym hbad hnext hod htk v2 k8 g8
   repeat (with_reducible first|(first|refine pI1 ?_|refine pS1 ?_);intros|refine pA1 ?_|refine pX1 ?_|refine pB1 ?_|exact True.intro)
   refine outM_call (fis _ fun h=>h Hm u) ?_
   rintro _ Hn ⟨rfl,ln,xn⟩
   have kn:=(xn b1 (by omega)).trans km
   have gn':=(xn b3 (by omega)).trans gm
   rw[←xn lp (by omega)] at w1 w2 w3
   have fn:=hd1 xn
   clear xn km gm
   by_cases y1:0≤u∧u<(m:Int)
   case neg=>
    have e:=f9 _ fun _ _ hbad _ hod _=>hbad fun h=>y1 (hod.1 h).1
    rw[decide_eq_false y1,e]
    clear w1 w2 w3
    repeat (with_reducible first|(first|refine pI1 ?_|refine pS1 ?_);intros|refine pA1 ?_|refine pX1 ?_|refine pB1 ?_|exact True.intro)
    exact⟨rfl,by omega,fun b hb=>by rw[fn _ fun xn=>xn b (by omega)];exact f9 _ fun _ ym _ _ _ _=>ym b hb⟩
   rw[decide_eq_true y1]
   obtain⟨y11,y12⟩:=y1
   obtain⟨u,rfl⟩:∃w:Nat,u=w:=⟨u.toNat,by omega⟩
   obtain⟨lp2,yp2,ep2,hlp2,v3⟩:=f1 _ fun _ _ _ _ _ hport _ _ _ _=>hport u (by omega)
   cases ep2
   rw[←f9 _ fun _ ym _ _ _ _=>ym lp (by omega),←fn _ fun xn=>xn lp (by omega)] at v3
   generalize hpu:c.port (u:Nat)=pu at *
   obtain⟨upa,ukd,udr,usz,udp,ufr⟩:=pu
   obtain⟨w4,w5,w6⟩:=ld6 v3
   have fpu:=hd1 hpu
   clear hpu v3
   dsimp only at w4 w5 w6
   have hob:¬(udr=2∧ukd=kd∧usz=sz)→dB c.okLinks=false:=fun h=>f9 _ fun _ _ hbad _ hod _=>hbad fun h'=>h (hod.1 h').2
   have fob:=hd1 hob
   clear hob
   by_cases y2:udr=2
   case neg=>
    have e:=fob _ fun h=>h fun h'=>y2 h'.1
    rw[e]
    clear w1 w2 w3 w5 w6
    repeat (with_reducible first|(first|refine pI1 ?_|refine pS1 ?_);intros|refine pA1 ?_|refine pX1 ?_|refine pB1 ?_|exact True.intro)
    exact⟨rfl,by omega,fun b hb=>by rw[fn _ fun xn=>xn b (by omega)];exact f9 _ fun _ ym _ _ _ _=>ym b hb⟩
   by_cases y3:ukd=kd
   case neg=>
    have e:=fob _ fun h=>h fun h'=>y3 h'.2.1
    rw[e]
    subst y2
    repeat (with_reducible first|(first|refine pI1 ?_|refine pS1 ?_);intros|refine pA1 ?_|refine pX1 ?_|refine pB1 ?_|exact True.intro)
    exact⟨rfl,by omega,fun b hb=>by rw[fn _ fun xn=>xn b (by omega)];exact f9 _ fun _ ym _ _ _ _=>ym b hb⟩
   by_cases y4:usz=sz
   case neg=>
    have e:=fob _ fun h=>h fun h'=>y4 h'.2.2
    rw[e]
    subst y2
    subst y3
    repeat (with_reducible first|(first|refine pI1 ?_|refine pS1 ?_);intros|refine pA1 ?_|refine pX1 ?_|refine pB1 ?_|exact True.intro)
    exact⟨rfl,by omega,fun b hb=>by rw[fn _ fun xn=>xn b (by omega)];exact f9 _ fun _ ym _ _ _ _=>ym b hb⟩
   have hP:=f9 _ fun _ _ _ hnext hod _=>hnext (hod.2 ⟨⟨y11,y12⟩,y2,y3,y4⟩)
   have fP:=hd1 hP
   clear hP fob
   subst y2
   subst y3
   subst y4
   repeat (with_reducible first|(first|refine pI1 ?_|refine pS1 ?_);intros|refine pA1 ?_|refine pX1 ?_|refine pB1 ?_|exact True.intro)
   rename_i b9 H9 p9 g9 x9
   have hx9:∀d,d<Hm.length→H9[d]?=Hm[d]?:=fun d hd=>by rw[x9 d (by omega)];exact fn _ fun xn=>xn d hd
   have hgr:=f9 _ fun hall _ _ _ _ _=>hall.2.2.2.1.keepX (H':=H9) hx9
   have haw:away aa b3:=f9 _ fun hall _ _ _ _ _=>hall.2.2.1
   refine outM_appG (j:=1) hgr (by omega) (Sl.blk g9 rfl) (by omega) (by omega) ?_
   intro a2 Ha r1 r2 r3 r4 r5
   have hb3:Ha[b3]?=H8[b3]?:=by rw[r4 b3 (by omega) haw,hx9 b3 (by omega)];exact f9 _ fun hall _ _ _ _ _=>hall.2.1
   rw[show nums (Cfg.used (List.take i c.links)++(s:Int) :: List.take k dests)++[Cell.int .i64 (u:Nat)]=nums (Cfg.used (List.take i c.links)++((s:Int) :: dests.take (k+1))) by rw[f9 _ fun _ _ _ _ _ htk=>htk,←List.append_assoc,nums_app _ [(u:Int)]];rfl] at r1
   have fr:=hd5 r1 r3 hx9 hb3 r5
   clear r1 r3 r4 r5 hx9 hb3 hgr haw x9 g9
   repeat (with_reducible first|(first|refine pI1 ?_|refine pS1 ?_);intros|refine pA1 ?_|refine pX1 ?_|refine pB1 ?_|exact True.intro)
   exact loopQ_n (dl-(k+1)) (by omega) ⟨_,k+1,true,Ha,a2,rfl,rfl,by omega,zf,zf,zf,zf,zf,by omega,fr _ fun r1 r3 hx9 hb3 r5=>⟨fun d hd=>by rw[r3 d hd,hx9 d (by omega)];exact f9 _ fun hall _ _ _ _ _=>hall.1 d hd,hb3,r5 b3 (by omega),r1,fP _ fun h=>h⟩⟩
  ·obtain rfl:k=dl:=by omega
   have hxk:¬(k:Int)<(k:Int):=by omega
   have hU:Cfg.used (c.links.take (i+1))=Cfg.used (c.links.take i)++((s:Int) :: dests.take k):=f1 _ fun _ _ _ _ _ _ _ _ hlk hdl'=>by
    rw[used_take (fin0 _ fun _ _ _ _ hn _ _=>by omega),hlk,←hdl',List.take_length]
   have hok1:∀j,j<i+1→c.okLink (c.link j):=fun j hj=>by
    by_cases e:j=i
    ·subst e
     refine⟨fsrc _ fun h=>h,fun x hx=>?_⟩
     rw[f1 _ fun _ _ _ _ _ _ _ _ hlk _=>hlk] at hx ⊢
     obtain⟨t,ht,rfl⟩:=gn_of hx
     exact hall.2.2.2.2 t (by have:t<dests.length:=ht;have:=f1 _ fun _ _ _ _ _ _ _ _ _ hdl'=>hdl';omega)
    ·exact f1 _ fun hall _ _ _ _ _ _ _ _ _=>hall.2.2 j (by omega)
   have hlenU:(Cfg.used (c.links.take (i+1))).length=nu+1+k:=by
    have:=hall.2.2.2.1.len
    rw[nums_len,Nat.mul_one] at this
    rw[hU];exact this
   have hmany:m<nu+1+k→dB c.okLinks=false:=fun h=>dB_f fun h'=>by
    have:=used_few (c:=c) (i:=i+1) (fin0 _ fun _ _ _ _ hn _ _=>by omega) hok1 fun n=>Nat.le_trans (used_le n) (h'.2.2.1 n)
    rw[hlenU,fin0 _ fun _ _ _ _ _ hm _=>hm] at this
    omega
   have f9:=hd4 hall hU hok1 hmany
   clear hall hU hok1 hmany hlenU
   by_cases hmm:m<nu+1+k
   ·have e:=f9 _ fun _ _ _ h=>h hmm
    have hmi:(m:Int)<(nu:Int)+1+k:=by omega
    rw[e]
    repeat (with_reducible first|(first|refine pI1 ?_|refine pS1 ?_);intros|refine pA1 ?_|refine pX1 ?_|refine pB1 ?_|exact True.intro)
    exact⟨rfl,by omega,fun b hb=>by rw[f9 _ fun hall _ _ _=>hall.1 b (by omega)];exact fx _ fun x1=>x1 b (by omega)⟩
   ·have hmi:¬(m:Int)<(nu:Int)+1+k:=by omega
    repeat (with_reducible first|(first|refine pI1 ?_|refine pS1 ?_);intros|refine pA1 ?_|refine pX1 ?_|refine pB1 ?_|exact True.intro)
    exact loopQ_n (n-(i+1)) (by omega) ⟨_,i+1,nu+1+k,oo,Hm,aa,rfl,rfl,by omega,zf,zf,zf,by omega,by omega,f9 _ fun hall hU hok1 _=>⟨hall.1,by rw[hU];exact hall.2.2.2.1,hok1⟩⟩
 ·obtain rfl:i=n:=by omega
  have hxt:¬(i:Int)<(i:Int):=by omega
  have yk:∀b,b<H.length→Hk[b]?=H[b]?:=fun b hb=>(hall.1 b (by omega)).trans (fx _ fun x1=>x1 b (by omega))
  have htl:c.links.take i=c.links:=fin0 _ fun _ _ _ _ hn _ _=>by rw[←hn];exact List.take_length
  have fy:=hd3 yk htl hall
  clear yk htl hall
  repeat (with_reducible first|(first|refine pI1 ?_|refine pS1 ?_);intros|refine pA1 ?_|refine pX1 ?_|refine pB1 ?_|exact True.intro)
  refine fin0 _ fun _ _ _ hcounts hn hm _=>fy _ fun yk htl hall=>?_
  rw[htl] at hall
  have hl:=hall.2.1.len
  rw[nums_len,Nat.mul_one] at hl
  rw[←hn,←hm] at k1
  exact hcounts Hk _ b1 nu ua uo zf zf k1 (by omega) yk (fun j hj=>hall.2.2 j (by omega)) hall.2.1.sl hl hnu
end
end Go.Proofs.YtjcgdcadflplcaaDoor.AM.D21
namespace Go.Proofs.YtjcgdcadflplcaaDoor.AM.D21
open Go Go.Proofs.YtjcgdcadflplcaaDoor.AM Go.Proofs.YtjcgdcadflplcaaDoor.AM.C02
set_option maxHeartbeats 2000000
set_option maxRecDepth 100000
attribute [local go_sem] tn_add1 tn_sub1 put_all' nums_len sub12
structure Few (c:Cfg):Prop where
 owners:c.owners.length≤10000000
 ports:c.ports.length≤10000000
 dests:∀l∈c.links,l.dests.length≤1048576
section
variable {N:Nat} {H:Heap} {c:Cfg} {h:Hd}
theorem s_rCheck (hc:CfgM N H c h) (hN:N≤H.length) (hf:Few c):WC F fX1c [.agg (c.cells h)] H fun v H'=>v=.c (.int .i64 c.check)∧Xt H H':=by
 refine WC_start eX1c (by simp) ?_
 unfold cX1c
 have h1:=fun(Hx:Heap) (hx:Xt H Hx)=>s_rnodes (H:=Hx) (hc.keep fun b hb=>hx.2 b (by omega)) (by have:=hx.1;omega) hf.owners
 have h2:=fun(Hx:Heap)=>s_rclock (H:=Hx) (c:=c) (h:=h)
 have h3:=fun(Hx:Heap) (hx:Xt H Hx) (ho:c.okNodes)=>s_rparts (H:=Hx) (hc.keep fun b hb=>hx.2 b (by omega)) (by have:=hx.1;omega) ⟨ho.1,ho.2.1⟩
 have h4:=fun(Hx:Heap) (hx:Xt H Hx) (ho:c.okNodes) (hp:c.okParts)=>s_rwins (H:=Hx) (hc.keep fun b hb=>hx.2 b (by omega)) (by have:=hx.1;omega) ⟨ho.1,ho.2.1⟩ hp.1
 have h5:=fun(Hx:Heap) (hx:Xt H Hx) (hp:c.okParts)=>s_rports (H:=Hx) (hc.keep fun b hb=>hx.2 b (by omega)) (by have:=hx.1;omega) hp.1 hf.ports
 have h6:=fun(Hx:Heap) (hx:Xt H Hx) (hp:c.okPorts)=>s_rlinks (H:=Hx) (hc.keep fun b hb=>hx.2 b (by omega)) (by have:=hx.1;omega) hp hf.dests
 obtain⟨C,hC⟩:∃C,C=c.cells h:=⟨_,rfl⟩
 have hsub:sub C 0 12=some C:=by rw[hC];rfl
 rw[←hC] at h1 h2 h3 h4 h5 h6 ⊢
 have hck:c.check=if dB c.okNodes=false then 21 else if dB c.okClock=false then 22 else if dB c.okParts=false then 23 else if dB c.okWins=false then 24 else if dB c.okPorts=false then 25 else if dB c.okLinks=false then 26 else 0:=rfl
 obtain⟨ck,hck'⟩:∃ck,c.check=ck:=⟨_,rfl⟩
 rw[hck'] at hck ⊢
 have fin0:=hd7 h1 h2 h3 h4 h5 h6 hck
 clear h1 h2 h3 h4 h5 h6 hck hck' hC hc hf
 repeat (with_reducible first|(first|refine pI1 ?_|refine pS1 ?_);intros|refine pA1 ?_|refine pX1 ?_|refine pB1 ?_|exact True.intro)
 rename_i b1 H1 p1 g1 x1
 have t1:Xt H H1:=⟨by omega,fun b hb=>x1 b (by omega)⟩
 have f1:=hd1 t1
 clear x1 t1
 repeat (with_reducible first|(first|refine pI1 ?_|refine pS1 ?_);intros|refine pA1 ?_|refine pX1 ?_|refine pB1 ?_|exact True.intro)
 refine outM_call (fin0 _ fun h _ _ _ _ _ _=>f1 _ fun t=>h H1 t) ?_
 rintro _ H2 ⟨rfl,l2,x2⟩
 have g2:=(x2 b1 (by omega)).trans g1
 have t2:Xt H H2:=f1 _ fun t=>⟨by omega,fun b hb=>(x2 b (by omega)).trans (t.2 b hb)⟩
 have f2:=hd1 t2
 clear x2 t2 g1 f1
 by_cases o1:c.okNodes
 case neg=>
  have e:ck=21:=fin0 _ fun _ _ _ _ _ _ hck=>by rw[hck,if_pos (dB_f o1)]
  rw[dB_f o1]
  subst e
  clear o1
  repeat (with_reducible first|(first|refine pI1 ?_|refine pS1 ?_);intros|refine pA1 ?_|refine pX1 ?_|refine pB1 ?_|exact True.intro)
  exact⟨rfl,f2 _ fun t=>t⟩
 rw[dB_t o1]
 have fo1:=hd1 o1
 clear o1
 repeat (with_reducible first|(first|refine pI1 ?_|refine pS1 ?_);intros|refine pA1 ?_|refine pX1 ?_|refine pB1 ?_|exact True.intro)
 refine outM_call (fin0 _ fun _ h _ _ _ _ _=>h H2) ?_
 rintro _ H3 ⟨rfl,l3,x3⟩
 have g3:=(x3 b1 (by omega)).trans g2
 have t3:Xt H H3:=f2 _ fun t=>⟨by omega,fun b hb=>(x3 b (by omega)).trans (t.2 b hb)⟩
 have f3:=hd1 t3
 clear x3 t3 g2 f2
 by_cases o2:c.okClock
 case neg=>
  have e:ck=22:=fin0 _ fun _ _ _ _ _ _ hck=>fo1 _ fun o1=>by rw[hck,if_neg (by rw[dB_t o1];decide),if_pos (dB_f o2)]
  rw[dB_f o2]
  subst e
  clear o2
  repeat (with_reducible first|(first|refine pI1 ?_|refine pS1 ?_);intros|refine pA1 ?_|refine pX1 ?_|refine pB1 ?_|exact True.intro)
  exact⟨rfl,f3 _ fun t=>t⟩
 rw[dB_t o2]
 have fo2:=hd1 o2
 clear o2
 repeat (with_reducible first|(first|refine pI1 ?_|refine pS1 ?_);intros|refine pA1 ?_|refine pX1 ?_|refine pB1 ?_|exact True.intro)
 refine outM_call (fin0 _ fun _ _ h _ _ _ _=>f3 _ fun t=>fo1 _ fun o1=>h H3 t o1) ?_
 rintro _ H4 ⟨rfl,l4,x4⟩
 have g4:=(x4 b1 (by omega)).trans g3
 have t4:Xt H H4:=f3 _ fun t=>⟨by omega,fun b hb=>(x4 b (by omega)).trans (t.2 b hb)⟩
 have f4:=hd1 t4
 clear x4 t4 g3 f3
 by_cases o3:c.okParts
 case neg=>
  have e:ck=23:=fin0 _ fun _ _ _ _ _ _ hck=>fo1 _ fun o1=>fo2 _ fun o2=>by rw[hck,if_neg (by rw[dB_t o1];decide),if_neg (by rw[dB_t o2];decide),if_pos (dB_f o3)]
  rw[dB_f o3]
  subst e
  clear o3
  repeat (with_reducible first|(first|refine pI1 ?_|refine pS1 ?_);intros|refine pA1 ?_|refine pX1 ?_|refine pB1 ?_|exact True.intro)
  exact⟨rfl,f4 _ fun t=>t⟩
 rw[dB_t o3]
 have fo3:=hd1 o3
 clear o3
 repeat (with_reducible first|(first|refine pI1 ?_|refine pS1 ?_);intros|refine pA1 ?_|refine pX1 ?_|refine pB1 ?_|exact True.intro)
 refine outM_call (fin0 _ fun _ _ _ h _ _ _=>f4 _ fun t=>fo1 _ fun o1=>fo3 _ fun o3=>h H4 t o1 o3) ?_
 rintro _ H5 ⟨rfl,l5,x5⟩
 have g5:=(x5 b1 (by omega)).trans g4
 have t5:Xt H H5:=f4 _ fun t=>⟨by omega,fun b hb=>(x5 b (by omega)).trans (t.2 b hb)⟩
 have f5:=hd1 t5
 clear x5 t5 g4 f4
 by_cases o4:c.okWins
 case neg=>
  have e:ck=24:=fin0 _ fun _ _ _ _ _ _ hck=>fo1 _ fun o1=>fo2 _ fun o2=>fo3 _ fun o3=>by rw[hck,if_neg (by rw[dB_t o1];decide),if_neg (by rw[dB_t o2];decide),if_neg (by rw[dB_t o3];decide),if_pos (dB_f o4)]
  rw[dB_f o4]
  subst e
  clear o4
  repeat (with_reducible first|(first|refine pI1 ?_|refine pS1 ?_);intros|refine pA1 ?_|refine pX1 ?_|refine pB1 ?_|exact True.intro)
  exact⟨rfl,f5 _ fun t=>t⟩
 rw[dB_t o4]
 have fo4:=hd1 o4
 clear o4
 repeat (with_reducible first|(first|refine pI1 ?_|refine pS1 ?_);intros|refine pA1 ?_|refine pX1 ?_|refine pB1 ?_|exact True.intro)
 refine outM_call (fin0 _ fun _ _ _ _ h _ _=>f5 _ fun t=>fo3 _ fun o3=>h H5 t o3) ?_
 rintro _ H6 ⟨rfl,l6,x6⟩
 have g6:=(x6 b1 (by omega)).trans g5
 have t6:Xt H H6:=f5 _ fun t=>⟨by omega,fun b hb=>(x6 b (by omega)).trans (t.2 b hb)⟩
 have f6:=hd1 t6
 clear x6 t6 g5 f5
 by_cases o5:c.okPorts
 case neg=>
  have e:ck=25:=fin0 _ fun _ _ _ _ _ _ hck=>fo1 _ fun o1=>fo2 _ fun o2=>fo3 _ fun o3=>fo4 _ fun o4=>by rw[hck,if_neg (by rw[dB_t o1];decide),if_neg (by rw[dB_t o2];decide),if_neg (by rw[dB_t o3];decide),if_neg (by rw[dB_t o4];decide),if_pos (dB_f o5)]
  rw[dB_f o5]
  subst e
  clear o5
  repeat (with_reducible first|(first|refine pI1 ?_|refine pS1 ?_);intros|refine pA1 ?_|refine pX1 ?_|refine pB1 ?_|exact True.intro)
  exact⟨rfl,f6 _ fun t=>t⟩
 rw[dB_t o5]
 have fo5:=hd1 o5
 clear o5
 repeat (with_reducible first|(first|refine pI1 ?_|refine pS1 ?_);intros|refine pA1 ?_|refine pX1 ?_|refine pB1 ?_|exact True.intro)
 refine outM_call (fin0 _ fun _ _ _ _ _ h _=>f6 _ fun t=>fo5 _ fun o5=>h H6 t o5) ?_
 rintro _ H7 ⟨rfl,l7,x7⟩
 have t7:Xt H H7:=f6 _ fun t=>⟨by omega,fun b hb=>(x7 b (by omega)).trans (t.2 b hb)⟩
 have f7:=hd1 t7
 clear x7 t7 g6 f6
 by_cases o6:c.okLinks
 case neg=>
  have e:ck=26:=fin0 _ fun _ _ _ _ _ _ hck=>fo1 _ fun o1=>fo2 _ fun o2=>fo3 _ fun o3=>fo4 _ fun o4=>fo5 _ fun o5=>by rw[hck,if_neg (by rw[dB_t o1];decide),if_neg (by rw[dB_t o2];decide),if_neg (by rw[dB_t o3];decide),if_neg (by rw[dB_t o4];decide),if_neg (by rw[dB_t o5];decide),if_pos (dB_f o6)]
  rw[dB_f o6]
  subst e
  clear o6
  repeat (with_reducible first|(first|refine pI1 ?_|refine pS1 ?_);intros|refine pA1 ?_|refine pX1 ?_|refine pB1 ?_|exact True.intro)
  exact⟨rfl,f7 _ fun t=>t⟩
 have e:ck=0:=fin0 _ fun _ _ _ _ _ _ hck=>fo1 _ fun o1=>fo2 _ fun o2=>fo3 _ fun o3=>fo4 _ fun o4=>fo5 _ fun o5=>by rw[hck,if_neg (by rw[dB_t o1];decide),if_neg (by rw[dB_t o2];decide),if_neg (by rw[dB_t o3];decide),if_neg (by rw[dB_t o4];decide),if_neg (by rw[dB_t o5];decide),if_neg (by rw[dB_t o6];decide)]
 rw[dB_t o6]
 subst e
 clear o6
 repeat (with_reducible first|(first|refine pI1 ?_|refine pS1 ?_);intros|refine pA1 ?_|refine pX1 ?_|refine pB1 ?_|exact True.intro)
 exact⟨rfl,f7 _ fun t=>t⟩
end
theorem lk_rowW {H:Heap} {x:Lk.T.D} {cs:List Cell} (h:Vw Lk.T H x cs):∃e,LkR H.length H e cs∧e.dests.length≤wt Lk.T x:=by
 obtain⟨_,_,rfl,⟨rfl,w1⟩,_,_,rfl,h3,_,_,rfl,⟨rfl,w2⟩,rfl⟩:=h
 obtain⟨a,c,rfl,h1,h2,h3,h4⟩:=Vw.nums h3
 refine⟨⟨x.1,x.2.1,x.2.2.1⟩,⟨a,c,false,rfl,h3,fun b x e=>h3.lt e,h4,h1,h2,wf_i64 w1,wf_i64 w2⟩,?_⟩
 show List.length (α:=Int) x.2.1≤1+(1+(List.map (fun d=>wt I d) x.2.1).sum+(1+0))
 have:(List.map (fun d=>wt I d) x.2.1).sum=List.length (α:=Int) x.2.1:=by
  generalize x.2.1=l
  show (List.map (fun _:Int=>1) l).sum=_
  have hs:∀l:List Int,(List.map (fun _:Int=>1) l).sum=l.length:=fun l=>by
   induction l with
   |nil=>rfl
   |cons y l ih=>simp only[List.map_cons,List.sum_cons,ih,List.length_cons];omega
  exact hs l
 omega
theorem len1 {α:Type} (l:List α):(l.map fun _=>1).sum=l.length:=by
 induction l with
 |nil=>rfl
 |cons x l ih=>simp only[List.map_cons,List.sum_cons,ih,List.length_cons];omega
end Go.Proofs.YtjcgdcadflplcaaDoor.AM.D21
namespace Go.Proofs.YtjcgdcadflplcaaDoor.AM.D21
open Go Go.Proofs.YtjcgdcadflplcaaDoor.AM Go.Proofs.YtjcgdcadflplcaaDoor.AM.C02
set_option maxHeartbeats 2000000
set_option maxRecDepth 100000
attribute [local go_sem] tn_add1 tn_sub1 put_all' nums_len
structure TwinOk (c:Cfg):Prop where
 owners:c.owners.length≤2000000
 parts:c.parts.length≤2000000
 wins:c.wins.length≤2000000
 ports:c.ports.length≤2000000
 links:c.links.length≤2000000
 rows:∀r∈c.wins,r.length≤2000000
 dests:∀l∈c.links,l.dests.length≤2000000
def mkW (r:List Int) (a:Option Ad) (o:Bool):List Cell:=[.sl a r.length r.length o]
def mkL (l:Lk) (a:Option Ad) (o:Bool):List Cell:=[.int .i64 l.src,.sl a l.dests.length l.dests.length o,.int .i64 l.off]
def twC (c:Cfg) (s1 s8 s9 s10 s11:Cell):List Cell:=[.int .i64 c.nodes,s1,.int .i64 c.drift,.int .i64 c.reading,.int .i64 c.margin,.int .i64 c.bound,.int .i64 c.rejoin,.int .i64 c.quota,s8,s9,s10,s11]
def sl0:Cell:=.sl none 0 0 false
theorem sub3z (a b c:Cell):sub [a,b,c] 0 3=some [a,b,c]:=rfl
attribute [local go_sem] sub3z
attribute [local go_sem] twC
theorem win_at2 {N:Nat} {H:Heap} {c:Cfg} {h:Hd} (hc:CfgM N H c h) {i:Nat} (hi:i<c.wins.length):∃la y a cc o,h.a9=some (la,y)∧la<N∧ldB H[la]? (y+i)=some (.sl a c.wins[i].length cc o)∧Sl H 1 a c.wins[i].length (nums c.wins[i])∧(∀b x,a=some (b,x)→b<N):=by
 obtain⟨⟨la,y⟩,cs,e1,e2,e3,a,cc,o,rfl,e4,e5,-⟩:=hc.wins.at hi
 exact⟨la,y,a,cc,o,e1,e2,ldB_of_ldnB (by rw[Nat.mul_one] at e3;exact e3),e4,e5⟩
theorem lnk_at2 {N:Nat} {H:Heap} {c:Cfg} {h:Hd} (hc:CfgM N H c h) {i:Nat} (hi:i<c.links.length):∃la y a cc o,h.a11=some (la,y)∧la<N∧ldnB H[la]? (y+i * 3) 3=some [.int .i64 c.links[i].src,.sl a c.links[i].dests.length cc o,.int .i64 c.links[i].off]∧Sl H 1 a c.links[i].dests.length (nums c.links[i].dests)∧(∀b x,a=some (b,x)→b<N):=by
 obtain⟨⟨la,y⟩,cs,e1,e2,e3,a,cc,o,rfl,e4,e5,-⟩:=hc.links.at hi
 exact⟨la,y,a,cc,o,e1,e2,e3,e4,e5⟩
theorem twin_wins {N:Nat} {H:Heap} {c:Cfg} {h:Hd} {ρ:Nat→V} {b1 b2 b3 n9:Nat} {s1 s8 s10 s11:Cell} {Q:Ex→St→Prop} (hc:CfgM N H c h) (hN:N≤b1) (h9:c.wins.length=n9) (hb:n9≤2000000) (hr:∀r∈c.wins,r.length≤2000000)
  (g1:H[b1]?=some (.cells (c.cells h) false none)) (g3:H[b3]?=some (.cells (twC c s1 s8 sl0 s10 s11) false none)) (h13:b1<b3)
  (e1:ρ 1=.c (.ptr (some (b1,0)))) (e2:ρ 2=.c (.ptr (some (b2,0)))) (e3:ρ 3=.c (.ptr (some (b3,0)))) (e4:ρ 4=.c (.int .i64 0))
  (hQ:∀ρ' H' aw ow,ρ' 1=.c (.ptr (some (b1,0)))→ρ' 2=.c (.ptr (some (b2,0)))→ρ' 3=.c (.ptr (some (b3,0)))→LLs 1 mkW id H.length H' aw n9 ow c.wins→H'[b3]?=some (.cells (twC c s1 s8 (.sl aw n9 n9 ow) s10 s11) false none)→H.length≤H'.length→(∀b,b<H.length→b≠b3→H'[b]?=H[b]?)→Q (.exit 0) ⟨L 74 ρ',[],H'⟩):
  W F none (.loop bX1f_11) ⟨L 74 ρ,[],H⟩ Q:=by
 have lb1:=lt_of_get g1
 have lb3:=lt_of_get g3
 unfold Cfg.cells at g1
 rw[h9] at g1
 have ht0:c.wins.take 0=[]:=rfl
 have hll0:LLs 1 mkW id H.length H none 0 false (c.wins.take 0):=LLs.nil
 have fin0:=hd4 hc hr h9 hQ
 clear hc hr h9 hQ
 refine W_loop (fun mm st=>∃ρ,∃i:Nat,∃aw ow Hk,st=⟨L 74 ρ,[],Hk⟩∧mm=n9-i∧i≤n9∧ρ 1=.c (.ptr (some (b1,0)))∧ρ 2=.c (.ptr (some (b2,0)))∧ρ 3=.c (.ptr (some (b3,0)))∧ρ 4=.c (.int .i64 (i:Nat))∧H.length≤Hk.length∧Hk[b3]?=some (.cells (twC c s1 s8 (.sl aw i i ow) s10 s11) false none)∧Hid ((∀b,b<H.length→b≠b3→Hk[b]?=H[b]?)∧LLs 1 mkW id H.length Hk aw i ow (c.wins.take i))) n9
  ⟨_,0,none,false,H,rfl,rfl,by omega,e1,e2,e3,e4,Nat.le_refl _,g3,fun _ _ _=>rfl,hll0⟩ ?_
 clear e1 e2 e3 e4 g3 hll0 ht0
 rintro mm st ⟨ρ,i,aw,ow,Hk,rfl,rfl,hi,e1,e2,e3,e4,lk,g3,hall⟩
 unfold bX1f_11
 have g1k:=(hall.1 b1 lb1 (by omega)).trans g1
 have fz:=hd1 hall
 clear hall
 by_cases hin:i<n9
 case neg=>
  obtain rfl:i=n9:=by omega
  have hxt:¬(i:Int)<(i:Int):=by omega
  have f3:=hd1 g3
  clear g3
  repeat (with_reducible first|(first|refine pI1 ?_|refine pS1 ?_);intros|refine pA1 ?_|refine pX1 ?_|refine pB1 ?_|exact True.intro)
  exact fin0 _ fun _ _ h9 hQ=>fz _ fun hz=>f3 _ fun g3=>hQ _ Hk aw ow zf zf zf (by have:=hz.2;rw[List.take_of_length_le (by omega)] at this;exact this) g3 lk hz.1
 have hxt:(i:Int)<(n9:Int):=by omega
 have hlt:i<c.wins.length:=fin0 _ fun _ _ h _=>by omega
 obtain⟨la,y,a,cc,o,ea,hla,hld,hsl,haN⟩:=fin0 _ fun hc _ _ _=>win_at2 hc hlt
 have hrl:=fin0 _ fun _ hr _ _=>hr _ (List.getElem_mem hlt)
 have hld:ldB Hk[la]? (y+i)=some (.sl a c.wins[i].length cc o):=by rw[fz _ fun h=>h.1 la (by omega) (by omega)];exact hld
 have hslk:Sl Hk 1 a c.wins[i].length (nums c.wins[i]):=hsl.keep fun b x e=>fz _ fun h=>h.1 b (by have:=haN b x e;omega) (by have:=haN b x e;omega)
 have htk:c.wins.take (i+1)=c.wins.take i++[c.wins[i]]:=List.take_succ_eq_append_getElem hlt
 obtain⟨row,hrow⟩:∃r,r=c.wins[i]:=⟨_,rfl⟩
 rw[←hrow] at hrl hld hslk htk
 obtain⟨rl,hrle⟩:∃n,row.length=n:=⟨_,rfl⟩
 rw[hrle] at hrl hld hslk
 have f1:=hd3 hslk htk hrle
 clear hslk htk hrle hrow hsl haN
 rw[ea] at g1k
 have l3k:=lt_of_get g3
 have f3:=hd1 g3
 clear g3
 repeat (with_reducible first|(first|refine pI1 ?_|refine pS1 ?_);intros|refine pA1 ?_|refine pX1 ?_|refine pB1 ?_|exact True.intro)
 rename_i b5 H5 p5 g5 x5
 have g15:=(x5 b1 (by omega)).trans g1k
 have hld5:ldB H5[la]? (y+i)=some (.sl a rl cc o):=by rw[x5 la (by omega)];exact hld
 have hs5:Sl H5 1 a rl (nums row):=f1 _ fun h _ _=>h.to fun b hb=>x5 b (by omega)
 have f5:=hd2 hs5 x5
 clear x5 hld g1k hs5
 repeat (with_reducible first|(first|refine pI1 ?_|refine pS1 ?_);intros|refine pA1 ?_|refine pX1 ?_|refine pB1 ?_|exact True.intro)
 refine outM_appS (Gr.empty g5 (Nat.le_refl b5)) (by omega) (f5 _ fun h _=>h) (by omega) ?_
 intro a6 o6 H6 hg6 l6 x6 y6
 rw[Nat.zero_add,List.nil_append] at hg6
 have hx6:∀b,b<Hk.length→H6[b]?=Hk[b]?:=fun b hb=>by rw[x6 b (by omega)];exact f5 _ fun _ x=>x b (by omega)
 have g36:=f3 _ fun g=>(hx6 b3 (by omega)).trans g
 have g16:H6[b1]?=_:=(hx6 b1 (by omega)).trans (f5 _ fun _ x=>(x b1 (by omega)).symm.trans g15)
 have hl6:LLs 1 mkW id H.length H6 aw i ow (c.wins.take i):=fz _ fun h=>h.2.keep (fun b _ hb=>hx6 b hb) (by have:=p5.1;omega)
 have ha6:∀b z,a6=some (b,z)→b5≤b∧b<H6.length:=fun b z e=>hg6.lt _ e
 have haw:∀b z,aw=some (b,z)→b<Hk.length:=fz _ fun h b z e=>(h.2.lt b z e).2
 have f6:=hd5 hg6.sl hx6 hl6 ha6 haw
 clear hg6 hx6 hl6 ha6 haw x6 y6 g5 g15 hld5 f5
 repeat (with_reducible first|(first|refine pI1 ?_|refine pS1 ?_);intros|refine pA1 ?_|refine pX1 ?_|refine pB1 ?_|exact True.intro)
 rename_i b7 H7 p7 g7 x7
 have hs7:Sl H7 1 a6 (id row).length (nums (id row)):=by
  show Sl H7 1 a6 row.length (nums row)
  rw[f1 _ fun _ _ h=>h]
  exact f6 _ fun h _ _ _ _=>h.to fun b hb=>x7 b (by omega)
 have hl7:LLs 1 mkW id H.length H7 aw i ow (c.wins.take i):=f6 _ fun _ _ h _ _=>h.keep (fun b _ hb=>x7 b (by omega)) (by omega)
 have g37:=(x7 b3 (by omega)).trans g36
 have g7':H7[b7]?=some (.cells (mkW row a6 o6) false none):=by unfold mkW;rw[f1 _ fun _ _ h=>h];exact g7
 have hx7:∀b,b<Hk.length→H7[b]?=Hk[b]?:=fun b hb=>by rw[x7 b (by omega)];exact f6 _ fun _ h _ _ _=>h b hb
 clear x7 g36 g16 g7
 refine outM_pushL (pay:=id) (e:=row) hl7 (by omega) g7' rfl hs7 (fun b z e=>f6 _ fun _ _ _ h haw=>by
  have:=h b z e
  refine⟨by have:=p5.1;omega,by omega,fun x ex=>?_⟩
  obtain⟨w1,w2⟩:=x
  have:=haw w1 w2 ex
  show b≠w1
  have:=p5.1
  omega) (by omega) ?_
 intro a8 H8 hl8 l8 x8
 rw[←f1 _ fun _ h _=>h] at hl8
 have g38:=(x8 b3 (by omega)).trans g37
 have hx8:∀b,b<H.length→H8[b]?=Hk[b]?:=fun b hb=>by rw[x8 b hb];exact hx7 b (by omega)
 have f8:=hd2 hl8 hx8
 clear hl8 hx8 x8 hl7 hs7 g7' hx7 g37
 repeat (with_reducible first|(first|refine pI1 ?_|refine pS1 ?_);intros|refine pA1 ?_|refine pX1 ?_|refine pB1 ?_|exact True.intro)
 rename_i H9 l9 g9 x9
 have g9':H9[b3]?=some (.cells (twC c s1 s8 (.sl a8 (i+1) (i+1) true) s10 s11) false none):=g9
 have f9:=hd2 x9 g9'
 clear x9 g9 g9' g38
 repeat (with_reducible first|(first|refine pI1 ?_|refine pS1 ?_);intros|refine pA1 ?_|refine pX1 ?_|refine pB1 ?_|exact True.intro)
 have hl9:LLs 1 mkW id H.length H9 a8 (i+1) true (c.wins.take (i+1)):=f8 _ fun h _=>f9 _ fun x9 _=>h.keep (fun b hb _=>x9 b (by omega)) (by omega)
 refine loopQ_n (n9-(i+1)) (by omega) ⟨_,i+1,a8,true,H9,rfl,rfl,by omega,zf,zf,zf,zf,by omega,f9 _ fun _ g=>g,fun b hb hb3=>?_,hl9⟩
 rw[f9 _ fun x _=>x b hb3,f8 _ fun _ x=>x b hb];exact fz _ fun h=>h.1 b hb hb3
theorem twin_links {N:Nat} {H:Heap} {c:Cfg} {h:Hd} {ρ:Nat→V} {b1 b2 b3 n11:Nat} {s1 s8 s9 s10:Cell} {Q:Ex→St→Prop} (hc:CfgM N H c h) (hN:N≤b1) (h11:c.links.length=n11) (hb:n11≤2000000) (hr:∀l∈c.links,l.dests.length≤2000000)
  (g1:H[b1]?=some (.cells (c.cells h) false none)) (g3:H[b3]?=some (.cells (twC c s1 s8 s9 s10 sl0) false none)) (h13:b1<b3)
  (e1:ρ 1=.c (.ptr (some (b1,0)))) (e2:ρ 2=.c (.ptr (some (b2,0)))) (e3:ρ 3=.c (.ptr (some (b3,0)))) (e6:ρ 6=.c (.int .i64 0))
  (hQ:∀ρ' H' al ol,ρ' 2=.c (.ptr (some (b2,0)))→ρ' 3=.c (.ptr (some (b3,0)))→LLs 3 mkL Lk.dests H.length H' al n11 ol c.links→H'[b3]?=some (.cells (twC c s1 s8 s9 s10 (.sl al n11 n11 ol)) false none)→H.length≤H'.length→(∀b,b<H.length→b≠b3→H'[b]?=H[b]?)→Q (.exit 2) ⟨L 74 ρ',[],H'⟩):
  W F none (.loop bX1f_19) ⟨L 74 ρ,[],H⟩ Q:=by
 have lb1:=lt_of_get g1
 have lb3:=lt_of_get g3
 unfold Cfg.cells at g1
 rw[h11] at g1
 have hll0:LLs 3 mkL Lk.dests H.length H none 0 false (c.links.take 0):=LLs.nil
 have fin0:=hd4 hc hr h11 hQ
 clear hc hr h11 hQ
 refine W_loop (fun mm st=>∃ρ,∃i:Nat,∃aw ow Hk,st=⟨L 74 ρ,[],Hk⟩∧mm=n11-i∧i≤n11∧ρ 1=.c (.ptr (some (b1,0)))∧ρ 2=.c (.ptr (some (b2,0)))∧ρ 3=.c (.ptr (some (b3,0)))∧ρ 6=.c (.int .i64 (i:Nat))∧H.length≤Hk.length∧Hk[b3]?=some (.cells (twC c s1 s8 s9 s10 (.sl aw i i ow)) false none)∧Hid ((∀b,b<H.length→b≠b3→Hk[b]?=H[b]?)∧LLs 3 mkL Lk.dests H.length Hk aw i ow (c.links.take i))) n11
  ⟨_,0,none,false,H,rfl,rfl,by omega,e1,e2,e3,e6,Nat.le_refl _,g3,fun _ _ _=>rfl,hll0⟩ ?_
 clear e1 e2 e3 e6 g3 hll0
 rintro mm st ⟨ρ,i,aw,ow,Hk,rfl,rfl,hi,e1,e2,e3,e6,lk,g3,hall⟩
 unfold bX1f_19
 have g1k:=(hall.1 b1 lb1 (by omega)).trans g1
 have fz:=hd1 hall
 clear hall
 by_cases hin:i<n11
 case neg=>
  obtain rfl:i=n11:=by omega
  have hxt:¬(i:Int)<(i:Int):=by omega
  have f3:=hd1 g3
  clear g3
  repeat (with_reducible first|(first|refine pI1 ?_|refine pS1 ?_);intros|refine pA1 ?_|refine pX1 ?_|refine pB1 ?_|exact True.intro)
  exact fin0 _ fun _ _ h11 hQ=>fz _ fun hz=>f3 _ fun g3=>hQ _ Hk aw ow zf zf (by have:=hz.2;rw[List.take_of_length_le (by omega)] at this;exact this) g3 lk hz.1
 have hxt:(i:Int)<(n11:Int):=by omega
 have hlt:i<c.links.length:=fin0 _ fun _ _ h _=>by omega
 obtain⟨la,y,a,cc,o,ea,hla,hld,hsl,haN⟩:=fin0 _ fun hc _ _ _=>lnk_at2 hc hlt
 have hrl:=fin0 _ fun _ hr _ _=>hr _ (List.getElem_mem hlt)
 have hld:ldnB Hk[la]? (y+i * 3) 3=some [.int .i64 c.links[i].src,.sl a c.links[i].dests.length cc o,.int .i64 c.links[i].off]:=by rw[fz _ fun h=>h.1 la (by omega) (by omega)];exact hld
 have hslk:Sl Hk 1 a c.links[i].dests.length (nums c.links[i].dests):=hsl.keep fun b x e=>fz _ fun h=>h.1 b (by have:=haN b x e;omega) (by have:=haN b x e;omega)
 have htk:c.links.take (i+1)=c.links.take i++[c.links[i]]:=List.take_succ_eq_append_getElem hlt
 obtain⟨row,hrow⟩:∃r,r=c.links[i]:=⟨_,rfl⟩
 rw[←hrow] at hrl hld hslk htk
 obtain⟨src,hsrc⟩:∃n,row.src=n:=⟨_,rfl⟩
 obtain⟨off,hoff⟩:∃n,row.off=n:=⟨_,rfl⟩
 obtain⟨rl,hrle⟩:∃n,row.dests.length=n:=⟨_,rfl⟩
 rw[hrle] at hrl hld hslk
 rw[hsrc,hoff] at hld
 have hd1:ldB Hk[la]? (y+i * 3+1)=some (.sl a rl cc o):=by
  generalize Hk[la]?=k at *
  match k,hld with
  |some (.cells cs ro g),hld=>
   have:=sub_at (i:=1) hld (by omega)
   exact this
 have f1:=hd5 hslk htk hrle hsrc hoff
 clear hslk htk hrle hrow hsl haN hsrc hoff
 rw[ea] at g1k
 have l3k:=lt_of_get g3
 have f3:=hd1 g3
 clear g3
 repeat (with_reducible first|(first|refine pI1 ?_|refine pS1 ?_);intros|refine pA1 ?_|refine pX1 ?_|refine pB1 ?_|exact True.intro)
 rename_i b4 H4 p4 g4 x4 H5 l5 g5 x5 b6 H6 p6 g6 x6
 have hx6:∀b,b<Hk.length→H6[b]?=Hk[b]?:=fun b hb=>by rw[x6 b (by omega),x5 b (by omega),x4 b (by omega)]
 have g16:=(hx6 b1 (by omega)).trans g1k
 have g46:=(x6 b4 (by omega)).trans g5
 have hld6:ldB H6[la]? (y+i * 3+1)=some (.sl a rl cc o):=by rw[hx6 la (by omega)];exact hd1
 have hs6:Sl H6 1 a rl (nums row.dests):=f1 _ fun h _ _ _ _=>h.to fun b hb=>hx6 b hb
 have f6:=hd2 hs6 hx6
 clear x4 x5 x6 g4 g5 g1k hld hd1 hs6 hx6
 repeat (with_reducible first|(first|refine pI1 ?_|refine pS1 ?_);intros|refine pA1 ?_|refine pX1 ?_|refine pB1 ?_|exact True.intro)
 refine outM_appS (Gr.empty g6 (Nat.le_refl b6)) (by omega) (f6 _ fun h _=>h) (by omega) ?_
 intro a7 o7 H7 hg7 l7 x7 y7
 rw[Nat.zero_add,List.nil_append] at hg7
 have g47:=(x7 b4 (by omega)).trans g46
 have hx7:∀b,b<Hk.length→H7[b]?=Hk[b]?:=fun b hb=>by rw[x7 b (by omega)];exact f6 _ fun _ x=>x b hb
 have ha7:∀b z,a7=some (b,z)→b6≤b∧b<H7.length:=fun b z e=>hg7.lt _ e
 have g37:H7[b3]?=some (.cells (twC c s1 s8 s9 s10 (.sl aw i i ow)) false none):=f3 _ fun g=>(hx7 b3 (by omega)).trans g
 have f7:=hd3 hg7.sl hx7 ha7
 clear hg7 x7 y7 hx7 ha7 g46 g16 g6 hld6 f6
 repeat (with_reducible first|(first|refine pI1 ?_|refine pS1 ?_);intros|refine pA1 ?_|refine pX1 ?_|refine pB1 ?_|exact True.intro)
 rename_i H8 l8 g8 x8 b9 H9 p9 g9 x9
 have hs8:Sl H8 1 a7 rl (nums row.dests):=f7 _ fun h _ ha=>h.keep fun b z e=>x8 b (by have:=ha b z e;omega)
 have hx8:∀b,b<Hk.length→H8[b]?=Hk[b]?:=fun b hb=>by rw[x8 b (by omega)];exact f7 _ fun _ h _=>h b hb
 have g38:=(x8 b3 (by omega)).trans g37
 have f8:=hd2 hs8 hx8
 clear x8 hs8 hx8 g47 g37
 have hs9:Sl H9 1 a7 row.dests.length (nums row.dests):=by
  rw[f1 _ fun _ _ h _ _=>h]
  exact f8 _ fun h _=>h.to fun b hb=>x9 b (by omega)
 have hx9:∀b,b<Hk.length→H9[b]?=Hk[b]?:=fun b hb=>by rw[x9 b (by omega)];exact f8 _ fun _ h=>h b hb
 have hl9:LLs 3 mkL Lk.dests H.length H9 aw i ow (c.links.take i):=fz _ fun h=>h.2.keep (fun b _ hb=>hx9 b hb) (by omega)
 have g39:=(x9 b3 (by omega)).trans g38
 have haw:∀b z,aw=some (b,z)→b<Hk.length:=fz _ fun h b z e=>(h.2.lt b z e).2
 have g9':H9[b9]?=some (.cells (mkL row a7 o7) false none):=by unfold mkL;rw[f1 _ fun _ _ h _ _=>h,f1 _ fun _ _ _ h _=>h,f1 _ fun _ _ _ _ h=>h];exact g9
 clear x9 g38 g9 g8
 refine outM_pushL (pay:=Lk.dests) (e:=row) hl9 (by omega) g9' rfl hs9 (fun b z e=>f7 _ fun _ _ h=>by
  have:=h b z e
  refine⟨by omega,by omega,fun x ex=>?_⟩
  obtain⟨w1,w2⟩:=x
  have:=haw w1 w2 ex
  show b≠w1
  omega) (by omega) ?_
 intro a10 H10 hl10 l10 x10
 rw[←f1 _ fun _ h _ _ _=>h] at hl10
 have g310:=(x10 b3 (by omega)).trans g39
 have hx10:∀b,b<H.length→H10[b]?=Hk[b]?:=fun b hb=>by rw[x10 b hb];exact hx9 b (by omega)
 have f10:=hd2 hl10 hx10
 clear hl10 hx10 x10 hl9 hs9 g9' hx9 g39 haw
 repeat (with_reducible first|(first|refine pI1 ?_|refine pS1 ?_);intros|refine pA1 ?_|refine pX1 ?_|refine pB1 ?_|exact True.intro)
 rename_i H11 l11 g11 x11
 have g11':H11[b3]?=some (.cells (twC c s1 s8 s9 s10 (.sl a10 (i+1) (i+1) true)) false none):=g11
 have f11:=hd2 x11 g11'
 clear x11 g11 g11' g310
 repeat (with_reducible first|(first|refine pI1 ?_|refine pS1 ?_);intros|refine pA1 ?_|refine pX1 ?_|refine pB1 ?_|exact True.intro)
 have hl11:LLs 3 mkL Lk.dests H.length H11 a10 (i+1) true (c.links.take (i+1)):=f10 _ fun h _=>f11 _ fun x9 _=>h.keep (fun b hb _=>x9 b (by omega)) (by omega)
 refine loopQ_n (n11-(i+1)) (by omega) ⟨_,i+1,a10,true,H11,rfl,rfl,by omega,zf,zf,zf,zf,by omega,f11 _ fun _ g=>g,fun b hb hb3=>?_,hl11⟩
 rw[f11 _ fun x _=>x b hb3,f10 _ fun _ x=>x b hb];exact fz _ fun h=>h.1 b hb hb3
end Go.Proofs.YtjcgdcadflplcaaDoor.AM.D21
namespace Go.Proofs.YtjcgdcadflplcaaDoor.AM.D21
open Go Go.Proofs.YtjcgdcadflplcaaDoor.AM Go.Proofs.YtjcgdcadflplcaaDoor.AM.C02
set_option maxHeartbeats 2000000
set_option maxRecDepth 100000
attribute [local go_sem] tn_add1 tn_sub1 put_all' nums_len twC sub3z
theorem ze12:(Cell.int .i64 0 :: Cell.sl none 0 0 false :: (List.replicate 6 (Cell.int .i64 0)++List.replicate 4 (Cell.sl none 0 0 false)))=[Cell.int .i64 0,.sl none 0 0 false,.int .i64 0,.int .i64 0,.int .i64 0,.int .i64 0,.int .i64 0,.int .i64 0,.sl none 0 0 false,.sl none 0 0 false,.sl none 0 0 false,.sl none 0 0 false]:=rfl
theorem sub12l (a b c d e f g h i j k l:Cell):sub [a,b,c,d,e,f,g,h,i,j,k,l] 0 12=some [a,b,c,d,e,f,g,h,i,j,k,l]:=rfl
attribute [local go_sem] sub12l
attribute [local go_sem 2000] ze12
theorem _root_.Go.Proofs.YtjcgdcadflplcaaDoor.AM.Gr.keepA {lo sz n:Nat} {H H':Heap} {a:Option Ad} {o:Bool} {xs:List Cell} (h:Gr lo H sz a n o xs) (hx:∀x,a=some x→H'[x.1]?=H[x.1]?):Gr lo H' sz a n o xs:=h.keep fun b _ _ hna=>by
 obtain⟨z,ez,hz⟩:∃z,a=some z∧b=z.1:=Classical.byContradiction fun hc=>hna fun z ez hz=>hc ⟨z,ez,hz⟩
 rw[hz];exact hx z ez
theorem _root_.Go.Proofs.YtjcgdcadflplcaaDoor.AM.LLs.mono {α:Type} {sz lo lo' n:Nat} {mk:α→Option Ad→Bool→List Cell} {pay:α→List Int} {H:Heap} {a:Option Ad} {o:Bool} {ls:List α} (h:LLs sz mk pay lo H a n o ls) (hl:lo'≤lo):LLs sz mk pay lo' H a n o ls:=by
 obtain⟨h1,rows,h2,h3,h4,h5⟩:=h
 refine⟨h1,rows,h2.mono hl,h3,h4,fun j e he=>?_⟩
 obtain⟨a',o',k1,k2,k3⟩:=h5 j e he
 exact⟨a',o',k1,k2,fun b z ez=>⟨by have:=(k3 b z ez).1;omega,(k3 b z ez).2⟩⟩
theorem s_Twin {N:Nat} {H:Heap} {c:Cfg} {h:Hd} (hc:CfgM N H c h) (hN:N≤H.length) (ht:TwinOk c):WC F fX1f [.agg (c.cells h)] H fun v H'=>Xt H H'∧
  ∃h',v=.agg (c.cells h')∧CfgM H'.length H' c h'∧(∀b x,h'.a8=some (b,x)→H.length≤b)∧(∀b x,h'.a10=some (b,x)→H.length≤b)∧∀b x,h'.a1=some (b,x)→H.length≤b:=by
 refine WC_start eX1f (by simp) ?_
 unfold cX1f Cfg.cells
 obtain⟨n1,h1⟩:∃n,c.owners.length=n:=⟨_,rfl⟩
 obtain⟨n8,h8⟩:∃n,c.parts.length=n:=⟨_,rfl⟩
 obtain⟨n9,h9⟩:∃n,c.wins.length=n:=⟨_,rfl⟩
 obtain⟨n10,h10⟩:∃n,c.ports.length=n:=⟨_,rfl⟩
 obtain⟨n11,h11⟩:∃n,c.links.length=n:=⟨_,rfl⟩
 have b1:=ht.owners
 have b8:=ht.parts
 have b9:=ht.wins
 have b10:=ht.ports
 have kb11:=ht.links
 have s1:=hc.owners
 have s8:=hc.partsS
 have s10:=hc.portsS
 rw[h1] at b1 s1
 rw[h8] at b8 s8
 rw[h9] at b9
 rw[h10] at b10 s10
 rw[h11] at kb11
 have hlt:∀b x,h.a1=some (b,x)∨h.a8=some (b,x)∨h.a10=some (b,x)→b<N:=fun b x e=>by
  rcases e with e|e|e
  ·exact hc.ownersN b x e
  ·exact hc.partsN b x e
  ·exact hc.portsN b x e
 rw[h1,h8,h9,h10,h11]
 have hfin:∀(H':Heap) (a1 a8 a9 a10 a11:Option Ad) (o1 o8 o9 o10 o11:Bool),Gr H.length H' 1 a1 n1 o1 (nums c.owners)→Gr H.length H' 3 a8 n8 o8 (c.parts.map Pa.cells).flatten→Gr H.length H' 6 a10 n10 o10 (c.ports.map Pt.cells).flatten→LLs 1 mkW id H.length H' a9 n9 o9 c.wins→LLs 3 mkL Lk.dests H.length H' a11 n11 o11 c.links→
   CfgM H'.length H' c ⟨a1,n1,a8,n8,a9,n9,a10,n10,a11,n11,o1,o8,o9,o10,o11⟩:=fun H' a1 a8 a9 a10 a11 o1 o8 o9 o10 o11 q1 q8 q10 q9 q11=>by
  have hi8:∀e∈c.parts,PaR H e e.cells:=fun e he=>by
   obtain⟨i,hi,rfl⟩:=List.mem_iff_getElem.1 he
   obtain⟨_,cs,-,-,-,rfl,z⟩:=hc.parts.at hi
   exact⟨rfl,z⟩
  have hi10:∀e∈c.ports,PtR H e e.cells:=fun e he=>by
   obtain⟨i,hi,rfl⟩:=List.mem_iff_getElem.1 he
   obtain⟨_,cs,-,-,-,rfl,z⟩:=hc.ports.at hi
   exact⟨rfl,z⟩
  have hml:2000000≤maxLen:=by decide
  refine⟨by show Sl H' 1 a1 c.owners.length _;rw[h1];exact q1.sl,fun b x e=>(q1.lt _ e).2,Gr.tab q8 h8 (fun _=>rfl) (Nat.le_refl _) fun e he=>hi8 e he,?_,Gr.tab q10 h10 (fun _=>rfl) (Nat.le_refl _) fun e he=>hi10 e he,?_,hc.i_nodes,hc.i_drift,hc.i_reading,hc.i_margin,hc.i_bound,hc.i_rejoin,hc.i_quota,hc.i_owners,by show Sl H' 3 a8 c.parts.length _;rw[h8];exact q8.sl,fun b x e=>(q8.lt _ e).2,by show Sl H' 6 a10 c.ports.length _;rw[h10];exact q10.sl,fun b x e=>(q10.lt _ e).2⟩
  ·refine q9.tab (Nat.le_refl _) fun e a' o' he hs hb=>?_
   obtain⟨i,hi,rfl⟩:=List.mem_iff_getElem.1 he
   obtain⟨_,cs,-,-,-,_,_,_,-,-,-,z,-,-⟩:=hc.wins.at hi
   have:=ht.rows _ he
   exact⟨a',_,o',rfl,hs,hb,z,Nat.le_refl _,by omega⟩
  ·refine q11.tab (Nat.le_refl _) fun e a' o' he hs hb=>?_
   obtain⟨i,hi,rfl⟩:=List.mem_iff_getElem.1 he
   obtain⟨_,cs,-,-,-,_,_,_,-,-,-,z,-,-,z2⟩:=hc.links.at hi
   have:=ht.dests _ he
   exact⟨a',_,o',rfl,hs,hb,z,Nat.le_refl _,by omega,z2⟩
 have hcc:c.cells h=[.int .i64 c.nodes,.sl h.a1 n1 h.c1 h.o1,.int .i64 c.drift,.int .i64 c.reading,.int .i64 c.margin,.int .i64 c.bound,.int .i64 c.rejoin,.int .i64 c.quota,.sl h.a8 n8 h.c8 h.o8,.sl h.a9 n9 h.c9 h.o9,.sl h.a10 n10 h.c10 h.o10,.sl h.a11 n11 h.c11 h.o11]:=by unfold Cfg.cells;rw[h1,h8,h9,h10,h11]
 have f0:=hd6 hc ht h9 h11 hfin hcc
 have fs:=hd4 s1 s8 s10 hlt
 clear hc ht h1 h8 h9 h10 h11 hfin hcc s1 s8 s10 hlt
 repeat (with_reducible first|(first|refine pI1 ?_|refine pS1 ?_);intros|refine pA1 ?_|refine pX1 ?_|refine pB1 ?_|exact True.intro)
 rename_i b1' H1 p1 g1 x1 b2 H2 p2 g2 x2 b3 H3 p3 g3 x3 H4 l4 g4 x4 b5 H5 p5 g5 x5
 have g15:=(x5 b1' (by omega)).trans ((x4 b1' (by omega)).trans ((x3 b1' (by omega)).trans ((x2 b1' (by omega)).trans g1)))
 have g25:=(x5 b2 (by omega)).trans ((x4 b2 (by omega)).trans ((x3 b2 (by omega)).trans g2))
 have g35:=(x5 b3 (by omega)).trans g4
 have hx5:∀b,b<H.length→H5[b]?=H[b]?:=fun b hb=>by rw[x5 b (by omega),x4 b (by omega),x3 b (by omega),x2 b (by omega),x1 b (by omega)]
 have hs5:Sl H5 1 h.a1 n1 (nums c.owners):=fs _ fun h _ _ hl=>h.keep fun b x e=>hx5 b (by have:=hl b x (.inl e);omega)
 have f5:=hd2 hx5 hs5
 clear x1 x2 x3 x4 x5 hx5 hs5 g1 g2 g3 g4
 refine outM_appS (Gr.empty g5 (Nat.le_refl b5)) (by omega) (f5 _ fun _ h=>h) (by omega) ?_
 intro a1 o1 H6 hg6 l6 x6 y6
 rw[Nat.zero_add,List.nil_append] at hg6
 have g16:=(x6 b1' (by omega)).trans g15
 have g26:=(x6 b2 (by omega)).trans g25
 have g36:=(x6 b3 (by omega)).trans g35
 have hx6:∀b,b<H.length→H6[b]?=H[b]?:=fun b hb=>by rw[x6 b (by omega)];exact f5 _ fun h _=>h b hb
 have ha1:=hg6.lt
 have f6:=hd3 hx6 hg6 ha1
 clear hx6 hg6 ha1 x6 y6 g15 g25 g35 g5 f5
 repeat (with_reducible first|(first|refine pI1 ?_|refine pS1 ?_);intros|refine pA1 ?_|refine pX1 ?_|refine pB1 ?_|exact True.intro)
 rename_i H7 l7 g7 x7 b8 H8 p8 g8 x8
 have g18:=(x8 b1' (by omega)).trans ((x7 b1' (by omega)).trans g16)
 have g28:=(x8 b2 (by omega)).trans ((x7 b2 (by omega)).trans g26)
 have g38:=(x8 b3 (by omega)).trans g7
 have hx8:∀b,b<H.length→H8[b]?=H[b]?:=fun b hb=>by rw[x8 b (by omega),x7 b (by omega)];exact f6 _ fun h _ _=>h b hb
 have hg8:Gr b5 H8 1 a1 n1 o1 (nums c.owners):=f6 _ fun _ h ha=>h.keepA fun x e=>by have:=ha x e;rw[x8 x.1 (by omega),x7 x.1 (by omega)]
 have hs8:Sl H8 3 h.a8 n8 (c.parts.map Pa.cells).flatten:=fs _ fun _ h _ hl=>h.keep fun b x e=>hx8 b (by have:=hl b x (.inr (.inl e));omega)
 have f8:=hd3 hx8 hg8 hs8
 clear x7 x8 hx8 hg8 hs8 g16 g26 g36 g7
 refine outM_appS (Gr.empty g8 (Nat.le_refl b8)) (by omega) (f8 _ fun _ _ h=>h) (by omega) ?_
 intro a8 o8 H9 hg9 l9 x9 y9
 rw[Nat.zero_add,List.nil_append] at hg9
 have g19:=(x9 b1' (by omega)).trans g18
 have g29:=(x9 b2 (by omega)).trans g28
 have g39:=(x9 b3 (by omega)).trans g38
 have hx9:∀b,b<H.length→H9[b]?=H[b]?:=fun b hb=>by rw[x9 b (by omega)];exact f8 _ fun h _ _=>h b hb
 have hgo9:Gr b5 H9 1 a1 n1 o1 (nums c.owners):=f8 _ fun _ h _=>f6 _ fun _ _ ha=>h.keepA fun x e=>x9 x.1 (by have:=ha x e;omega)
 have ha8:=hg9.lt
 have f9:=hd4 hx9 hg9 hgo9 ha8
 clear hx9 hg9 hgo9 ha8 x9 y9 g18 g28 g38 g8 f8
 repeat (with_reducible first|(first|refine pI1 ?_|refine pS1 ?_);intros|refine pA1 ?_|refine pX1 ?_|refine pB1 ?_|exact True.intro)
 rename_i H10 l10 g10 x10 b11 H11 p11 g11 x11
 have g1b:=(x11 b1' (by omega)).trans ((x10 b1' (by omega)).trans g19)
 have g2b:=(x11 b2 (by omega)).trans ((x10 b2 (by omega)).trans g29)
 have g3b:=(x11 b3 (by omega)).trans g10
 have hxb:∀b,b<H.length→H11[b]?=H[b]?:=fun b hb=>by rw[x11 b (by omega),x10 b (by omega)];exact f9 _ fun h _ _ _=>h b hb
 have hg1b:Gr b5 H11 1 a1 n1 o1 (nums c.owners):=f9 _ fun _ _ h _=>f6 _ fun _ _ ha=>h.keepA fun x e=>by have:=ha x e;rw[x11 x.1 (by omega),x10 x.1 (by omega)]
 have hg8b:Gr b8 H11 3 a8 n8 o8 (c.parts.map Pa.cells).flatten:=f9 _ fun _ h _ ha=>h.keepA fun x e=>by have:=ha x e;rw[x11 x.1 (by omega),x10 x.1 (by omega)]
 have hs11:Sl H11 6 h.a10 n10 (c.ports.map Pt.cells).flatten:=fs _ fun _ _ h hl=>h.keep fun b x e=>hxb b (by have:=hl b x (.inr (.inr e));omega)
 have fb:=hd4 hxb hg1b hg8b hs11
 clear hxb hg1b hg8b hs11 x10 x11 g19 g29 g39 g10
 refine outM_appS (Gr.empty g11 (Nat.le_refl b11)) (by omega) (fb _ fun _ _ _ h=>h) (by omega) ?_
 intro a10 o10 H12 hg12 l12 x12 y12
 rw[Nat.zero_add,List.nil_append] at hg12
 have g1c:=(x12 b1' (by omega)).trans g1b
 have g2c:=(x12 b2 (by omega)).trans g2b
 have g3c:=(x12 b3 (by omega)).trans g3b
 have hxc:∀b,b<H.length→H12[b]?=H[b]?:=fun b hb=>by rw[x12 b (by omega)];exact fb _ fun h _ _ _=>h b hb
 have hg1c:Gr b5 H12 1 a1 n1 o1 (nums c.owners):=fb _ fun _ h _ _=>f6 _ fun _ _ ha=>h.keepA fun x e=>x12 x.1 (by have:=ha x e;omega)
 have hg8c:Gr b8 H12 3 a8 n8 o8 (c.parts.map Pa.cells).flatten:=fb _ fun _ _ h _=>f9 _ fun _ _ _ ha=>h.keepA fun x e=>x12 x.1 (by have:=ha x e;omega)
 have ha10:=hg12.lt
 have fc:=hd5 hxc hg1c hg8c hg12 ha10
 clear hxc hg1c hg8c hg12 ha10 x12 y12 g1b g2b g3b g11 fb
 repeat (with_reducible first|(first|refine pI1 ?_|refine pS1 ?_);intros|refine pA1 ?_|refine pX1 ?_|refine pB1 ?_|exact True.intro)
 rename_i H13 l13 g13 x13 H14 l14 g14 x14
 have g114:=(x14 b1' (by omega)).trans ((x13 b1' (by omega)).trans g1c)
 have g214:=(x14 b2 (by omega)).trans ((x13 b2 (by omega)).trans g2c)
 have hx14:∀b,b≠b3→H14[b]?=H12[b]?:=fun b hb=>by rw[x14 b hb,x13 b hb]
 have g314:H14[b3]?=some (.cells (twC c (.sl a1 n1 n1 o1) (.sl a8 n8 n8 o8) sl0 (.sl a10 n10 n10 o10) (.sl h.a11 n11 h.c11 h.o11)) false none):=g14
 have f14:=hd3 hx14 g314 g214
 have e114:H14[b1']?=some (.cells (c.cells h) false none):=by rw[f0 _ fun _ _ _ _ _ h=>h];exact g114
 clear x13 x14 hx14 g13 g14 g214 g1c g2c g3c g114
 repeat (with_reducible first|(first|refine pI1 ?_|refine pS1 ?_);intros|refine pA1 ?_|refine pX1 ?_|refine pB1 ?_|exact True.intro)
 have lb3:b3<H14.length:=f14 _ fun _ g _=>lt_of_get g
 have hc14:CfgM N H14 c h:=f0 _ fun hc _ _ _ _ _=>hc.keep fun b hb=>by rw[f14 _ fun x _ _=>x b (by omega)];exact fc _ fun h _ _ _ _=>h b (by omega)
 refine f0 _ fun _ ht h9 _ _ _=>twin_wins (b1:=b1') (b2:=b2) (b3:=b3) (s1:=.sl a1 n1 n1 o1) (s8:=.sl a8 n8 n8 o8) (s10:=.sl a10 n10 n10 o10) (s11:=.sl h.a11 n11 h.c11 h.o11) hc14 (by omega) h9 b9 ht.rows e114 (f14 _ fun _ g _=>g) (by omega) zf zf zf zf ?_
 intro ρ' H15 a9 o9 z1 z2 z3 hl9 g315 l15 x15
 have g115:=(x15 b1' (by omega) (by omega)).trans e114
 have f15:=hd2 hl9 x15
 clear hl9 x15 e114
 have l315:=lt_of_get g315
 repeat (with_reducible first|(first|refine pI1 ?_|refine pS1 ?_);intros|refine pA1 ?_|refine pX1 ?_|refine pB1 ?_|exact True.intro)
 rename_i H16 l16 g16 x16
 have e116:=(x16 b1' (by omega)).trans g115
 have g316:H16[b3]?=some (.cells (twC c (.sl a1 n1 n1 o1) (.sl a8 n8 n8 o8) (.sl a9 n9 n9 o9) (.sl a10 n10 n10 o10) sl0) false none):=g16
 have f16:=hd2 x16 g316
 clear x16 g16 g316 g315 g115
 repeat (with_reducible first|(first|refine pI1 ?_|refine pS1 ?_);intros|refine pA1 ?_|refine pX1 ?_|refine pB1 ?_|exact True.intro)
 have hc16:CfgM N H16 c h:=hc14.keep fun b hb=>by rw[f16 _ fun x _=>x b (by omega)];exact f15 _ fun _ x=>x b (by omega) (by omega)
 refine f0 _ fun _ ht _ h11 _ _=>twin_links (b1:=b1') (b2:=b2) (b3:=b3) (s1:=.sl a1 n1 n1 o1) (s8:=.sl a8 n8 n8 o8) (s9:=.sl a9 n9 n9 o9) (s10:=.sl a10 n10 n10 o10) hc16 (by omega) h11 kb11 ht.dests e116 (f16 _ fun _ g=>g) (by omega) zf zf zf zf ?_
 intro ρ'' H17 a11 o11 w2 w3 hl11 g317 l17 x17
 have g217:H17[b2]?=_:=(x17 b2 (by omega) (by omega)).trans (f16 _ fun x _=>(x b2 (by omega)).trans (f15 _ fun _ x=>(x b2 (by omega) (by omega)).trans (f14 _ fun _ _ g=>g)))
 have l217:=lt_of_get g217
 have f17:=hd2 hl11 x17
 clear hl11 x17 e116
 repeat (with_reducible first|(first|refine pI1 ?_|refine pS1 ?_);intros|refine pA1 ?_|refine pX1 ?_|refine pB1 ?_|exact True.intro)
 rename_i H18 l18 g18 x18
 have hx18:∀b,b<H14.length→b≠b3→b≠b2→H18[b]?=H12[b]?:=fun b hb h3 h2=>by
  rw[x18 b h2,f17 _ fun _ x=>x b (by omega) h3,f16 _ fun x _=>x b h3,f15 _ fun _ x=>x b hb h3];exact f14 _ fun x _ _=>x b h3
 have hL9:LLs 1 mkW id H14.length H18 a9 n9 o9 c.wins:=f15 _ fun h _=>h.keep (fun b hb hb2=>by rw[x18 b (by omega),f17 _ fun _ x=>x b (by omega) (by omega)];exact f16 _ fun x _=>x b (by omega)) (by omega)
 have hL11:LLs 3 mkL Lk.dests H16.length H18 a11 n11 o11 c.links:=f17 _ fun h _=>h.keep (fun b hb hb2=>x18 b (by omega)) (by omega)
 have hG1:Gr b5 H18 1 a1 n1 o1 (nums c.owners):=fc _ fun _ h _ _ _=>f6 _ fun _ _ ha=>h.keepA fun x e=>by have:=ha x e;exact hx18 x.1 (by omega) (by omega) (by omega)
 have hG8:Gr b8 H18 3 a8 n8 o8 (c.parts.map Pa.cells).flatten:=fc _ fun _ _ h _ _=>f9 _ fun _ _ _ ha=>h.keepA fun x e=>by have:=ha x e;exact hx18 x.1 (by omega) (by omega) (by omega)
 have hG10:Gr b11 H18 6 a10 n10 o10 (c.ports.map Pt.cells).flatten:=fc _ fun _ _ _ h ha=>h.keepA fun x e=>by have:=ha x e;exact hx18 x.1 (by omega) (by omega) (by omega)
 have hX:Xt H H18:=⟨by omega,fun b hb=>by rw[hx18 b (by omega) (by omega) (by omega)];exact fc _ fun h _ _ _ _=>h b hb⟩
 have f18:=hd6 hX hG1 hG8 hG10 hL9 hL11
 have lm:H.length≤b5∧H.length≤b8∧H.length≤b11∧H.length≤H14.length∧H.length≤H16.length:=by omega
 clear hX hG1 hG8 hG10 hL9 hL11 x18 hx18
 repeat (with_reducible first|(first|refine pI1 ?_|refine pS1 ?_);intros|refine pA1 ?_|refine pX1 ?_|refine pB1 ?_|exact True.intro)
 obtain⟨m1,m2,m3,m4,m5⟩:=lm
 refine f18 _ fun hX hG1 hG8 hG10 hL9 hL11=>⟨hX,⟨a1,n1,a8,n8,a9,n9,a10,n10,a11,n11,o1,o8,o9,o10,o11⟩,?_,f0 _ fun _ _ _ _ hfin _=>hfin H18 a1 a8 a9 a10 a11 o1 o8 o9 o10 o11 (hG1.mono m1) (hG8.mono m2) (hG10.mono m3) (hL9.mono m4) (hL11.mono m5),fun b x e=>?_,fun b x e=>?_,fun b x e=>?_⟩
 ·rfl
 ·have:=hG8.lt _ e;show H.length≤b;omega
 ·have:=hG10.lt _ e;show H.length≤b;omega
 ·have:=hG1.lt _ e;show H.length≤b;omega
end Go.Proofs.YtjcgdcadflplcaaDoor.AM.D21
namespace Go.Proofs.YtjcgdcadflplcaaDoor.AM.D21
open Go Go.Proofs.YtjcgdcadflplcaaDoor.AM Go.Proofs.YtjcgdcadflplcaaDoor.AM.C02
set_option maxHeartbeats 2000000
set_option maxRecDepth 100000
attribute [local go_sem] tn_add1 tn_sub1 put_all' nums_len
section
variable {N n1 n8 n9 n10 n11 b1:Nat} {H:Heap} {c:Cfg} {h:Hd} {ρ:Nat→V}
theorem great_wins {s0:Nat} (hc:CfgM N H c h) (ht:TwinOk c) (h9:c.wins.length=n9) (hs0:s0≤4000000) (e1:ρ 1=.c (.ptr (some (b1,0)))) (e3:ρ 3=.c (.int .i64 (s0:Nat)))
  (g1:H[b1]?=some (.cells [.int .i64 c.nodes,.sl h.a1 n1 h.c1 h.o1,.int .i64 c.drift,.int .i64 c.reading,.int .i64 c.margin,.int .i64 c.bound,.int .i64 c.rejoin,.int .i64 c.quota,.sl h.a8 n8 h.c8 h.o8,.sl h.a9 n9 h.c9 h.o9,.sl h.a10 n10 h.c10 h.o10,.sl h.a11 n11 h.c11 h.o11] false none)):
  W F none (.seq (.ops oX1d_2) (.block 0 (.loop bX1d_6))) ⟨L 72 ρ,[],H⟩ fun e st=>e=.normal∧∃ρ',∃s:Nat,st=⟨L 72 ρ',[],H⟩∧s≤204000000∧ρ' 1=.c (.ptr (some (b1,0)))∧ρ' 3=.c (.int .i64 (s:Nat)):=by
 have f0:=hd3 hc ht h9
 clear hc ht h9
 repeat (with_reducible first|(first|refine pI1 ?_|refine pS1 ?_);intros|refine pA1 ?_|refine pX1 ?_|refine pB1 ?_|exact True.intro)
 refine W_loop (fun mm st=>∃ρ,∃i s:Nat,st=⟨L 72 ρ,[],H⟩∧mm=100-i∧i≤100∧s≤4000000+i * 2000000∧ρ 1=.c (.ptr (some (b1,0)))∧ρ 3=.c (.int .i64 (s:Nat))∧ρ 4=.c (.int .i64 (i:Nat))) 100 ⟨_,0,s0,rfl,rfl,by omega,by omega,zf,zf,zf⟩ ?_
 clear e1 e3
 rintro mm st ⟨ρ,i,s,rfl,rfl,hi,hs,e1,e3,e4⟩
 unfold bX1d_6
 by_cases hin:i<n9
 ·have hxt:(i:Int)<(n9:Int):=by omega
  by_cases h100:i<100
  ·have hxt2:(i:Int)<100:=by omega
   have hlt:i<c.wins.length:=f0 _ fun _ _ h=>by omega
   obtain⟨la,y,a,cc,o,ea,hla,hld,-,-⟩:=f0 _ fun hc _ _=>win_at2 hc hlt
   have hr:=f0 _ fun _ ht _=>ht.rows _ (List.getElem_mem hlt)
   generalize c.wins[i].length=rl at *
   rw[ea] at g1
   repeat (with_reducible first|(first|refine pI1 ?_|refine pS1 ?_);intros|refine pA1 ?_|refine pX1 ?_|refine pB1 ?_|exact True.intro)
   exact loopQ_n (100-(i+1)) (by omega) ⟨_,i+1,s+rl,rfl,rfl,by omega,by omega,zf,zf,zf⟩
  ·have hxt2:¬(i:Int)<100:=by omega
   repeat (with_reducible first|(first|refine pI1 ?_|refine pS1 ?_);intros|refine pA1 ?_|refine pX1 ?_|refine pB1 ?_|exact True.intro)
   exact⟨rfl,_,s,rfl,by omega,zf,zf⟩
 ·have hxt:¬(i:Int)<(n9:Int):=by omega
  repeat (with_reducible first|(first|refine pI1 ?_|refine pS1 ?_);intros|refine pA1 ?_|refine pX1 ?_|refine pB1 ?_|exact True.intro)
  exact⟨rfl,_,s,rfl,by omega,zf,zf⟩
theorem great_links {s0:Nat} (hc:CfgM N H c h) (ht:TwinOk c) (h11:c.links.length=n11) (hs0:s0≤204000000) (e1:ρ 1=.c (.ptr (some (b1,0)))) (e3:ρ 3=.c (.int .i64 (s0:Nat)))
  (g1:H[b1]?=some (.cells [.int .i64 c.nodes,.sl h.a1 n1 h.c1 h.o1,.int .i64 c.drift,.int .i64 c.reading,.int .i64 c.margin,.int .i64 c.bound,.int .i64 c.rejoin,.int .i64 c.quota,.sl h.a8 n8 h.c8 h.o8,.sl h.a9 n9 h.c9 h.o9,.sl h.a10 n10 h.c10 h.o10,.sl h.a11 n11 h.c11 h.o11] false none)):
  W F none (.seq (.ops oX1d_7) (.block 2 (.loop bX1d_11))) ⟨L 72 ρ,[],H⟩ fun e st=>e=.normal∧∃ρ',∃s:Nat,st=⟨L 72 ρ',[],H⟩∧s≤404000000∧ρ' 1=.c (.ptr (some (b1,0)))∧ρ' 3=.c (.int .i64 (s:Nat)):=by
 have f0:=hd3 hc ht h11
 clear hc ht h11
 repeat (with_reducible first|(first|refine pI1 ?_|refine pS1 ?_);intros|refine pA1 ?_|refine pX1 ?_|refine pB1 ?_|exact True.intro)
 refine W_loop (fun mm st=>∃ρ,∃i s:Nat,st=⟨L 72 ρ,[],H⟩∧mm=100-i∧i≤100∧s≤204000000+i * 2000000∧ρ 1=.c (.ptr (some (b1,0)))∧ρ 3=.c (.int .i64 (s:Nat))∧ρ 5=.c (.int .i64 (i:Nat))) 100 ⟨_,0,s0,rfl,rfl,by omega,by omega,zf,zf,zf⟩ ?_
 clear e1 e3
 rintro mm st ⟨ρ,i,s,rfl,rfl,hi,hs,e1,e3,e5⟩
 unfold bX1d_11
 by_cases hin:i<n11
 ·have hxt:(i:Int)<(n11:Int):=by omega
  by_cases h100:i<100
  ·have hxt2:(i:Int)<100:=by omega
   have hlt:i<c.links.length:=f0 _ fun _ _ h=>by omega
   obtain⟨la,y,a,cc,o,ea,hla,hld,-,-⟩:=f0 _ fun hc _ _=>lnk_at2 hc hlt
   have hr:=f0 _ fun _ ht _=>ht.dests _ (List.getElem_mem hlt)
   generalize c.links[i].dests.length=rl at *
   have hd1:ldB H[la]? (y+i * 3+1)=some (.sl a rl cc o):=by
    generalize H[la]?=k at *
    match k,hld with
    |some (.cells cs ro g),hld=>exact sub_at (i:=1) hld (by omega)
   clear hld
   rw[ea] at g1
   repeat (with_reducible first|(first|refine pI1 ?_|refine pS1 ?_);intros|refine pA1 ?_|refine pX1 ?_|refine pB1 ?_|exact True.intro)
   exact loopQ_n (100-(i+1)) (by omega) ⟨_,i+1,s+rl,rfl,rfl,by omega,by omega,zf,zf,zf⟩
  ·have hxt2:¬(i:Int)<100:=by omega
   repeat (with_reducible first|(first|refine pI1 ?_|refine pS1 ?_);intros|refine pA1 ?_|refine pX1 ?_|refine pB1 ?_|exact True.intro)
   exact⟨rfl,_,s,rfl,by omega,zf,zf⟩
 ·have hxt:¬(i:Int)<(n11:Int):=by omega
  repeat (with_reducible first|(first|refine pI1 ?_|refine pS1 ?_);intros|refine pA1 ?_|refine pX1 ?_|refine pB1 ?_|exact True.intro)
  exact⟨rfl,_,s,rfl,by omega,zf,zf⟩
end
theorem s_Great {N:Nat} {H:Heap} {c:Cfg} {h:Hd} (hc:CfgM N H c h) (hN:N≤H.length) (ht:TwinOk c):WC F fX1d [.agg (c.cells h)] H fun v H'=>(∃b,v=.c (.bool b))∧Xt H H':=by
 refine WC_start eX1d (by simp) ?_
 unfold cX1d Cfg.cells
 obtain⟨n1,h1⟩:∃n,c.owners.length=n:=⟨_,rfl⟩
 obtain⟨n8,h8⟩:∃n,c.parts.length=n:=⟨_,rfl⟩
 obtain⟨n9,h9⟩:∃n,c.wins.length=n:=⟨_,rfl⟩
 obtain⟨n10,h10⟩:∃n,c.ports.length=n:=⟨_,rfl⟩
 obtain⟨n11,h11⟩:∃n,c.links.length=n:=⟨_,rfl⟩
 have k1:=ht.owners
 have k8:=ht.parts
 have k9:=ht.wins
 have k10:=ht.ports
 have k11:=ht.links
 rw[h1] at k1
 rw[h8] at k8
 rw[h9] at k9
 rw[h10] at k10
 rw[h11] at k11
 rw[h1,h8,h9,h10,h11]
 have f0:=hd4 hc ht h9 h11
 clear hc ht h1 h8 h9 h10 h11
 obtain⟨Y,hY⟩:∃Y,Y=IC.seq (.ops oX1d_2) (.block 0 (.loop bX1d_6)):=⟨_,rfl⟩
 obtain⟨Z,hZ⟩:∃Z,Z=IC.seq (.ops oX1d_7) (.block 2 (.loop bX1d_11)):=⟨_,rfl⟩
 rw[←hY,←hZ]
 have fY:=hd2 hY hZ
 clear hY hZ
 repeat (with_reducible first|(first|refine pI1 ?_|refine pS1 ?_);intros|refine pA1 ?_|refine pX1 ?_|refine pB1 ?_|exact True.intro)
 rename_i b1 H1 p1 g1 x1
 have hc1:CfgM N H1 c h:=f0 _ fun hc _ _ _=>hc.keep fun b hb=>x1 b (by omega)
 have fx:=hd2 x1 hc1
 clear x1 hc1
 repeat (with_reducible first|(first|refine pI1 ?_|refine pS1 ?_);intros|refine pA1 ?_|refine pX1 ?_|refine pB1 ?_|exact True.intro)
 rw[fY _ fun h _=>h]
 refine W_cut _ (f0 _ fun _ ht h9 _=>fx _ fun _ hc=>great_wins (b1:=b1) (n1:=n1) (n8:=n8) (n10:=n10) (n11:=n11) (s0:=n1+n9) hc ht h9 (by omega) zf zf g1) ?_
 rintro _ ⟨ρ',s,rfl,hs,e1,e3⟩
 repeat (with_reducible first|(first|refine pI1 ?_|refine pS1 ?_);intros|refine pA1 ?_|refine pX1 ?_|refine pB1 ?_|exact True.intro)
 rw[fY _ fun _ h=>h]
 refine W_cut _ (f0 _ fun _ ht _ h11=>fx _ fun _ hc=>great_links (b1:=b1) (n1:=n1) (n8:=n8) (n9:=n9) (n10:=n10) (s0:=s) hc ht h11 (by omega) zf zf g1) ?_
 clear e1 e3 hs
 rintro _ ⟨ρ',s,rfl,hs,e1,e3⟩
 have hX:Xt H H1:=fx _ fun x _=>⟨by omega,fun b hb=>x b (by omega)⟩
 have fX:=hd1 hX
 clear hX
 by_cases c1:(s:Int) > 1000
 ·repeat (with_reducible first|(first|refine pI1 ?_|refine pS1 ?_);intros|refine pA1 ?_|refine pX1 ?_|refine pB1 ?_|exact True.intro)
  exact⟨⟨_,rfl⟩,fX _ fun x=>x⟩
 by_cases c2:(n8:Int) > 100
 ·repeat (with_reducible first|(first|refine pI1 ?_|refine pS1 ?_);intros|refine pA1 ?_|refine pX1 ?_|refine pB1 ?_|exact True.intro)
  exact⟨⟨_,rfl⟩,fX _ fun x=>x⟩
 by_cases c3:(n10:Int) > 100
 ·repeat (with_reducible first|(first|refine pI1 ?_|refine pS1 ?_);intros|refine pA1 ?_|refine pX1 ?_|refine pB1 ?_|exact True.intro)
  exact⟨⟨_,rfl⟩,fX _ fun x=>x⟩
 by_cases c4:(n11:Int) > 100
 ·repeat (with_reducible first|(first|refine pI1 ?_|refine pS1 ?_);intros|refine pA1 ?_|refine pX1 ?_|refine pB1 ?_|exact True.intro)
  exact⟨⟨_,rfl⟩,fX _ fun x=>x⟩
 repeat (with_reducible first|(first|refine pI1 ?_|refine pS1 ?_);intros|refine pA1 ?_|refine pX1 ?_|refine pB1 ?_|exact True.intro)
 exact⟨⟨_,rfl⟩,fX _ fun x=>x⟩
end Go.Proofs.YtjcgdcadflplcaaDoor.AM.D21
namespace Go.Proofs.YtjcgdcadflplcaaDoor.AM.D21
open Go Go.Proofs.YtjcgdcadflplcaaDoor.AM Go.Proofs.YtjcgdcadflplcaaDoor.AM.C02
set_option maxHeartbeats 2000000
set_option maxRecDepth 100000
theorem len_wt {T:Ty} (hT:∀d:T.D,1≤wt T d) (xs:List T.D):xs.length≤(xs.map fun d=>wt T d).sum:=by
 induction xs with
 |nil=>exact Nat.zero_le _
 |cons x xs ih=>have:=hT x;rw[List.length_cons,List.map_cons,List.sum_cons];omega
theorem vw_len_wt {T:Ty} (hT:∀d:T.D,1≤wt T d) {H:Heap} {x:List T.D} {a:Option Ad} {n c:Nat} {o:Bool} (h:Vw (.sl T) H x [.sl a n c o]):n≤wt (.sl T) x:=by
 obtain⟨a',c',e,-⟩:=h
 injection e with e _
 injection e with _ e _ _
 rw[e]
 show _≤1+(x.map fun d=>wt T d).sum
 have:=len_wt hT x
 exact Nat.le_trans this (by omega)
theorem row_rowW {H:Heap} {x:List Int} {cs:List Cell} (h:Vw (.sl I) H x cs):∃e,RowR H.length H e cs∧e.length≤wt (.sl I) x:=by
 obtain⟨a,c,rfl,h1,h2,h3,h4⟩:=Vw.nums h
 refine⟨x,⟨a,c,false,rfl,h3,fun b x e=>h3.lt e,h4,h1,h2⟩,?_⟩
 have:=len_wt (T:=I) (fun d=>Nat.le_refl 1) x
 show _≤1+(List.map (fun d=>wt I d) x).sum
 exact Nat.le_trans this (by omega)
theorem cfg_rowX {H:Heap} {x:Cfg.T.D} {cs:List Cell} (h:Vw Cfg.T H x cs):∃c h,cs=c.cells h∧CfgM H.length H c h∧(wt Cfg.T x≤1048576→Few c∧TwinOk c):=by
 obtain⟨_,_,rfl,⟨rfl,w1⟩,_,_,rfl,ho,_,_,rfl,⟨rfl,w2⟩,_,_,rfl,⟨rfl,w3⟩,_,_,rfl,⟨rfl,w4⟩,_,_,rfl,⟨rfl,w5⟩,_,_,rfl,⟨rfl,w6⟩,_,_,rfl,⟨rfl,w7⟩,_,_,rfl,hp,_,_,rfl,hw,_,_,rfl,hq,_,_,rfl,hl,rfl⟩:=h
 obtain⟨a1,c1,rfl,k1,k2,k3,k4⟩:=Vw.nums ho
 obtain⟨a8,c8,lp,rfl,p1,p2,p3,pS,pN⟩:=parts_of hp
 have p4:=vw_len_wt (T:=Pa.T) (fun d=>by show 1≤1+_;omega) hp
 obtain⟨a9,c9,lw,rfl,q1,q2,q3,q4⟩:=Vw.tabW (T:=.sl I) (R:=RowR H.length) (S:=fun x e=>e.length≤wt (.sl I) x) (fun _ _=>row_rowW) hw
 obtain⟨a10,c10,lt,rfl,r1,r2,r3,rS,rN,r4⟩:=ports_of hq
 obtain⟨a11,c11,ll,rfl,s1,s2,s3,s4⟩:=Vw.tabW (R:=LkR H.length) (S:=fun x e=>e.dests.length≤wt Lk.T x) (fun _ _=>lk_rowW) hl
 refine⟨⟨_,_,_,_,_,_,_,_,lp,lw,lt,ll⟩,⟨a1,c1,a8,c8,a9,c9,a10,c10,a11,c11,false,false,false,false,false⟩,rfl,⟨k3,fun b x e=>k3.lt e,p3,q3,r3,s3,wf_i64 w1,wf_i64 w2,wf_i64 w3,wf_i64 w4,wf_i64 w5,wf_i64 w6,wf_i64 w7,k4,pS,pN,rS,rN⟩,fun hwt=>?_⟩
 have b1:=all2_wt (f:=fun _=>1) r4
 have b2:=all2_wt (f:=fun l:Lk=>l.dests.length) s4
 rw[len1] at b1
 have hx:wt Cfg.T x=1+(wt (.sl I) x.2.1+(1+(1+(1+(1+(1+(1+(wt (.sl Pa.T) x.2.2.2.2.2.2.2.2.1+(wt (.sl (.sl I)) x.2.2.2.2.2.2.2.2.2.1+(wt (.sl Pt.T) x.2.2.2.2.2.2.2.2.2.2.1+(wt (.sl Lk.T) x.2.2.2.2.2.2.2.2.2.2.2.1+0))))))))))):=rfl
 have hp':wt (.sl Pt.T) x.2.2.2.2.2.2.2.2.2.2.1=1+(x.2.2.2.2.2.2.2.2.2.2.1.map fun d=>wt Pt.T d).sum:=rfl
 have hl':wt (.sl Lk.T) x.2.2.2.2.2.2.2.2.2.2.2.1=1+(x.2.2.2.2.2.2.2.2.2.2.2.1.map fun d=>wt Lk.T d).sum:=rfl
 have ho':wt (.sl I) x.2.1=1+List.length (α:=Int) x.2.1:=congrArg (1 + ·) (len1 (α:=Int) x.2.1)
 have b3:=all2_wt (f:=fun e:List Int=>e.length) q4
 have b4:=vw_len_wt (T:=.sl I) (fun d=>by show 1≤1+_;omega) hw
 have b5:=vw_len_wt (T:=Lk.T) (fun d=>by show 1≤1+_;omega) hl
 have hw':wt (.sl (.sl I)) x.2.2.2.2.2.2.2.2.2.1=1+(x.2.2.2.2.2.2.2.2.2.1.map fun d=>wt (.sl I) d).sum:=rfl
 have hmem:∀{ll:List Lk} {l:Lk},l∈ll→l.dests.length≤(ll.map fun l:Lk=>l.dests.length).sum:=fun {ll l}=>by
  induction ll with
  |nil=>intro h;cases h
  |cons y ll ih=>
   intro h
   simp only[List.map_cons,List.sum_cons]
   rcases List.mem_cons.1 h with rfl|h
   ·omega
   ·have:=ih h;omega
 have hmw:∀{ll:List (List Int)} {l:List Int},l∈ll→l.length≤(ll.map fun l:List Int=>l.length).sum:=fun {ll l}=>by
  induction ll with
  |nil=>intro h;cases h
  |cons y ll ih=>
   intro h
   simp only[List.map_cons,List.sum_cons]
   rcases List.mem_cons.1 h with rfl|h
   ·omega
   ·have:=ih h;omega
 refine⟨⟨by show List.length (α:=Int) x.2.1≤_;omega,by show lt.length≤_;omega,fun l hl=>?_⟩,⟨by show List.length (α:=Int) x.2.1≤_;omega,by show lp.length≤_;omega,by show lw.length≤_;omega,by show lt.length≤_;omega,by show ll.length≤_;omega,fun r hr=>?_,fun l hl=>?_⟩⟩
 ·have:=hmem (ll:=ll) hl
  omega
 ·have:=hmw (ll:=lw) hr
  omega
 ·have:=hmem (ll:=ll) hl
  omega
end Go.Proofs.YtjcgdcadflplcaaDoor.AM.D21
