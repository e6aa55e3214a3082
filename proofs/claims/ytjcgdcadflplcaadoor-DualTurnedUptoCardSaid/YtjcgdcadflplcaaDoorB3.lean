/- What the functions that this law reaches come to, each walked once, and the plain laws that stand behind them. -/
import Derived.Test.YtjcgdcadflplcaaDoorB2
import Derived.Test.YtjcgdcadflplcaaDoorA4
import Derived.Test.YtjcgdcadflplcaaDoorB1
set_option linter.unusedVariables false
set_option linter.unusedSimpArgs false
set_option linter.unusedSectionVars false
namespace Go.Proofs.YtjcgdcadflplcaaDoor.AM.D21
open Go Go.Proofs.YtjcgdcadflplcaaDoor.AM Go.Proofs.YtjcgdcadflplcaaDoor.AM.C02
set_option maxHeartbeats 2000000
set_option maxRecDepth 100000
attribute [local go_sem] tn_add1 tn_sub1 put_all' nums_len aop_mn aop_mx mnO_int mxO_int sub12 sub3 sub6 rep6
set_option maxHeartbeats 20000000
theorem mkslO_tkn {H:Heap} {m:Nat} (h:m≤1000000):mkslO 1 8 [Cell.int .i64 0] (.c (.int .i64 (m:Nat))) (.c (.int .i64 (m:Nat))) H=some (.v (.c (.sl (some (H.length,0)) m m false)),H++[.cells (nums (tkn m [])) false none]):=by
 have e:=mkslO_int (H:=H) (sz:=1) (by_:=8) (z:=[Cell.int .i64 0]) (i:=.i64) (i':=.i64) (l:=(m:Nat)) (c:=(m:Nat)) ⟨by omega,by omega,by omega⟩ rfl
 rw[e,Int.toNat_natCast,tkn_0]
attribute [local go_sem high] mkslO_tkn
theorem s_clinks {N:Nat} {H:Heap} {c:Cfg} {h:Hd} (hc:CfgM N H c h) (hN:N≤H.length) (hps:c.okParts) (hpt:c.okPorts):WC F fXg [.agg (c.cells h)] H fun v H'=>v=.c (.bool (dB c.okLinks))∧Xt H H':=by
 refine WC_start eXg (by simp) ?_
 unfold cXg Cfg.cells
 obtain⟨n,hn⟩:∃n,c.links.length=n:=⟨_,rfl⟩
 obtain⟨m,hm⟩:∃m,c.ports.length=m:=⟨_,rfl⟩
 obtain⟨np,hnp⟩:∃n,c.parts.length=n:=⟨_,rfl⟩
 rw[hn,hm,hnp]
 have hm64:m≤64:=by have:=hpt.1;omega
 have fin0:=zhd6 hc hn hm hnp hps hpt
 clear hc hn hm hnp hps hpt
 repeat (with_reducible first|(first|refine pI1 ?_|refine pS1 ?_);intros|refine pA1 ?_|refine pX1 ?_|refine pB1 ?_|exact True.intro)
 rename_i b1 H1 p1 g1 x1 b2 H2 p2 g2 x2
 by_cases hbig:64<(n:Int)
 ·repeat (with_reducible first|(first|refine pI1 ?_|refine pS1 ?_);intros|refine pA1 ?_|refine pX1 ?_|refine pB1 ?_|exact True.intro)
  rename_i H3 l3 g3 x3
  repeat (with_reducible first|(first|refine pI1 ?_|refine pS1 ?_);intros|refine pA1 ?_|refine pX1 ?_|refine pB1 ?_|exact True.intro)
  exact⟨by rw[dB_f (fun h=>by have:=h.1;have:=fin0 _ fun _ hn _ _ _ _=>hn;omega)],by omega,fun b hb=>by rw[x3 b (by omega),x2 b (by omega),x1 b (by omega)]⟩
 have hn64:n≤64:=by omega
 have g12:H2[b1]?=_:=(x2 b1 (by omega)).trans g1
 have y2:Xt H H2:=⟨by omega,fun b hb=>by rw[x2 b (by omega),x1 b (by omega)]⟩
 have fy2:=zhd1 y2
 clear x1 x2 g1 y2
 repeat (with_reducible first|(first|refine pI1 ?_|refine pS1 ?_);intros|refine pA1 ?_|refine pX1 ?_|refine pB1 ?_|exact True.intro)
 rename_i b3 H3 p3 g3 x3
 have g13:H3[b1]?=_:=(x3 b1 (by omega)).trans g12
 have g23:H3[b2]?=_:=(x3 b2 (by omega)).trans g2
 have y3:Xt H H3:=⟨by omega,fun b hb=>by rw[x3 b (by omega)];exact fy2 _ fun y=>y.2 b hb⟩
 have fy3:=zhd1 y3
 clear x3 g12 g2 y3 fy2
 repeat (with_reducible first|(first|refine pI1 ?_|refine pS1 ?_);intros|refine pA1 ?_|refine pX1 ?_|refine pB1 ?_|exact True.intro)
 refine W_loop (fun q st=>∃ρ i Hk,st=⟨L 195 ρ,[],Hk⟩∧q=n-i∧i≤n∧ρ 1=.c (.ptr (some (b1,0)))∧ρ 2=.c (.ptr (some (b2,0)))∧ρ 3=.c (.sl (some (b3,0)) m m false)∧ρ 27=.c (.sl h.a11 n h.c11 h.o11)∧ρ 28=.c (.int .i64 (n:Nat))∧ρ 29=.c (.int .i64 (i:Nat))∧LkOk c i∧H3.length≤Hk.length∧(∀b,b<H3.length→b≠b3→Hk[b]?=H3[b]?)∧Hk[b3]?=some (.cells (nums (tkn m (Cfg.used (c.links.take i)))) false none)) n ⟨_,0,H3,rfl,rfl,by omega,zf,zf,zf,zf,zf,zf,⟨fun j hj=>by omega,fun x=>by simp[Cfg.used]⟩,Nat.le_refl _,fun _ _ _=>rfl,g3⟩ ?_
 clear g3
 rintro q st ⟨ρ,i,Hk,rfl,rfl,hi,e1,e2,e3,e27,e28,e29,hlk,lk,xk,k3⟩
 unfold bXg_22
 have k1:Hk[b1]?=_:=(xk b1 (by omega) (by omega)).trans g13
 have k2:Hk[b2]?=_:=(xk b2 (by omega) (by omega)).trans g23
 have yk:∀b,b<H.length→Hk[b]?=H[b]?:=fun b hb=>by rw[xk b (by omega) (by omega)];exact fy3 _ fun y=>y.2 b hb
 by_cases hin:i<n
 ·have hxt:(i:Int)<(n:Int):=by omega
  obtain⟨la,y,ad,cd,od,ea,hla,hld,had,hadN,hmem,hndb⟩:=fin0 _ fun hc hn _ _ _ _=>link_at hc (i:=i) (by omega)
  rw[←yk la (by omega)] at hld
  have hi':i<c.links.length:=fin0 _ fun _ hn _ _ _ _=>by omega
  obtain⟨nd,hnd⟩:∃nd,(c.link i).dests.length=nd:=⟨_,rfl⟩
  rw[hnd] at hld had hndb
  have hsrc:c.okSrc (c.link i)↔((0≤(c.link i).src∧(c.link i).src<(m:Int))∧(c.port (c.link i).src).dir=1∧nd≠0∧0≤(c.link i).off∧(c.link i).off≤63-(c.port (c.link i).src).size):=by
   unfold Cfg.okSrc Cfg.isP
   rw[fin0 _ fun _ _ hm _ _ _=>hm]
   have:(c.link i).dests≠[]↔nd≠0:=by rw[←hnd];simp
   rw[this]
  have hisP:c.isP (c.link i).src↔(0≤(c.link i).src∧(c.link i).src<(m:Int)):=by unfold Cfg.isP;rw[fin0 _ fun _ _ hm _ _ _=>hm]
  have hsize:0≤(c.link i).src→(c.link i).src<(m:Int)→1≤(c.port (c.link i).src).size∧(c.port (c.link i).src).size≤32:=fun h1 h2=>fin0 _ fun _ _ hm _ _ hpt=>by
   have hmem2:c.port (c.link i).src∈c.ports:=by
    unfold Cfg.port
    rw[List.getD_eq_getElem?_getD,List.getElem?_eq_getElem (show (c.link i).src.toNat<c.ports.length by omega),Option.getD_some]
    exact List.getElem_mem _
   have:=(hpt.2 _ hmem2).1
   exact⟨this.2.2.1,this.2.2.2.1⟩
  have hno0:(¬c.okSrc (c.link i)∨0<cn (c.link i).src (Cfg.used (c.links.take i)))→¬c.okLinks:=no_src hi'
  have hcp:∀Hx:Heap,(∀b,b<N→Hx[b]?=H[b]?)→N≤Hx.length→_:=fun Hx hx hl=>s_port (n:=(c.link i).src) (fin0 _ fun hc _ _ _ _ _=>hc.keep (H':=Hx) hx) hl (fin0 _ fun _ _ hm _ _ _=>by omega)
  unfold Cfg.cells at hcp
  rw[fin0 _ fun _ _ hm _ _ _=>hm,fin0 _ fun _ hn _ _ _ _=>hn,fin0 _ fun _ _ _ hnp _ _=>hnp] at hcp
  have hU:∃U,U=Cfg.used (c.links.take i):=⟨_,rfl⟩
  obtain⟨U,hU⟩:=hU
  obtain⟨src,hsr⟩:∃s,s=(c.link i).src:=⟨_,rfl⟩
  obtain⟨off,hof⟩:∃s,s=(c.link i).off:=⟨_,rfl⟩
  have hget:0≤src→src<(m:Int)→(nums (tkn m U))[src.toNat]?=some (.int .i64 ((cn src U:Nat):Int)):=fun h1 h2=>by
   rw[nums_get (by rw[tkn_len];omega),tkn_gn (by omega),show ((src.toNat:Nat):Int)=src by omega]
  have hset:0≤src→src<(m:Int)→(nums (tkn m U)).set src.toNat (.int .i64 (((cn src U:Nat):Int)+1))=nums (tkn m (U++[src])):=fun h1 h2=>by
   have:=tkn_set (m:=m) (U:=U) (k:=src.toNat) (by omega)
   rwa [show ((src.toNat:Nat):Int)=src by omega] at this
  have hcl:(nums (tkn m U)).length=m:=by rw[nums_len,tkn_len]
  rw[←hU] at k3
  rw[←hsr] at hld hsrc hisP
  rw[←hof] at hld hsrc
  rw[←hsr] at hno0 hcp hsize
  rw[←hU] at hno0
  rw[ea] at e27
  have fea:=zhd1 ea
  have hDest:=fun hs:c.okSrc (c.link i)=>fun hx:cn src U=0=>DsOk.start (c:=c) (i:=i) hlk hs (by rw[←hsr,←hU];exact hx)
  generalize c.okSrc (c.link i)=P at *
  have fin1:=zhd8 hsrc hisP hsize hno0 hcp hget hset hDest
  have fin2:=zhd10 hlk xk yk had hadN hnd hU hsr hof hi'
  have lb1:=lt_of_get k1
  have hlk3:=lt_of_get k3
  clear hsrc hisP hsize hno0 hcp hget hset hDest hlk xk yk had hadN hnd hU hsr hof hi' hmem ea g13 g23
  have lk0:H3.length≤Hk.length:=lk
  repeat (with_reducible first|(first|refine pI1 ?_|refine pS1 ?_);intros|refine pA1 ?_|refine pX1 ?_|refine pB1 ?_|exact True.intro)
  rename_i b5 H5 p5 g5 x5 H6 l6 g6 x6
  have z6:∀b,b<Hk.length→H6[b]?=Hk[b]?:=fun b hb=>by rw[x6 b (by omega),x5 b (by omega)]
  have m1:H6[b1]?=_:=(z6 b1 (by omega)).trans k1
  have m2:H6[b2]?=_:=(z6 b2 (by omega)).trans k2
  have m3:H6[b3]?=_:=(z6 b3 (by omega)).trans k3
  have y6:∀b,b<H.length→H6[b]?=H[b]?:=fun b hb=>(z6 b (by omega)).trans (fin2 _ fun _ _ yk _ _ _ _ _ _ _=>yk b hb)
  have f6:=zhd2 z6 y6
  clear x5 x6 z6 y6 g5 k1 k2 k3 hld
  have hcp:=fin1 _ fun _ _ _ _ hcp _ _ _=>hcp
  refine outM_call (hcp H6 (fun b hb=>f6 _ fun _ y=>y b (by omega)) (by omega)) ?_
  clear hcp
  rintro _ H7 ⟨⟨p,rfl,hp⟩,l7,x7⟩
  have m17:H7[b1]?=_:=(x7 b1 (by omega)).trans m1
  have m27:H7[b2]?=_:=(x7 b2 (by omega)).trans m2
  have m37:H7[b3]?=_:=(x7 b3 (by omega)).trans m3
  have m57:H7[b5]?=_:=(x7 b5 (by omega)).trans g6
  obtain⟨p1,p2,p3,p4,p5_,p6⟩:=p
  dsimp only [Pt.cells]
  have y7:∀b,b<H.length→H7[b]?=H[b]?:=fun b hb=>(x7 b (by omega)).trans (f6 _ fun _ y=>y b hb)
  have w7:∀b,b<H3.length→b≠b3→H7[b]?=H3[b]?:=fun b hb hne=>by rw[x7 b (by omega),f6 _ fun z _=>z b (by omega)];exact fin2 _ fun _ xk _ _ _ _ _ _ _ _=>xk b hb hne
  have f7:=zhd3 hp y7 w7
  clear hp x7 m1 m2 m3 g6 y7 w7
  have hl7:H6.length≤H7.length:=l7
  by_cases hv1:0≤src∧src≤(m:Int)-1
  case neg=>
   have hP:¬P:=fun h=>hv1 (by have:=((fin1 _ fun hs _ _ _ _ _ _ _=>hs).1 h).1;omega)
   rw[decide_eq_false hv1]
   repeat (with_reducible first|(first|refine pI1 ?_|refine pS1 ?_);intros|refine pA1 ?_|refine pX1 ?_|refine pB1 ?_|exact True.intro)
   rename_i b8 H8 q8 g8 x8 H9 l9 g9 x9 H10 l10 g10 x10
   exact⟨by rw[dB_f (fin1 _ fun _ _ _ hn _ _ _ _=>hn (.inl hP))],by omega,fun b hb=>by rw[x10 b (by omega),x9 b (by omega),x8 b (by omega)];exact f7 _ fun _ y _=>y b hb⟩
  rw[decide_eq_true hv1]
  obtain⟨v1,v2⟩:=hv1
  have hpe:=f7 _ fun hp _ _=>hp ((fin1 _ fun _ hi _ _ _ _ _ _=>hi).2 ⟨v1,by omega⟩)
  have hsz:=fin1 _ fun _ _ hs _ _ _ _ _=>hs v1 (by omega)
  have hsr:=fin1 _ fun hs _ _ _ _ _ _ _=>hs
  have hpe':(⟨p1,p2,p3,p4,p5_,p6⟩:Pt)=c.port src:=hpe
  rw[←hpe'] at hsz
  rw[←hpe'] at hsr
  dsimp only at hsz hsr
  obtain⟨sz1,sz2⟩:=hsz
  have hPi:P↔(p3=1∧nd≠0∧0≤off∧off≤63-p4):=by
   rw[hsr]
   constructor
   ·rintro⟨_,h1,h2,h3,h4⟩;exact⟨h1,h2,h3,h4⟩
   ·rintro⟨h1,h2,h3,h4⟩;exact⟨⟨v1,by omega⟩,h1,h2,h3,h4⟩
  have f8:=zhd2 hPi hpe'
  clear hpe hpe' hsr hPi
  by_cases c1:p3=1
  case neg=>
   have hP:¬P:=fun h=>c1 (f8 _ fun hi _=>(hi.1 h).1)
   repeat (with_reducible first|(first|refine pI1 ?_|refine pS1 ?_);intros|refine pA1 ?_|refine pX1 ?_|refine pB1 ?_|exact True.intro)
   rename_i b8 H8 q8 g8 x8 H9 l9 g9 x9 H10 l10 g10 x10
   exact⟨by rw[dB_f (fin1 _ fun _ _ _ hn _ _ _ _=>hn (.inl hP))],by omega,fun b hb=>by rw[x10 b (by omega),x9 b (by omega),x8 b (by omega)];exact f7 _ fun _ y _=>y b hb⟩
  by_cases c2:nd=0
  ·have hP:¬P:=fun h=>(f8 _ fun hi _=>(hi.1 h).2.1) c2
   have c2':(nd:Int)=0:=by omega
   repeat (with_reducible first|(first|refine pI1 ?_|refine pS1 ?_);intros|refine pA1 ?_|refine pX1 ?_|refine pB1 ?_|exact True.intro)
   rename_i b8 H8 q8 g8 x8 H9 l9 g9 x9 H10 l10 g10 x10
   exact⟨by rw[dB_f (fin1 _ fun _ _ _ hn _ _ _ _=>hn (.inl hP))],by omega,fun b hb=>by rw[x10 b (by omega),x9 b (by omega),x8 b (by omega)];exact f7 _ fun _ y _=>y b hb⟩
  have c2':¬(nd:Int)=0:=by omega
  subst c1
  repeat (with_reducible first|(first|refine pI1 ?_|refine pS1 ?_);intros|refine pA1 ?_|refine pX1 ?_|refine pB1 ?_|exact True.intro)
  rename_i b8 H8 q8 g8 x8 H9 l9 g9 x9
  have z9:∀b,b<H7.length→H9[b]?=H7[b]?:=fun b hb=>by rw[x9 b (by omega),x8 b (by omega)]
  have m19:H9[b1]?=_:=(z9 b1 (by omega)).trans m17
  have m29:H9[b2]?=_:=(z9 b2 (by omega)).trans m27
  have m39:H9[b3]?=_:=(z9 b3 (by omega)).trans m37
  have m59:H9[b5]?=_:=(z9 b5 (by omega)).trans m57
  have f9:=zhd1 z9
  clear x8 x9 z9 m17 m27 m37 m57 g8
  refine outM_call s_within ?_
  rintro _ H9 ⟨rfl,rfl⟩
  by_cases c3:0≤off∧off≤63-p4
  case neg=>
   have hP:¬P:=fun h=>c3 (f8 _ fun hi _=>(hi.1 h).2.2)
   rw[decide_eq_false c3]
   repeat (with_reducible first|(first|refine pI1 ?_|refine pS1 ?_);intros|refine pA1 ?_|refine pX1 ?_|refine pB1 ?_|exact True.intro)
   rename_i H10 l10 g10 x10
   exact⟨by rw[dB_f (fin1 _ fun _ _ _ hn _ _ _ _=>hn (.inl hP))],by omega,fun b hb=>by rw[x10 b (by omega),f9 _ fun z=>z b (by omega)];exact f7 _ fun _ y _=>y b hb⟩
  have hP:P:=(f8 _ fun hi _=>hi.2 ⟨rfl,c2,c3⟩)
  rw[decide_eq_true c3]
  obtain⟨c3,c4⟩:=c3
  have hgt:=fin1 _ fun _ _ _ _ _ hg _ _=>hg v1 (by omega)
  have hvm:src.toNat<m:=by omega
  have hcnb:cn src U≤U.length:=List.countP_le_length
  by_cases hcn:(0:Int)<((cn src U:Nat):Int)
  ·repeat (with_reducible first|(first|refine pI1 ?_|refine pS1 ?_);intros|refine pA1 ?_|refine pX1 ?_|refine pB1 ?_|exact True.intro)
   rename_i H10 l10 g10 x10
   exact⟨by rw[dB_f (fin1 _ fun _ _ _ hn _ _ _ _=>hn (.inr (by omega)))],by omega,fun b hb=>by rw[x10 b (by omega),f9 _ fun z=>z b (by omega)];exact f7 _ fun _ y _=>y b hb⟩
  have hcz:cn src U=0:=by omega
  have hds:=fin1 _ fun _ _ _ _ _ _ _ hD=>hD hP hcz
  have hst:=fin1 _ fun _ _ _ _ _ _ hs _=>hs v1 (by omega)
  rw[hcz] at hgt hst
  have hgt:(nums (tkn m U))[src.toNat]?=some (.int .i64 0):=hgt
  have hst:(nums (tkn m U)).set src.toNat (.int .i64 1)=nums (tkn m (U++[src])):=hst
  have fa:=zhd2 hds hst
  clear hcn hcz hds hst hcnb
  repeat (with_reducible first|(first|refine pI1 ?_|refine pS1 ?_);intros|refine pA1 ?_|refine pX1 ?_|refine pB1 ?_|exact True.intro)
  rename_i H10 l10 g10 x10
  have n1:H10[b1]?=_:=(x10 b1 (by omega)).trans m19
  have n2:H10[b2]?=_:=(x10 b2 (by omega)).trans m29
  have n5:H10[b5]?=_:=(x10 b5 (by omega)).trans m59
  have n6:H10[b8]?=_:=(x10 b8 (by omega)).trans g9
  have y10:∀b,b<H.length→H10[b]?=H[b]?:=fun b hb=>by rw[x10 b (by omega),f9 _ fun z=>z b (by omega)];exact f7 _ fun _ y _=>y b hb
  have w10:∀b,b<H3.length→b≠b3→H10[b]?=H3[b]?:=fun b hb hne=>by rw[x10 b hne,f9 _ fun z=>z b (by omega)];exact f7 _ fun _ _ w=>w b hb hne
  have hsrc:=fin2 _ fun _ _ _ _ _ _ _ h _ _=>h
  have hoff:=fin2 _ fun _ _ _ _ _ _ _ _ h _=>h
  have hUU:=fin2 _ fun _ _ _ _ _ _ h _ _ _=>h
  have g10':H10[b3]?=some (.cells (nums (tkn m (Cfg.used (c.links.take i)++[(c.link i).src]))) false none):=by
   rw[←hUU,←hsrc,←fa _ fun _ h=>h];exact g10
  refine fin0 _ fun hc hn hm hnp _ _=>fin2 _ fun _ _ _ had hadN hnd _ _ _ hi'=>?_
  have hn1:H10[b1]?=some (.cells (c.cells h) false none):=by
   unfold Cfg.cells
   rw[hn,hm,hnp];exact n1
  refine W_dest (n:=0) (N:=N) (H0:=H) (h:=h) (C:=c.cells h) (s:=⟨p1,p2,1,p4,p5_,p6⟩) (b5:=b5) (b6:=b8) (nd:=nd) (cd:=cd) (ad:=ad) (od:=od) (C5:=[.int .i64 src,.sl ad nd cd od,.int .i64 off]) hc (by omega) rfl (fun b hb=>y10 b (by omega)) hm hm64 hi' hnd (by omega) hndb (by rw[←hsrc];exact f8 _ fun _ h=>h) (by rw[hsrc,hoff]) (had.keep fun b x e=>y10 b (by have:=hadN b x e;omega)) hadN hn1 n2 g10' n5 n6 (by omega) (fa _ fun h _=>h) zf zf zf zf zf zf zf zf ?_ ?_
  ·intro ρ' H' u1 u2 u3 u27 u28 u29 hds lH xH gH
   replace u1:ρ' 1=.c (.ptr (some (b1,0))):=by rw[u1];simp (disch:=first|with_reducible assumption|omega) only [go_sem, *,reduceCtorEq,↓reduceIte,Nat.reduceLT,Nat.reduceBEq,Nat.reduceAdd,Nat.reduceSub,Nat.reduceMul,Nat.reduceDiv,Nat.reduceMod,Nat.reducePow,Nat.reduceEqDiff,Nat.reduceLeDiff,Int.reduceLT,Int.reduceLE,Int.reduceNeg,Int.reduceToNat,Int.reduceAdd,Int.reduceSub,Int.reduceMul,Int.reduceEq,Int.reduceNe,Int.reduceBEq,Int.reduceBNe,Int.reducePow]
   replace u2:ρ' 2=.c (.ptr (some (b2,0))):=by rw[u2];simp (disch:=first|with_reducible assumption|omega) only [go_sem, *,reduceCtorEq,↓reduceIte,Nat.reduceLT,Nat.reduceBEq,Nat.reduceAdd,Nat.reduceSub,Nat.reduceMul,Nat.reduceDiv,Nat.reduceMod,Nat.reducePow,Nat.reduceEqDiff,Nat.reduceLeDiff,Int.reduceLT,Int.reduceLE,Int.reduceNeg,Int.reduceToNat,Int.reduceAdd,Int.reduceSub,Int.reduceMul,Int.reduceEq,Int.reduceNe,Int.reduceBEq,Int.reduceBNe,Int.reducePow]
   replace u3:ρ' 3=.c (.sl (some (b3,0)) m m false):=by rw[u3];simp (disch:=first|with_reducible assumption|omega) only [go_sem, *,reduceCtorEq,↓reduceIte,Nat.reduceLT,Nat.reduceBEq,Nat.reduceAdd,Nat.reduceSub,Nat.reduceMul,Nat.reduceDiv,Nat.reduceMod,Nat.reducePow,Nat.reduceEqDiff,Nat.reduceLeDiff,Int.reduceLT,Int.reduceLE,Int.reduceNeg,Int.reduceToNat,Int.reduceAdd,Int.reduceSub,Int.reduceMul,Int.reduceEq,Int.reduceNe,Int.reduceBEq,Int.reduceBNe,Int.reducePow]
   replace u27:ρ' 27=.c (.sl h.a11 n h.c11 h.o11):=by rw[u27,fea _ fun e=>e];simp (disch:=first|with_reducible assumption|omega) only [go_sem, *,reduceCtorEq,↓reduceIte,Nat.reduceLT,Nat.reduceBEq,Nat.reduceAdd,Nat.reduceSub,Nat.reduceMul,Nat.reduceDiv,Nat.reduceMod,Nat.reducePow,Nat.reduceEqDiff,Nat.reduceLeDiff,Int.reduceLT,Int.reduceLE,Int.reduceNeg,Int.reduceToNat,Int.reduceAdd,Int.reduceSub,Int.reduceMul,Int.reduceEq,Int.reduceNe,Int.reduceBEq,Int.reduceBNe,Int.reducePow]
   replace u28:ρ' 28=.c (.int .i64 (n:Nat)):=by rw[u28];simp (disch:=first|with_reducible assumption|omega) only [go_sem, *,reduceCtorEq,↓reduceIte,Nat.reduceLT,Nat.reduceBEq,Nat.reduceAdd,Nat.reduceSub,Nat.reduceMul,Nat.reduceDiv,Nat.reduceMod,Nat.reducePow,Nat.reduceEqDiff,Nat.reduceLeDiff,Int.reduceLT,Int.reduceLE,Int.reduceNeg,Int.reduceToNat,Int.reduceAdd,Int.reduceSub,Int.reduceMul,Int.reduceEq,Int.reduceNe,Int.reduceBEq,Int.reduceBNe,Int.reducePow]
   replace u29:ρ' 29=.c (.int .i64 (i:Nat)):=by rw[u29];simp (disch:=first|with_reducible assumption|omega) only [go_sem, *,reduceCtorEq,↓reduceIte,Nat.reduceLT,Nat.reduceBEq,Nat.reduceAdd,Nat.reduceSub,Nat.reduceMul,Nat.reduceDiv,Nat.reduceMod,Nat.reducePow,Nat.reduceEqDiff,Nat.reduceLeDiff,Int.reduceLT,Int.reduceLE,Int.reduceNeg,Int.reduceToNat,Int.reduceAdd,Int.reduceSub,Int.reduceMul,Int.reduceEq,Int.reduceNe,Int.reduceBEq,Int.reduceBNe,Int.reducePow]
   have hfin:LkOk c (i+1):=DsOk.fin hi' (by rw[hnd];exact hds)
   have fb:=zhd3 hfin gH (fun b (hb:b<H3.length) (hne:b≠b3)=>(xH b (by omega) hne).trans (w10 b hb hne))
   clear hc hn hm hnp had hadN hnd hi' hds xH gH hfin w10 y10 n1 n2 n5 n6 g10 g10' x10 hn1 hsrc hoff hUU m19 m29 m39 m59 g9
   repeat (with_reducible first|(first|refine pI1 ?_|refine pS1 ?_);intros|refine pA1 ?_|refine pX1 ?_|refine pB1 ?_|exact True.intro)
   exact loopQ_n (n-(i+1)) (by omega) ⟨_,i+1,H',rfl,rfl,by omega,zf,zf,zf,zf,zf,zf,fb _ fun a _ _=>a,by omega,fb _ fun _ _ a=>a,fb _ fun _ a _=>a⟩
  ·intro ρ' H' u2 hnot lH xH gH
   replace u2:ρ' 2=.c (.ptr (some (b2,0))):=by rw[u2];simp (disch:=first|with_reducible assumption|omega) only [go_sem, *,reduceCtorEq,↓reduceIte,Nat.reduceLT,Nat.reduceBEq,Nat.reduceAdd,Nat.reduceSub,Nat.reduceMul,Nat.reduceDiv,Nat.reduceMod,Nat.reducePow,Nat.reduceEqDiff,Nat.reduceLeDiff,Int.reduceLT,Int.reduceLE,Int.reduceNeg,Int.reduceToNat,Int.reduceAdd,Int.reduceSub,Int.reduceMul,Int.reduceEq,Int.reduceNe,Int.reduceBEq,Int.reduceBNe,Int.reducePow]
   have fb:=zhd1 (fun b (hb:b<H.length)=>(xH b (by omega) (by omega) (by omega)).trans (y10 b hb))
   clear hc hn hm hnp had hadN hnd hi' xH w10 y10 n1 n2 n5 n6 g10 g10' x10 hn1 hsrc hoff hUU m19 m29 m39 m59 g9
   repeat (with_reducible first|(first|refine pI1 ?_|refine pS1 ?_);intros|refine pA1 ?_|refine pX1 ?_|refine pB1 ?_|exact True.intro)
   exact⟨by rw[dB_f hnot],by omega,fb _ fun a=>a⟩
 ·obtain rfl:i=n:=by omega
  have hxt:¬(i:Int)<(i:Int):=by omega
  have hlk':(∀j,j<i→c.okLink (c.link j))∧∀x,cn x (Cfg.used c.links)≤1:=by
   refine⟨hlk.1,?_⟩
   have:=hlk.2
   rw[fin0 _ fun _ hn _ _ _ _=>hn.symm,List.take_length] at this
   exact this
  have fyk:=zhd2 yk hlk'
  clear xk g13 g23 yk hlk hlk' k3
  repeat (with_reducible first|(first|refine pI1 ?_|refine pS1 ?_);intros|refine pA1 ?_|refine pX1 ?_|refine pB1 ?_|exact True.intro)
  refine outM_call s_pairs ?_
  rintro _ H4 ⟨b4,rfl,q4,r4,g4,l4,x4⟩
  have k14:H4[b1]?=_:=(x4 b1 (by omega)).trans k1
  have k24:H4[b2]?=_:=(x4 b2 (by omega)).trans k2
  have y4:∀b,b<H.length→H4[b]?=H[b]?:=fun b hb=>(x4 b (by omega)).trans (fyk _ fun yk _=>yk b hb)
  have fy4:=zhd1 y4
  clear x4 k1 k2 y4
  repeat (with_reducible first|(first|refine pI1 ?_|refine pS1 ?_);intros|refine pA1 ?_|refine pX1 ?_|refine pB1 ?_|exact True.intro)
  unfold aXg_30
  refine W_rangeM (F:=F) (enc:=enp) (xs:=rest i 0) kF zf (it_pairs (fun d=>d=b2) (by omega))
   (fun d r Hx=>Hx[b1]?=H4[b1]?∧Hx[b2]?=H4[b2]?∧(∀b,b<H.length→Hx[b]?=H[b]?)∧∀p∈d,c.apartL p.1 p.2)
   (fun e Hx=>e=.ret∧Hx[b2]?=some (.cells [.bool false] false none)∧(∀b,b<H.length→Hx[b]?=H[b]?)∧¬c.okLinks)
   (fun J=>get_app' J g4) (fun b hb=>by omega) (fun _=>rfl) ?_ ?_ ?_ ?_ ?_ ?_
  ·rintro d r H7 H8 ⟨w1,w2,w3,w4⟩ l7 l8 x8
   exact⟨(x8 b1 (by omega) (by omega)).trans w1,(x8 b2 (by omega) (by omega)).trans w2,fun b hb=>(x8 b (by omega) (by omega)).trans (w3 b hb),w4⟩
  ·rintro e H7 H8 ⟨w1,w2,w3,w4⟩ l7 l8 x8
   exact⟨w1,(x8 b2 (by omega) (by omega)).trans w2,fun b hb=>(x8 b (by omega) (by omega)).trans (w3 b hb),w4⟩
  ·intro H7 l7 x7
   exact⟨x7 b1 (by omega),x7 b2 (by omega),fun b hb=>(x7 b (by omega)).trans (fy4 _ fun y=>y b hb),fun p hp=>by simp at hp⟩
  ·intro d p r Ha hd
   obtain⟨j,k⟩:=p
   obtain⟨hjk,hkn⟩:=rest_is (show (j,k)∈rest i 0 by rw[hd];simp)
   simp only[enp,List.zip_cons_cons,List.zip_nil_left,List.foldl_cons,List.foldl_nil,L_set]
   have hone:∀t,t<i→∃la y ad cd od lp yp lq yq,h.a11=some (la,y)∧h.a10=some (lp,yp)∧h.a8=some (lq,yq)∧la<N∧lp<N∧lq<N∧
     ldnB H[la]? (y+t * 3) 3=some [.int .i64 (c.link t).src,.sl ad (c.link t).dests.length cd od,.int .i64 (c.link t).off]∧
     ldnB H[lp]? (yp+(c.link t).src.toNat * 6) 6=some (c.port (c.link t).src).cells∧ldB H[lq]? (yq+(c.port (c.link t).src).part.toNat * 3)=some (.int .i64 (c.part (c.port (c.link t).src).part).node)∧
     0≤(c.link t).src∧(c.link t).src<(m:Int)∧0≤(c.port (c.link t).src).part∧(c.port (c.link t).src).part<(np:Int)∧0≤(c.link t).off∧(c.link t).off≤63∧1≤(c.port (c.link t).src).size∧(c.port (c.link t).src).size≤32:=by
    intro t ht
    refine fin0 _ fun hc hn hm hnp _ hpt=>fyk _ fun _ hlk=>?_
    obtain⟨la,y,ad,cd,od,ea,hla,hld,-,-,-,-⟩:=link_at hc (i:=t) (by omega)
    obtain⟨⟨hs1,hs2,hs3,hs4,hs5⟩,-⟩:=hlk.1 t ht
    obtain⟨hs6,hs7⟩:=hs1
    obtain⟨lp,yp,ep,hlp,hldp,hmem⟩:=port_at hc (i:=(c.link t).src.toNat) (by omega)
    rw[show (((c.link t).src.toNat:Nat):Int)=(c.link t).src by omega] at hldp hmem
    obtain⟨hq1,hq2,hq3⟩:=hpt.2 _ hmem
    obtain⟨lq,yq,eq,hlq,hldq,-⟩:=part_at hc (i:=(c.port (c.link t).src).part.toNat) (by omega)
    rw[show (((c.port (c.link t).src).part.toNat:Nat):Int)=(c.port (c.link t).src).part by omega] at hldq
    have hz:=hq1.2.2
    exact⟨la,y,ad,cd,od,lp,yp,lq,yq,ea,ep,eq,hla,hlp,hlq,hld,hldp,ld_of_ldn3 hldq,hs6,by omega,hq2,by omega,hs4,by omega,hz.1,hz.2.1⟩
   obtain⟨la,y,ad,cd,od,lp,yp,lq,yq,ea,ep,eq,hla,hlp,hlq,hld,hldp,hldq,t1,t2,t3,t4,t5,t6,t7,t8⟩:=hone j (by omega)
   obtain⟨la',y',ad',cd',od',lp',yp',lq',yq',ea',ep',eq',-,-,-,hld',hldp',hldq',u1,u2,u3,u4,u5,u6,u7,u8⟩:=hone k (by omega)
   rw[ea] at ea'
   rw[ep] at ep'
   rw[eq] at eq'
   cases ea'
   cases ep'
   cases eq'
   clear hone
   have hnp:¬c.apartL j k→¬c.okLinks:=fun h h'=>h (h'.2.2.2 j k hjk (fin0 _ fun _ hn _ _ _ _=>by omega))
   have hap:c.apartL j k↔¬((c.part (c.port (c.link j).src).part).node=(c.part (c.port (c.link k).src).part).node∧
     Cfg.meets (c.link j).off ((c.link j).off+1+(c.port (c.link j).src).size) (c.link k).off ((c.link k).off+1+(c.port (c.link k).src).size)):=Iff.rfl
   have hnext:c.apartL j k→(∀p∈d,c.apartL p.1 p.2)→∀p∈d++[(j,k)],c.apartL p.1 p.2:=fun h h' p hp=>by
    rcases List.mem_append.1 hp with hp|hp
    ·exact h' p hp
    ·obtain rfl:p=(j,k):=by simpa using hp
     exact h
   clear hd
   generalize c.apartL j k=P at *
   generalize (c.link j).dests.length=nj at *
   generalize (c.link k).dests.length=nk at *
   generalize (c.part (c.port (c.link j).src).part).node=dj at *
   generalize (c.part (c.port (c.link k).src).part).node=dk at *
   generalize c.port (c.link j).src=pj at *
   generalize c.port (c.link k).src=pk at *
   generalize (c.link j).src=sj at *
   generalize (c.link k).src=sk at *
   generalize (c.link j).off=oj at *
   generalize (c.link k).off=ok at *
   obtain⟨pj1,pj2,pj3,pj4,pj5,pj6⟩:=pj
   obtain⟨pk1,pk2,pk3,pk4,pk5,pk6⟩:=pk
   dsimp only [Pt.cells] at *
   have fin2:=zhd3 hnp hnext hap
   clear hnp hnext hap
   repeat (with_reducible first|(first|refine pI1 ?_|refine pS1 ?_);intros|refine pA1 ?_|refine pX1 ?_|refine pB1 ?_|exact True.intro)
   refine⟨rfl,rfl,rfl,?_⟩
   rintro H7 ⟨w1,w2,w3,w4⟩ hll l7
   have fw:=zhd2 w1 w2
   rw[←w3 la (by omega)] at hld hld'
   rw[←w3 lp (by omega)] at hldp hldp'
   rw[←w3 lq (by omega)] at hldq hldq'
   rw[k14,ea,ep,eq] at w1
   rw[k24] at w2
   have fin3:=zhd2 w3 w4
   have v1:sj.toNat<m:=by omega
   have v2:sk.toNat<m:=by omega
   have v3:pj1.toNat<np:=by omega
   have v4:pk1.toNat<np:=by omega
   clear w3 w4 k14 k24 ea ep eq
   unfold bXg_31
   have hmt:∀Hx,WC F fXh [.c (.int .i64 oj),.c (.int .i64 (oj+1+pj4)),.c (.int .i64 ok),.c (.int .i64 (ok+1+pk4))] Hx fun v H'=>v=.c (.bool (dB (Cfg.meets oj (oj+1+pj4) ok (ok+1+pk4))))∧H'=Hx:=fun Hx=>s_meet
   have fm:=zhd1 hmt
   clear hmt
   by_cases hne:dj=dk
   case neg=>
    have hP:P:=fin2 _ fun _ _ hap=>hap.2 fun h=>hne h.1
    repeat (with_reducible first|(first|refine pI1 ?_|refine pS1 ?_);intros|refine pA1 ?_|refine pX1 ?_|refine pB1 ?_|exact True.intro)
    rename_i c1 G1 _ _ z1 c2 G2 _ _ z2 G3 _ _ z3 G4 _ _ z4 c5 G5 _ _ z5 c6 G6 _ _ z6 G7 _ _ z7 G8 _ _ z8
    have z:∀b,b<H7.length→G8[b]?=H7[b]?:=fun b hb=>by rw[z8 b (by omega),z7 b (by omega),z6 b (by omega),z5 b (by omega),z4 b (by omega),z3 b (by omega),z2 b (by omega),z1 b (by omega)]
    exact turnQ_n (by omega) (z _ (by omega)) (fun b hb=>z b hb.1) ⟨(z b1 (by omega)).trans (fw _ fun w _=>w),(z b2 (by omega)).trans (fw _ fun _ w=>w),fun b hb=>(z b (by omega)).trans (fin3 _ fun w3 _=>w3 b hb),fin3 _ fun _ w4=>fin2 _ fun _ hnext _=>hnext hP w4⟩
   subst hne
   repeat (with_reducible first|(first|refine pI1 ?_|refine pS1 ?_);intros|refine pA1 ?_|refine pX1 ?_|refine pB1 ?_|exact True.intro)
   rename_i c1 G1 _ _ z1 c2 G2 _ _ z2 G3 _ _ z3 G4 _ _ z4 c5 G5 _ _ z5 c6 G6 _ _ z6 G7 _ _ z7 G8 _ g8 z8
   have z:∀b,b<H7.length→G8[b]?=H7[b]?:=fun b hb=>by rw[z8 b (by omega),z7 b (by omega),z6 b (by omega),z5 b (by omega),z4 b (by omega),z3 b (by omega),z2 b (by omega),z1 b (by omega)]
   have hlen:H7.length+4≤G8.length:=by omega
   have fz:=zhd1 z
   have w2':=(z b2 (by omega)).trans w2
   clear z z1 z2 z3 z4 z5 z6 z7 z8 g8
   refine outM_call (fm _ fun h=>h G8) ?_
   rintro _ G8 ⟨rfl,rfl⟩
   by_cases hm:Cfg.meets oj (oj+1+pj4) ok (ok+1+pk4)
   ·have hP:¬P:=fun h=>fin2 _ fun _ _ hap=>hap.1 h ⟨rfl,hm⟩
    rw[dB_t hm]
    repeat (with_reducible first|(first|refine pI1 ?_|refine pS1 ?_);intros|refine pA1 ?_|refine pX1 ?_|refine pB1 ?_|exact True.intro)
    rename_i H12 l12 g12 x12
    refine fz _ fun z=>?_
    exact turnQ_r (by omega) (by rw[x12 _ (by omega)];exact z _ (by omega)) (fun b hb=>by rw[x12 b hb.2.1];exact z b hb.1) ⟨rfl,g12,fun b hb=>by rw[x12 b (by omega),z b (by omega)];exact fin3 _ fun w3 _=>w3 b hb,fin2 _ fun hnp _ _=>hnp hP⟩
   ·have hP:P:=fin2 _ fun _ _ hap=>hap.2 fun h=>hm h.2
    rw[dB_f hm]
    repeat (with_reducible first|(first|refine pI1 ?_|refine pS1 ?_);intros|refine pA1 ?_|refine pX1 ?_|refine pB1 ?_|exact True.intro)
    refine fz _ fun z=>?_
    exact turnQ_n (by omega) (z _ (by omega)) (fun b hb=>z b hb.1) ⟨(z b1 (by omega)).trans (fw _ fun w _=>w),(z b2 (by omega)).trans (fw _ fun _ w=>w),fun b hb=>(z b (by omega)).trans (fin3 _ fun w3 _=>w3 b hb),fin3 _ fun _ w4=>fin2 _ fun _ hnext _=>hnext hP w4⟩
  ·rintro H7 ⟨w1,w2,w3,w4⟩ hd l7
   rw[k14] at w1
   rw[k24] at w2
   have fin3:=zhd2 w3 w4
   clear w3 w4 k14 k24
   repeat (with_reducible first|(first|refine pI1 ?_|refine pS1 ?_);intros|refine pA1 ?_|refine pX1 ?_|refine pB1 ?_|exact True.intro)
   rename_i H8 l8 g8 x8
   have hd8:H8[H4.length]?=some .defd:=by rw[x8 _ (by omega)];exact hd
   have fy8:∀b,b<H.length→H8[b]?=H[b]?:=fun b hb=>by rw[x8 b (by omega)];exact fin3 _ fun w3 _=>w3 b hb
   have fy8:=zhd1 fy8
   clear x8
   refine callQ_1 hd8 fun H9 l9 x9=>?_
   have g9:H9[b2]?=_:=(x9 b2 (by omega)).trans g8
   have y9:∀b,b<H.length→H9[b]?=H[b]?:=fun b hb=>(x9 b (by omega)).trans (fy8 _ fun y8=>y8 b hb)
   have fy9:=zhd1 y9
   clear x9 g8 y9
   repeat (with_reducible first|(first|refine pI1 ?_|refine pS1 ?_);intros|refine pA1 ?_|refine pX1 ?_|refine pB1 ?_|exact True.intro)
   have hT:c.okLinks:=by
    refine fin0 _ fun _ hn _ _ _ _=>fyk _ fun _ hlk=>⟨by omega,fun l hl=>?_,hlk.2,fun j k h1 h2=>fin3 _ fun _ w4=>w4 (j,k) (rest_mem h1 (by omega))⟩
    obtain⟨t,ht,rfl⟩:=List.mem_iff_getElem.1 hl
    have e:c.link t=c.links[t]:=by simp[Cfg.link,ht]
    rw[←e];exact hlk.1 t (by omega)
   exact⟨by rw[dB_t hT],by omega,fy9 _ fun h=>h⟩
  ·rintro e H7 ⟨rfl,w2,w3,w4⟩ hd l7
   have fin3:=zhd2 w3 w4
   clear w3 w4 k14 k24
   repeat (with_reducible first|(first|refine pI1 ?_|refine pS1 ?_);intros|refine pA1 ?_|refine pX1 ?_|refine pB1 ?_|exact True.intro)
   refine callQ_1 hd fun H9 l9 x9=>?_
   have g9:H9[b2]?=_:=(x9 b2 (by omega)).trans w2
   have y9:∀b,b<H.length→H9[b]?=H[b]?:=fun b hb=>(x9 b (by omega)).trans (fin3 _ fun w3 _=>w3 b hb)
   have fy9:=zhd1 y9
   clear x9 w2 y9
   repeat (with_reducible first|(first|refine pI1 ?_|refine pS1 ?_);intros|refine pA1 ?_|refine pX1 ?_|refine pB1 ?_|exact True.intro)
   exact⟨by rw[dB_f (fin3 _ fun _ w4=>w4)],by omega,fy9 _ fun h=>h⟩
end Go.Proofs.YtjcgdcadflplcaaDoor.AM.D21
namespace Go.Proofs.YtjcgdcadflplcaaDoor.AM.D21
open Go Go.Proofs.YtjcgdcadflplcaaDoor.AM Go.Proofs.YtjcgdcadflplcaaDoor.AM.C02
set_option maxHeartbeats 2000000
set_option maxRecDepth 100000
attribute [local go_sem] tn_add1 tn_sub1 put_all' nums_len sub12
def okE (c:Cfg) (e:Int):Prop:=if e=21 then c.okNodes else if e=22 then c.okClock else if e=23 then c.okParts else if e=24 then c.okWins else if e=25 then c.okPorts else c.okLinks
def okA (c:Cfg) (e:Int):Prop:=∀d,21≤d→d<e→okE c d
theorem s_fine {N:Nat} {H:Heap} {c:Cfg} {h:Hd} {e:Int} (he:21≤e∧e≤26) (ha:okA c e) (hc:CfgM N H c h) (hN:N≤H.length):WC F fXf [.c (.int .i64 e),.agg (c.cells h)] H fun v H'=>v=.c (.bool (dB (okE c e)))∧Xt H H':=by
 refine WC_start eXf (by simp) ?_
 unfold cXf
 obtain⟨C,hC⟩:∃C,C=c.cells h:=⟨_,rfl⟩
 have hsub:sub C 0 12=some C:=by rw[hC];rfl
 rw[←hC]
 have a1:21<e→c.okNodes:=fun h=>by have:=ha 21 (by omega) h;unfold okE at this;rwa [if_pos rfl] at this
 have a3:23<e→c.okParts:=fun h=>by have:=ha 23 (by omega) h;unfold okE at this;rwa [if_neg (by omega),if_neg (by omega),if_pos rfl] at this
 have a5:25<e→c.okPorts:=fun h=>by have:=ha 25 (by omega) h;unfold okE at this;rwa [if_neg (by omega),if_neg (by omega),if_neg (by omega),if_neg (by omega),if_pos rfl] at this
 have fin0:=zhd5 a1 a3 a5 hc hC
 have hcases:e=21∨e=22∨e=23∨e=24∨e=25∨e=26:=by omega
 clear a1 a3 a5 hc ha he hC
 repeat (with_reducible first|(first|refine pI1 ?_|refine pS1 ?_);intros|refine pA1 ?_|refine pX1 ?_|refine pB1 ?_|exact True.intro)
 rename_i b1 H1 p1 g1 x1
 have hk:∀b,b<N→H1[b]?=H[b]?:=fun b hb=>x1 b (by omega)
 have fk:=zhd2 hk x1
 clear hk x1
 rcases hcases with rfl|rfl|rfl|rfl|rfl|rfl
 ·repeat (with_reducible first|(first|refine pI1 ?_|refine pS1 ?_);intros|refine pA1 ?_|refine pX1 ?_|refine pB1 ?_|exact True.intro)
  refine fin0 _ fun a1 a3 a5 hc hC=>fk _ fun hk x1=>?_
  subst hC
  refine outM_call (s_cnodes (hc.keep (H':=H1) hk) (by omega)) ?_
  rintro _ H2 ⟨rfl,l2,x2⟩
  have fe:okE c 21=c.okNodes:=by unfold okE;rw[if_pos rfl]
  rw[fe]
  clear hc hk a1 a3 a5 fin0 fk
  repeat (with_reducible first|(first|refine pI1 ?_|refine pS1 ?_);intros|refine pA1 ?_|refine pX1 ?_|refine pB1 ?_|exact True.intro)
  exact⟨rfl,by omega,fun b hb=>by rw[x2 b (by omega),x1 b (by omega)]⟩
 ·repeat (with_reducible first|(first|refine pI1 ?_|refine pS1 ?_);intros|refine pA1 ?_|refine pX1 ?_|refine pB1 ?_|exact True.intro)
  refine fin0 _ fun a1 a3 a5 hc hC=>fk _ fun hk x1=>?_
  subst hC
  refine outM_call (s_cclocks (c:=c) (h:=h)) ?_
  rintro _ H2 ⟨rfl,l2,x2⟩
  have fe:okE c 22=c.okClock:=by unfold okE;rw[if_neg (by omega),if_pos rfl]
  rw[fe]
  clear hc hk a1 a3 a5 fin0 fk
  repeat (with_reducible first|(first|refine pI1 ?_|refine pS1 ?_);intros|refine pA1 ?_|refine pX1 ?_|refine pB1 ?_|exact True.intro)
  exact⟨rfl,by omega,fun b hb=>by rw[x2 b (by omega),x1 b (by omega)]⟩
 ·repeat (with_reducible first|(first|refine pI1 ?_|refine pS1 ?_);intros|refine pA1 ?_|refine pX1 ?_|refine pB1 ?_|exact True.intro)
  refine fin0 _ fun a1 a3 a5 hc hC=>fk _ fun hk x1=>?_
  subst hC
  have hn:=a1 (by omega)
  refine outM_call (s_cparts (hc.keep (H':=H1) hk) (by omega) ⟨hn.1,hn.2.1⟩) ?_
  rintro _ H2 ⟨rfl,l2,x2⟩
  have fe:okE c 23=c.okParts:=by unfold okE;rw[if_neg (by omega),if_neg (by omega),if_pos rfl]
  rw[fe]
  clear hc hk a1 a3 a5 fin0 fk hn
  repeat (with_reducible first|(first|refine pI1 ?_|refine pS1 ?_);intros|refine pA1 ?_|refine pX1 ?_|refine pB1 ?_|exact True.intro)
  exact⟨rfl,by omega,fun b hb=>by rw[x2 b (by omega),x1 b (by omega)]⟩
 ·repeat (with_reducible first|(first|refine pI1 ?_|refine pS1 ?_);intros|refine pA1 ?_|refine pX1 ?_|refine pB1 ?_|exact True.intro)
  refine fin0 _ fun a1 a3 a5 hc hC=>fk _ fun hk x1=>?_
  subst hC
  have hn:=a1 (by omega)
  refine outM_call (s_cwins (hc.keep (H':=H1) hk) (by omega) ⟨hn.1,hn.2.1⟩ (a3 (by omega)).1) ?_
  rintro _ H2 ⟨rfl,l2,x2⟩
  have fe:okE c 24=c.okWins:=by unfold okE;rw[if_neg (by omega),if_neg (by omega),if_neg (by omega),if_pos rfl]
  rw[fe]
  clear hc hk a1 a3 a5 fin0 fk hn
  repeat (with_reducible first|(first|refine pI1 ?_|refine pS1 ?_);intros|refine pA1 ?_|refine pX1 ?_|refine pB1 ?_|exact True.intro)
  exact⟨rfl,by omega,fun b hb=>by rw[x2 b (by omega),x1 b (by omega)]⟩
 ·repeat (with_reducible first|(first|refine pI1 ?_|refine pS1 ?_);intros|refine pA1 ?_|refine pX1 ?_|refine pB1 ?_|exact True.intro)
  refine fin0 _ fun a1 a3 a5 hc hC=>fk _ fun hk x1=>?_
  subst hC
  refine outM_call (s_cports (hc.keep (H':=H1) hk) (by omega) (a3 (by omega)).1) ?_
  rintro _ H2 ⟨rfl,l2,x2⟩
  have fe:okE c 25=c.okPorts:=by unfold okE;rw[if_neg (by omega),if_neg (by omega),if_neg (by omega),if_neg (by omega),if_pos rfl]
  rw[fe]
  clear hc hk a1 a3 a5 fin0 fk
  repeat (with_reducible first|(first|refine pI1 ?_|refine pS1 ?_);intros|refine pA1 ?_|refine pX1 ?_|refine pB1 ?_|exact True.intro)
  exact⟨rfl,by omega,fun b hb=>by rw[x2 b (by omega),x1 b (by omega)]⟩
 ·repeat (with_reducible first|(first|refine pI1 ?_|refine pS1 ?_);intros|refine pA1 ?_|refine pX1 ?_|refine pB1 ?_|exact True.intro)
  refine fin0 _ fun a1 a3 a5 hc hC=>fk _ fun hk x1=>?_
  subst hC
  refine outM_call (s_clinks (hc.keep (H':=H1) hk) (by omega) (a3 (by omega)) (a5 (by omega))) ?_
  rintro _ H2 ⟨rfl,l2,x2⟩
  have fe:okE c 26=c.okLinks:=by unfold okE;rw[if_neg (by omega),if_neg (by omega),if_neg (by omega),if_neg (by omega),if_neg (by omega)]
  rw[fe]
  clear hc hk a1 a3 a5 fin0 fk
  repeat (with_reducible first|(first|refine pI1 ?_|refine pS1 ?_);intros|refine pA1 ?_|refine pX1 ?_|refine pB1 ?_|exact True.intro)
  exact⟨rfl,by omega,fun b hb=>by rw[x2 b (by omega),x1 b (by omega)]⟩
theorem check_is {c:Cfg} {e:Int} (he:21≤e∧e≤26) (ha:okA c e) (h:¬okE c e):c.check=e:=by
 have k:∀d,21≤d→d<e→okE c d:=ha
 have h1:21<e→dB c.okNodes=true:=fun h=>dB_t (by have:=k 21 (by omega) h;unfold okE at this;rwa [if_pos rfl] at this)
 have h2:22<e→dB c.okClock=true:=fun h=>dB_t (by have:=k 22 (by omega) h;unfold okE at this;rwa [if_neg (by omega),if_pos rfl] at this)
 have h3:23<e→dB c.okParts=true:=fun h=>dB_t (by have:=k 23 (by omega) h;unfold okE at this;rwa [if_neg (by omega),if_neg (by omega),if_pos rfl] at this)
 have h4:24<e→dB c.okWins=true:=fun h=>dB_t (by have:=k 24 (by omega) h;unfold okE at this;rwa [if_neg (by omega),if_neg (by omega),if_neg (by omega),if_pos rfl] at this)
 have h5:25<e→dB c.okPorts=true:=fun h=>dB_t (by have:=k 25 (by omega) h;unfold okE at this;rwa [if_neg (by omega),if_neg (by omega),if_neg (by omega),if_neg (by omega),if_pos rfl] at this)
 have hcases:e=21∨e=22∨e=23∨e=24∨e=25∨e=26:=by omega
 unfold okE at h
 unfold Cfg.check
 rcases hcases with rfl|rfl|rfl|rfl|rfl|rfl
 ·rw[if_pos rfl] at h;rw[dB_f h];rfl
 ·rw[if_neg (by omega),if_pos rfl] at h;rw[dB_f h,h1 (by omega)];rfl
 ·rw[if_neg (by omega),if_neg (by omega),if_pos rfl] at h;rw[dB_f h,h1 (by omega),h2 (by omega)];rfl
 ·rw[if_neg (by omega),if_neg (by omega),if_neg (by omega),if_pos rfl] at h;rw[dB_f h,h1 (by omega),h2 (by omega),h3 (by omega)];rfl
 ·rw[if_neg (by omega),if_neg (by omega),if_neg (by omega),if_neg (by omega),if_pos rfl] at h;rw[dB_f h,h1 (by omega),h2 (by omega),h3 (by omega),h4 (by omega)];rfl
 ·rw[if_neg (by omega),if_neg (by omega),if_neg (by omega),if_neg (by omega),if_neg (by omega)] at h;rw[dB_f h,h1 (by omega),h2 (by omega),h3 (by omega),h4 (by omega),h5 (by omega)];rfl
theorem check_all {c:Cfg} (ha:okA c 27):c.check=0:=by
 have k:∀d,21≤d→d<27→okE c d:=ha
 refine Cfg.check_ok.2 ⟨?_,?_,?_,?_,?_,?_⟩
 ·have:=k 21 (by omega) (by omega);unfold okE at this;rwa [if_pos rfl] at this
 ·have:=k 22 (by omega) (by omega);unfold okE at this;rwa [if_neg (by omega),if_pos rfl] at this
 ·have:=k 23 (by omega) (by omega);unfold okE at this;rwa [if_neg (by omega),if_neg (by omega),if_pos rfl] at this
 ·have:=k 24 (by omega) (by omega);unfold okE at this;rwa [if_neg (by omega),if_neg (by omega),if_neg (by omega),if_pos rfl] at this
 ·have:=k 25 (by omega) (by omega);unfold okE at this;rwa [if_neg (by omega),if_neg (by omega),if_neg (by omega),if_neg (by omega),if_pos rfl] at this
 ·have:=k 26 (by omega) (by omega);unfold okE at this;rwa [if_neg (by omega),if_neg (by omega),if_neg (by omega),if_neg (by omega),if_neg (by omega)] at this
theorem s_Check {N:Nat} {H:Heap} {c:Cfg} {h:Hd} (hc:CfgM N H c h) (hN:N≤H.length):WC F fXb [.agg (c.cells h)] H fun v H'=>v=.c (.int .i64 c.check)∧Xt H H':=by
 refine WC_start eXb (by simp) ?_
 unfold cXb
 obtain⟨C,hC⟩:∃C,C=c.cells h:=⟨_,rfl⟩
 have hsub:sub C 0 12=some C:=by rw[hC];rfl
 rw[←hC]
 have fin0:=zhd2 hc hC
 clear hc hC
 repeat (with_reducible first|(first|refine pI1 ?_|refine pS1 ?_);intros|refine pA1 ?_|refine pX1 ?_|refine pB1 ?_|exact True.intro)
 rename_i b1 H1 p1 g1 x1
 refine W_loop (fun m st=>∃ρ,∃k:Nat,∃Hk,st=⟨L 13 ρ,[],Hk⟩∧m=6-k∧k≤6∧ρ 1=.c (.ptr (some (b1,0)))∧ρ 3=.c (.int .i64 (21+k:Int))∧okA c (21+k)∧Xt H1 Hk) 6 ⟨_,0,H1,rfl,rfl,by omega,zf,zf,fun d h1 h2=>by omega,Nat.le_refl _,fun _ _=>rfl⟩ ?_
 rintro m st ⟨ρ,k,Hk,rfl,rfl,hk,e1,e3,ha,lk,xk⟩
 unfold bXb_6
 have k1:Hk[b1]?=_:=(xk b1 (by omega)).trans g1
 have yk:∀b,b<H.length→Hk[b]?=H[b]?:=fun b hb=>by rw[xk b (by omega),x1 b (by omega)]
 have fy:=zhd3 yk xk ha
 clear yk xk ha x1
 by_cases h6:(21+k:Int)≤26
 ·repeat (with_reducible first|(first|refine pI1 ?_|refine pS1 ?_);intros|refine pA1 ?_|refine pX1 ?_|refine pB1 ?_|exact True.intro)
  refine fin0 _ fun hc hC=>fy _ fun yk xk ha=>?_
  subst hC
  refine outM_call (s_fine (e:=21+k) (by omega) ha (hc.keep (H':=Hk) fun b hb=>yk b (by omega)) (by omega)) ?_
  rintro _ H2 ⟨rfl,l2,x2⟩
  have fz:=zhd1 x2
  clear hc yk xk ha x2
  by_cases hok:okE c (21+k)
  ·rw[dB_t hok]
   repeat (with_reducible first|(first|refine pI1 ?_|refine pS1 ?_);intros|refine pA1 ?_|refine pX1 ?_|refine pB1 ?_|exact True.intro)
   exact loopQ_n (6-(k+1)) (by omega) ⟨_,k+1,H2,rfl,rfl,by omega,zf,by rw[show (21+((k+1:Nat):Int))=21+(k:Int)+1 by omega];simp (disch:=first|with_reducible assumption|omega) only [go_sem, *,reduceCtorEq,↓reduceIte,Nat.reduceLT,Nat.reduceBEq,Nat.reduceAdd,Nat.reduceSub,Nat.reduceMul,Nat.reduceDiv,Nat.reduceMod,Nat.reducePow,Nat.reduceEqDiff,Nat.reduceLeDiff,Int.reduceLT,Int.reduceLE,Int.reduceNeg,Int.reduceToNat,Int.reduceAdd,Int.reduceSub,Int.reduceMul,Int.reduceEq,Int.reduceNe,Int.reduceBEq,Int.reduceBNe,Int.reducePow];first|done|rfl,fun d h1 h2=>by
    by_cases e:d=21+k
    ·subst e;exact hok
    ·exact fy _ fun _ _ ha=>ha d h1 (by omega),by omega,fun b hb=>by rw[fz _ fun x2=>x2 b (by omega)];exact fy _ fun _ xk _=>xk b hb⟩
  ·rw[dB_f hok]
   repeat (with_reducible first|(first|refine pI1 ?_|refine pS1 ?_);intros|refine pA1 ?_|refine pX1 ?_|refine pB1 ?_|exact True.intro)
   exact⟨by rw[check_is (by omega) (fy _ fun _ _ ha=>ha) hok],by omega,fun b hb=>by rw[fz _ fun x2=>x2 b (by omega)];exact fy _ fun yk _ _=>yk b hb⟩
 ·obtain rfl:k=6:=by omega
  repeat (with_reducible first|(first|refine pI1 ?_|refine pS1 ?_);intros|refine pA1 ?_|refine pX1 ?_|refine pB1 ?_|exact True.intro)
  exact⟨by rw[check_all (fy _ fun _ _ ha=>ha)],by omega,fy _ fun yk _ _=>yk⟩
end Go.Proofs.YtjcgdcadflplcaaDoor.AM.D21
namespace Go.Proofs.YtjcgdcadflplcaaDoor.AM.D21
open Go Go.Proofs.YtjcgdcadflplcaaDoor.AM Go.Proofs.YtjcgdcadflplcaaDoor.AM.C02
set_option maxHeartbeats 2000000
set_option maxRecDepth 100000
attribute [local go_sem] tn_add1 tn_sub1 put_all' nums_len sub12 sub3 sub6
section
variable {N:Nat} {H:Heap} {c:Cfg} {h:Hd}
end
end Go.Proofs.YtjcgdcadflplcaaDoor.AM.D21
namespace Go.Proofs.YtjcgdcadflplcaaDoor.AM.D21
open Go Go.Proofs.YtjcgdcadflplcaaDoor.AM Go.Proofs.YtjcgdcadflplcaaDoor.AM.C02
set_option maxHeartbeats 2000000
set_option maxRecDepth 100000
attribute [local go_sem] tn_add1 tn_sub1 put_all' nums_len sub12 sub3 sub6
section
variable {N:Nat} {H:Heap} {c:Cfg} {h:Hd}
end
end Go.Proofs.YtjcgdcadflplcaaDoor.AM.D21
namespace Go.Proofs.YtjcgdcadflplcaaDoor.AM.D21
open Go Go.Proofs.YtjcgdcadflplcaaDoor.AM Go.Proofs.YtjcgdcadflplcaaDoor.AM.C02
set_option maxHeartbeats 2000000
set_option maxRecDepth 100000
attribute [local go_sem] tn_add1 tn_sub1 put_all' nums_len sub12 sub3 sub6
section
variable {N:Nat} {H:Heap} {c:Cfg} {h:Hd}
end
end Go.Proofs.YtjcgdcadflplcaaDoor.AM.D21
namespace Go.Proofs.YtjcgdcadflplcaaDoor.AM.D21
open Go Go.Proofs.YtjcgdcadflplcaaDoor.AM Go.Proofs.YtjcgdcadflplcaaDoor.AM.C02
set_option maxHeartbeats 2000000
set_option maxRecDepth 100000
attribute [local go_sem] tn_add1 tn_sub1 put_all' nums_len sub12 sub3 sub6
section
variable {N:Nat} {H:Heap} {c:Cfg} {h:Hd}
end
end Go.Proofs.YtjcgdcadflplcaaDoor.AM.D21
namespace Go.Proofs.YtjcgdcadflplcaaDoor.AM.D21
open Go Go.Proofs.YtjcgdcadflplcaaDoor.AM Go.Proofs.YtjcgdcadflplcaaDoor.AM.C02
set_option maxHeartbeats 2000000
set_option maxRecDepth 100000
attribute [local go_sem] tn_add1 tn_sub1 put_all' nums_len sub12 sub3 sub6
section
variable {N:Nat} {H:Heap} {c:Cfg} {h:Hd}
end
end Go.Proofs.YtjcgdcadflplcaaDoor.AM.D21
namespace Go.Proofs.YtjcgdcadflplcaaDoor.AM.D21
open Go Go.Proofs.YtjcgdcadflplcaaDoor.AM Go.Proofs.YtjcgdcadflplcaaDoor.AM.C02
set_option maxHeartbeats 2000000
set_option maxRecDepth 100000
attribute [local go_sem] tn_add1 tn_sub1 put_all' nums_len sub12 sub3 sub6 rep6
section
variable {N:Nat} {H:Heap} {c:Cfg} {h:Hd}
end
end Go.Proofs.YtjcgdcadflplcaaDoor.AM.D21
namespace Go.Proofs.YtjcgdcadflplcaaDoor.AM.D21
open Go Go.Proofs.YtjcgdcadflplcaaDoor.AM Go.Proofs.YtjcgdcadflplcaaDoor.AM.C02
set_option maxHeartbeats 2000000
set_option maxRecDepth 100000
attribute [local go_sem] tn_add1 tn_sub1 put_all' nums_len sub12 sub3 sub6 rep6
section
variable {N:Nat} {H:Heap} {c:Cfg} {h:Hd}
end
end Go.Proofs.YtjcgdcadflplcaaDoor.AM.D21
namespace Go.Proofs.YtjcgdcadflplcaaDoor.AM.D21
open Go Go.Proofs.YtjcgdcadflplcaaDoor.AM Go.Proofs.YtjcgdcadflplcaaDoor.AM.C02
set_option maxHeartbeats 2000000
set_option maxRecDepth 100000
attribute [local go_sem] tn_add1 tn_sub1 put_all' nums_len sub12 sub3 sub6 rep6
section
variable {N:Nat} {H:Heap} {c:Cfg} {h:Hd}
end
end Go.Proofs.YtjcgdcadflplcaaDoor.AM.D21
namespace Go.Proofs.YtjcgdcadflplcaaDoor.AM.D21
open Go Go.Proofs.YtjcgdcadflplcaaDoor.AM Go.Proofs.YtjcgdcadflplcaaDoor.AM.C02
set_option maxHeartbeats 2000000
set_option maxRecDepth 100000
attribute [local go_sem] tn_add1 tn_sub1 put_all' nums_len sub12
structure Few (c:Cfg):Prop where
 owners:c.owners.length≤10000000
 ports:c.ports.length≤10000000
 dests:∀l∈c.links,l.dests.length≤1048576
section
variable {N:Nat} {H:Heap} {c:Cfg} {h:Hd}
end
theorem lk_rowW {H:Heap} {x:Lk.T.D} {cs:List Cell} (h:Vw Lk.T H x cs):∃e,LkR H.length H e cs∧e.dests.length≤wt Lk.T x:=by
 obtain⟨_,_,rfl,⟨rfl,w1⟩,_,_,rfl,h3,_,_,rfl,⟨rfl,w2⟩,rfl⟩:=h
 obtain⟨a,c,rfl,h1,h2,h3,h4⟩:=Vw.nums h3
 refine⟨⟨x.1,x.2.1,x.2.2.1⟩,⟨a,c,false,rfl,h3,fun b x e=>h3.lt e,h4,h1,h2,wf_i64 w1,wf_i64 w2⟩,?_⟩
 show List.length (α:=Int) x.2.1≤1+(1+(List.map (fun d=>wt I d) x.2.1).sum+(1+0))
 have:(List.map (fun d=>wt I d) x.2.1).sum=List.length (α:=Int) x.2.1:=by
  generalize x.2.1=l
  show (List.map (fun _:Int=>1) l).sum=_
  have hs:∀l:List Int,(List.map (fun _:Int=>1) l).sum=l.length:=fun l=>by
   induction l with
   |nil=>rfl
   |cons y l ih=>simp only[List.map_cons,List.sum_cons,ih,List.length_cons];omega
  exact hs l
 omega
theorem len1 {α:Type} (l:List α):(l.map fun _=>1).sum=l.length:=by
 induction l with
 |nil=>rfl
 |cons x l ih=>simp only[List.map_cons,List.sum_cons,ih,List.length_cons];omega
end Go.Proofs.YtjcgdcadflplcaaDoor.AM.D21
namespace Go.Proofs.YtjcgdcadflplcaaDoor.AM.D21
open Go Go.Proofs.YtjcgdcadflplcaaDoor.AM Go.Proofs.YtjcgdcadflplcaaDoor.AM.C02
set_option maxHeartbeats 2000000
set_option maxRecDepth 100000
attribute [local go_sem] tn_add1 tn_sub1 put_all' nums_len
structure TwinOk (c:Cfg):Prop where
 owners:c.owners.length≤2000000
 parts:c.parts.length≤2000000
 wins:c.wins.length≤2000000
 ports:c.ports.length≤2000000
 links:c.links.length≤2000000
 rows:∀r∈c.wins,r.length≤2000000
 dests:∀l∈c.links,l.dests.length≤2000000
def twC (c:Cfg) (s1 s8 s9 s10 s11:Cell):List Cell:=[.int .i64 c.nodes,s1,.int .i64 c.drift,.int .i64 c.reading,.int .i64 c.margin,.int .i64 c.bound,.int .i64 c.rejoin,.int .i64 c.quota,s8,s9,s10,s11]
theorem sub3z (a b c:Cell):sub [a,b,c] 0 3=some [a,b,c]:=rfl
attribute [local go_sem] sub3z
attribute [local go_sem] twC
theorem win_at2 {N:Nat} {H:Heap} {c:Cfg} {h:Hd} (hc:CfgM N H c h) {i:Nat} (hi:i<c.wins.length):∃la y a cc o,h.a9=some (la,y)∧la<N∧ldB H[la]? (y+i)=some (.sl a c.wins[i].length cc o)∧Sl H 1 a c.wins[i].length (nums c.wins[i])∧(∀b x,a=some (b,x)→b<N):=by
 obtain⟨⟨la,y⟩,cs,e1,e2,e3,a,cc,o,rfl,e4,e5,-⟩:=hc.wins.at hi
 exact⟨la,y,a,cc,o,e1,e2,ldB_of_ldnB (by rw[Nat.mul_one] at e3;exact e3),e4,e5⟩
theorem lnk_at2 {N:Nat} {H:Heap} {c:Cfg} {h:Hd} (hc:CfgM N H c h) {i:Nat} (hi:i<c.links.length):∃la y a cc o,h.a11=some (la,y)∧la<N∧ldnB H[la]? (y+i * 3) 3=some [.int .i64 c.links[i].src,.sl a c.links[i].dests.length cc o,.int .i64 c.links[i].off]∧Sl H 1 a c.links[i].dests.length (nums c.links[i].dests)∧(∀b x,a=some (b,x)→b<N):=by
 obtain⟨⟨la,y⟩,cs,e1,e2,e3,a,cc,o,rfl,e4,e5,-⟩:=hc.links.at hi
 exact⟨la,y,a,cc,o,e1,e2,e3,e4,e5⟩
end Go.Proofs.YtjcgdcadflplcaaDoor.AM.D21
namespace Go.Proofs.YtjcgdcadflplcaaDoor.AM.D21
open Go Go.Proofs.YtjcgdcadflplcaaDoor.AM Go.Proofs.YtjcgdcadflplcaaDoor.AM.C02
set_option maxHeartbeats 2000000
set_option maxRecDepth 100000
attribute [local go_sem] tn_add1 tn_sub1 put_all' nums_len twC sub3z
theorem ze12:(Cell.int .i64 0 :: Cell.sl none 0 0 false :: (List.replicate 6 (Cell.int .i64 0)++List.replicate 4 (Cell.sl none 0 0 false)))=[Cell.int .i64 0,.sl none 0 0 false,.int .i64 0,.int .i64 0,.int .i64 0,.int .i64 0,.int .i64 0,.int .i64 0,.sl none 0 0 false,.sl none 0 0 false,.sl none 0 0 false,.sl none 0 0 false]:=rfl
theorem sub12l (a b c d e f g h i j k l:Cell):sub [a,b,c,d,e,f,g,h,i,j,k,l] 0 12=some [a,b,c,d,e,f,g,h,i,j,k,l]:=rfl
attribute [local go_sem] sub12l
attribute [local go_sem 2000] ze12
theorem _root_.Go.Proofs.YtjcgdcadflplcaaDoor.AM.LLs.mono {α:Type} {sz lo lo' n:Nat} {mk:α→Option Ad→Bool→List Cell} {pay:α→List Int} {H:Heap} {a:Option Ad} {o:Bool} {ls:List α} (h:LLs sz mk pay lo H a n o ls) (hl:lo'≤lo):LLs sz mk pay lo' H a n o ls:=by
 obtain⟨h1,rows,h2,h3,h4,h5⟩:=h
 refine⟨h1,rows,h2.mono hl,h3,h4,fun j e he=>?_⟩
 obtain⟨a',o',k1,k2,k3⟩:=h5 j e he
 exact⟨a',o',k1,k2,fun b z ez=>⟨by have:=(k3 b z ez).1;omega,(k3 b z ez).2⟩⟩
end Go.Proofs.YtjcgdcadflplcaaDoor.AM.D21
namespace Go.Proofs.YtjcgdcadflplcaaDoor.AM.D21
open Go Go.Proofs.YtjcgdcadflplcaaDoor.AM Go.Proofs.YtjcgdcadflplcaaDoor.AM.C02
set_option maxHeartbeats 2000000
set_option maxRecDepth 100000
attribute [local go_sem] tn_add1 tn_sub1 put_all' nums_len
section
variable {N n1 n8 n9 n10 n11 b1:Nat} {H:Heap} {c:Cfg} {h:Hd} {ρ:Nat→V}
theorem great_wins {s0:Nat} (hc:CfgM N H c h) (ht:TwinOk c) (h9:c.wins.length=n9) (hs0:s0≤4000000) (e1:ρ 1=.c (.ptr (some (b1,0)))) (e3:ρ 3=.c (.int .i64 (s0:Nat)))
  (g1:H[b1]?=some (.cells [.int .i64 c.nodes,.sl h.a1 n1 h.c1 h.o1,.int .i64 c.drift,.int .i64 c.reading,.int .i64 c.margin,.int .i64 c.bound,.int .i64 c.rejoin,.int .i64 c.quota,.sl h.a8 n8 h.c8 h.o8,.sl h.a9 n9 h.c9 h.o9,.sl h.a10 n10 h.c10 h.o10,.sl h.a11 n11 h.c11 h.o11] false none)):
  W F none (.seq (.ops oX1c_2) (.block 0 (.loop bX1c_6))) ⟨L 72 ρ,[],H⟩ fun e st=>e=.normal∧∃ρ',∃s:Nat,st=⟨L 72 ρ',[],H⟩∧s≤204000000∧ρ' 1=.c (.ptr (some (b1,0)))∧ρ' 3=.c (.int .i64 (s:Nat)):=by
 have f0:=zhd3 hc ht h9
 clear hc ht h9
 repeat (with_reducible first|(first|refine pI1 ?_|refine pS1 ?_);intros|refine pA1 ?_|refine pX1 ?_|refine pB1 ?_|exact True.intro)
 refine W_loop (fun mm st=>∃ρ,∃i s:Nat,st=⟨L 72 ρ,[],H⟩∧mm=100-i∧i≤100∧s≤4000000+i * 2000000∧ρ 1=.c (.ptr (some (b1,0)))∧ρ 3=.c (.int .i64 (s:Nat))∧ρ 4=.c (.int .i64 (i:Nat))) 100 ⟨_,0,s0,rfl,rfl,by omega,by omega,zf,zf,zf⟩ ?_
 clear e1 e3
 rintro mm st ⟨ρ,i,s,rfl,rfl,hi,hs,e1,e3,e4⟩
 unfold bX1c_6
 by_cases hin:i<n9
 ·have hxt:(i:Int)<(n9:Int):=by omega
  by_cases h100:i<100
  ·have hxt2:(i:Int)<100:=by omega
   have hlt:i<c.wins.length:=f0 _ fun _ _ h=>by omega
   obtain⟨la,y,a,cc,o,ea,hla,hld,-,-⟩:=f0 _ fun hc _ _=>win_at2 hc hlt
   have hr:=f0 _ fun _ ht _=>ht.rows _ (List.getElem_mem hlt)
   generalize c.wins[i].length=rl at *
   rw[ea] at g1
   repeat (with_reducible first|(first|refine pI1 ?_|refine pS1 ?_);intros|refine pA1 ?_|refine pX1 ?_|refine pB1 ?_|exact True.intro)
   exact loopQ_n (100-(i+1)) (by omega) ⟨_,i+1,s+rl,rfl,rfl,by omega,by omega,zf,zf,zf⟩
  ·have hxt2:¬(i:Int)<100:=by omega
   repeat (with_reducible first|(first|refine pI1 ?_|refine pS1 ?_);intros|refine pA1 ?_|refine pX1 ?_|refine pB1 ?_|exact True.intro)
   exact⟨rfl,_,s,rfl,by omega,zf,zf⟩
 ·have hxt:¬(i:Int)<(n9:Int):=by omega
  repeat (with_reducible first|(first|refine pI1 ?_|refine pS1 ?_);intros|refine pA1 ?_|refine pX1 ?_|refine pB1 ?_|exact True.intro)
  exact⟨rfl,_,s,rfl,by omega,zf,zf⟩
theorem great_links {s0:Nat} (hc:CfgM N H c h) (ht:TwinOk c) (h11:c.links.length=n11) (hs0:s0≤204000000) (e1:ρ 1=.c (.ptr (some (b1,0)))) (e3:ρ 3=.c (.int .i64 (s0:Nat)))
  (g1:H[b1]?=some (.cells [.int .i64 c.nodes,.sl h.a1 n1 h.c1 h.o1,.int .i64 c.drift,.int .i64 c.reading,.int .i64 c.margin,.int .i64 c.bound,.int .i64 c.rejoin,.int .i64 c.quota,.sl h.a8 n8 h.c8 h.o8,.sl h.a9 n9 h.c9 h.o9,.sl h.a10 n10 h.c10 h.o10,.sl h.a11 n11 h.c11 h.o11] false none)):
  W F none (.seq (.ops oX1c_7) (.block 2 (.loop bX1c_11))) ⟨L 72 ρ,[],H⟩ fun e st=>e=.normal∧∃ρ',∃s:Nat,st=⟨L 72 ρ',[],H⟩∧s≤404000000∧ρ' 1=.c (.ptr (some (b1,0)))∧ρ' 3=.c (.int .i64 (s:Nat)):=by
 have f0:=zhd3 hc ht h11
 clear hc ht h11
 repeat (with_reducible first|(first|refine pI1 ?_|refine pS1 ?_);intros|refine pA1 ?_|refine pX1 ?_|refine pB1 ?_|exact True.intro)
 refine W_loop (fun mm st=>∃ρ,∃i s:Nat,st=⟨L 72 ρ,[],H⟩∧mm=100-i∧i≤100∧s≤204000000+i * 2000000∧ρ 1=.c (.ptr (some (b1,0)))∧ρ 3=.c (.int .i64 (s:Nat))∧ρ 5=.c (.int .i64 (i:Nat))) 100 ⟨_,0,s0,rfl,rfl,by omega,by omega,zf,zf,zf⟩ ?_
 clear e1 e3
 rintro mm st ⟨ρ,i,s,rfl,rfl,hi,hs,e1,e3,e5⟩
 unfold bX1c_11
 by_cases hin:i<n11
 ·have hxt:(i:Int)<(n11:Int):=by omega
  by_cases h100:i<100
  ·have hxt2:(i:Int)<100:=by omega
   have hlt:i<c.links.length:=f0 _ fun _ _ h=>by omega
   obtain⟨la,y,a,cc,o,ea,hla,hld,-,-⟩:=f0 _ fun hc _ _=>lnk_at2 hc hlt
   have hr:=f0 _ fun _ ht _=>ht.dests _ (List.getElem_mem hlt)
   generalize c.links[i].dests.length=rl at *
   have hd1:ldB H[la]? (y+i * 3+1)=some (.sl a rl cc o):=by
    generalize H[la]?=k at *
    match k,hld with
    |some (.cells cs ro g),hld=>exact sub_at (i:=1) hld (by omega)
   clear hld
   rw[ea] at g1
   repeat (with_reducible first|(first|refine pI1 ?_|refine pS1 ?_);intros|refine pA1 ?_|refine pX1 ?_|refine pB1 ?_|exact True.intro)
   exact loopQ_n (100-(i+1)) (by omega) ⟨_,i+1,s+rl,rfl,rfl,by omega,by omega,zf,zf,zf⟩
  ·have hxt2:¬(i:Int)<100:=by omega
   repeat (with_reducible first|(first|refine pI1 ?_|refine pS1 ?_);intros|refine pA1 ?_|refine pX1 ?_|refine pB1 ?_|exact True.intro)
   exact⟨rfl,_,s,rfl,by omega,zf,zf⟩
 ·have hxt:¬(i:Int)<(n11:Int):=by omega
  repeat (with_reducible first|(first|refine pI1 ?_|refine pS1 ?_);intros|refine pA1 ?_|refine pX1 ?_|refine pB1 ?_|exact True.intro)
  exact⟨rfl,_,s,rfl,by omega,zf,zf⟩
end
theorem s_Great {N:Nat} {H:Heap} {c:Cfg} {h:Hd} (hc:CfgM N H c h) (hN:N≤H.length) (ht:TwinOk c):WC F fX1c [.agg (c.cells h)] H fun v H'=>(∃b,v=.c (.bool b))∧Xt H H':=by
 refine WC_start eX1c (by simp) ?_
 unfold cX1c Cfg.cells
 obtain⟨n1,h1⟩:∃n,c.owners.length=n:=⟨_,rfl⟩
 obtain⟨n8,h8⟩:∃n,c.parts.length=n:=⟨_,rfl⟩
 obtain⟨n9,h9⟩:∃n,c.wins.length=n:=⟨_,rfl⟩
 obtain⟨n10,h10⟩:∃n,c.ports.length=n:=⟨_,rfl⟩
 obtain⟨n11,h11⟩:∃n,c.links.length=n:=⟨_,rfl⟩
 have k1:=ht.owners
 have k8:=ht.parts
 have k9:=ht.wins
 have k10:=ht.ports
 have k11:=ht.links
 rw[h1] at k1
 rw[h8] at k8
 rw[h9] at k9
 rw[h10] at k10
 rw[h11] at k11
 rw[h1,h8,h9,h10,h11]
 have f0:=zhd4 hc ht h9 h11
 clear hc ht h1 h8 h9 h10 h11
 obtain⟨Y,hY⟩:∃Y,Y=IC.seq (.ops oX1c_2) (.block 0 (.loop bX1c_6)):=⟨_,rfl⟩
 obtain⟨Z,hZ⟩:∃Z,Z=IC.seq (.ops oX1c_7) (.block 2 (.loop bX1c_11)):=⟨_,rfl⟩
 rw[←hY,←hZ]
 have fY:=zhd2 hY hZ
 clear hY hZ
 repeat (with_reducible first|(first|refine pI1 ?_|refine pS1 ?_);intros|refine pA1 ?_|refine pX1 ?_|refine pB1 ?_|exact True.intro)
 rename_i b1 H1 p1 g1 x1
 have hc1:CfgM N H1 c h:=f0 _ fun hc _ _ _=>hc.keep fun b hb=>x1 b (by omega)
 have fx:=zhd2 x1 hc1
 clear x1 hc1
 repeat (with_reducible first|(first|refine pI1 ?_|refine pS1 ?_);intros|refine pA1 ?_|refine pX1 ?_|refine pB1 ?_|exact True.intro)
 rw[fY _ fun h _=>h]
 refine W_cut _ (f0 _ fun _ ht h9 _=>fx _ fun _ hc=>great_wins (b1:=b1) (n1:=n1) (n8:=n8) (n10:=n10) (n11:=n11) (s0:=n1+n9) hc ht h9 (by omega) zf zf g1) ?_
 rintro _ ⟨ρ',s,rfl,hs,e1,e3⟩
 repeat (with_reducible first|(first|refine pI1 ?_|refine pS1 ?_);intros|refine pA1 ?_|refine pX1 ?_|refine pB1 ?_|exact True.intro)
 rw[fY _ fun _ h=>h]
 refine W_cut _ (f0 _ fun _ ht _ h11=>fx _ fun _ hc=>great_links (b1:=b1) (n1:=n1) (n8:=n8) (n9:=n9) (n10:=n10) (s0:=s) hc ht h11 (by omega) zf zf g1) ?_
 clear e1 e3 hs
 rintro _ ⟨ρ',s,rfl,hs,e1,e3⟩
 have hX:Xt H H1:=fx _ fun x _=>⟨by omega,fun b hb=>x b (by omega)⟩
 have fX:=zhd1 hX
 clear hX
 by_cases c1:(s:Int) > 1000
 ·repeat (with_reducible first|(first|refine pI1 ?_|refine pS1 ?_);intros|refine pA1 ?_|refine pX1 ?_|refine pB1 ?_|exact True.intro)
  exact⟨⟨_,rfl⟩,fX _ fun x=>x⟩
 by_cases c2:(n8:Int) > 100
 ·repeat (with_reducible first|(first|refine pI1 ?_|refine pS1 ?_);intros|refine pA1 ?_|refine pX1 ?_|refine pB1 ?_|exact True.intro)
  exact⟨⟨_,rfl⟩,fX _ fun x=>x⟩
 by_cases c3:(n10:Int) > 100
 ·repeat (with_reducible first|(first|refine pI1 ?_|refine pS1 ?_);intros|refine pA1 ?_|refine pX1 ?_|refine pB1 ?_|exact True.intro)
  exact⟨⟨_,rfl⟩,fX _ fun x=>x⟩
 by_cases c4:(n11:Int) > 100
 ·repeat (with_reducible first|(first|refine pI1 ?_|refine pS1 ?_);intros|refine pA1 ?_|refine pX1 ?_|refine pB1 ?_|exact True.intro)
  exact⟨⟨_,rfl⟩,fX _ fun x=>x⟩
 repeat (with_reducible first|(first|refine pI1 ?_|refine pS1 ?_);intros|refine pA1 ?_|refine pX1 ?_|refine pB1 ?_|exact True.intro)
 exact⟨⟨_,rfl⟩,fX _ fun x=>x⟩
end Go.Proofs.YtjcgdcadflplcaaDoor.AM.D21
namespace Go.Proofs.YtjcgdcadflplcaaDoor.AM.D21
open Go Go.Proofs.YtjcgdcadflplcaaDoor.AM Go.Proofs.YtjcgdcadflplcaaDoor.AM.C02
set_option maxHeartbeats 2000000
set_option maxRecDepth 100000
theorem len_wt {T:Ty} (hT:∀d:T.D,1≤wt T d) (xs:List T.D):xs.length≤(xs.map fun d=>wt T d).sum:=by
 induction xs with
 |nil=>exact Nat.zero_le _
 |cons x xs ih=>have:=hT x;rw[List.length_cons,List.map_cons,List.sum_cons];omega
theorem vw_len_wt {T:Ty} (hT:∀d:T.D,1≤wt T d) {H:Heap} {x:List T.D} {a:Option Ad} {n c:Nat} {o:Bool} (h:Vw (.sl T) H x [.sl a n c o]):n≤wt (.sl T) x:=by
 obtain⟨a',c',e,-⟩:=h
 injection e with e _
 injection e with _ e _ _
 rw[e]
 show _≤1+(x.map fun d=>wt T d).sum
 have:=len_wt hT x
 exact Nat.le_trans this (by omega)
theorem row_rowW {H:Heap} {x:List Int} {cs:List Cell} (h:Vw (.sl I) H x cs):∃e,RowR H.length H e cs∧e.length≤wt (.sl I) x:=by
 obtain⟨a,c,rfl,h1,h2,h3,h4⟩:=Vw.nums h
 refine⟨x,⟨a,c,false,rfl,h3,fun b x e=>h3.lt e,h4,h1,h2⟩,?_⟩
 have:=len_wt (T:=I) (fun d=>Nat.le_refl 1) x
 show _≤1+(List.map (fun d=>wt I d) x).sum
 exact Nat.le_trans this (by omega)
theorem cfg_rowX {H:Heap} {x:Cfg.T.D} {cs:List Cell} (h:Vw Cfg.T H x cs):∃c h,cs=c.cells h∧CfgM H.length H c h∧(wt Cfg.T x≤1048576→Few c∧TwinOk c):=by
 obtain⟨_,_,rfl,⟨rfl,w1⟩,_,_,rfl,ho,_,_,rfl,⟨rfl,w2⟩,_,_,rfl,⟨rfl,w3⟩,_,_,rfl,⟨rfl,w4⟩,_,_,rfl,⟨rfl,w5⟩,_,_,rfl,⟨rfl,w6⟩,_,_,rfl,⟨rfl,w7⟩,_,_,rfl,hp,_,_,rfl,hw,_,_,rfl,hq,_,_,rfl,hl,rfl⟩:=h
 obtain⟨a1,c1,rfl,k1,k2,k3,k4⟩:=Vw.nums ho
 obtain⟨a8,c8,lp,rfl,p1,p2,p3,pS,pN⟩:=parts_of hp
 have p4:=vw_len_wt (T:=Pa.T) (fun d=>by show 1≤1+_;omega) hp
 obtain⟨a9,c9,lw,rfl,q1,q2,q3,q4⟩:=Vw.tabW (T:=.sl I) (R:=RowR H.length) (S:=fun x e=>e.length≤wt (.sl I) x) (fun _ _=>row_rowW) hw
 obtain⟨a10,c10,lt,rfl,r1,r2,r3,rS,rN,r4⟩:=ports_of hq
 obtain⟨a11,c11,ll,rfl,s1,s2,s3,s4⟩:=Vw.tabW (R:=LkR H.length) (S:=fun x e=>e.dests.length≤wt Lk.T x) (fun _ _=>lk_rowW) hl
 refine⟨⟨_,_,_,_,_,_,_,_,lp,lw,lt,ll⟩,⟨a1,c1,a8,c8,a9,c9,a10,c10,a11,c11,false,false,false,false,false⟩,rfl,⟨k3,fun b x e=>k3.lt e,p3,q3,r3,s3,wf_i64 w1,wf_i64 w2,wf_i64 w3,wf_i64 w4,wf_i64 w5,wf_i64 w6,wf_i64 w7,k4,pS,pN,rS,rN⟩,fun hwt=>?_⟩
 have b1:=all2_wt (f:=fun _=>1) r4
 have b2:=all2_wt (f:=fun l:Lk=>l.dests.length) s4
 rw[len1] at b1
 have hx:wt Cfg.T x=1+(wt (.sl I) x.2.1+(1+(1+(1+(1+(1+(1+(wt (.sl Pa.T) x.2.2.2.2.2.2.2.2.1+(wt (.sl (.sl I)) x.2.2.2.2.2.2.2.2.2.1+(wt (.sl Pt.T) x.2.2.2.2.2.2.2.2.2.2.1+(wt (.sl Lk.T) x.2.2.2.2.2.2.2.2.2.2.2.1+0))))))))))):=rfl
 have hp':wt (.sl Pt.T) x.2.2.2.2.2.2.2.2.2.2.1=1+(x.2.2.2.2.2.2.2.2.2.2.1.map fun d=>wt Pt.T d).sum:=rfl
 have hl':wt (.sl Lk.T) x.2.2.2.2.2.2.2.2.2.2.2.1=1+(x.2.2.2.2.2.2.2.2.2.2.2.1.map fun d=>wt Lk.T d).sum:=rfl
 have ho':wt (.sl I) x.2.1=1+List.length (α:=Int) x.2.1:=congrArg (1 + ·) (len1 (α:=Int) x.2.1)
 have b3:=all2_wt (f:=fun e:List Int=>e.length) q4
 have b4:=vw_len_wt (T:=.sl I) (fun d=>by show 1≤1+_;omega) hw
 have b5:=vw_len_wt (T:=Lk.T) (fun d=>by show 1≤1+_;omega) hl
 have hw':wt (.sl (.sl I)) x.2.2.2.2.2.2.2.2.2.1=1+(x.2.2.2.2.2.2.2.2.2.1.map fun d=>wt (.sl I) d).sum:=rfl
 have hmem:∀{ll:List Lk} {l:Lk},l∈ll→l.dests.length≤(ll.map fun l:Lk=>l.dests.length).sum:=fun {ll l}=>by
  induction ll with
  |nil=>intro h;cases h
  |cons y ll ih=>
   intro h
   simp only[List.map_cons,List.sum_cons]
   rcases List.mem_cons.1 h with rfl|h
   ·omega
   ·have:=ih h;omega
 have hmw:∀{ll:List (List Int)} {l:List Int},l∈ll→l.length≤(ll.map fun l:List Int=>l.length).sum:=fun {ll l}=>by
  induction ll with
  |nil=>intro h;cases h
  |cons y ll ih=>
   intro h
   simp only[List.map_cons,List.sum_cons]
   rcases List.mem_cons.1 h with rfl|h
   ·omega
   ·have:=ih h;omega
 refine⟨⟨by show List.length (α:=Int) x.2.1≤_;omega,by show lt.length≤_;omega,fun l hl=>?_⟩,⟨by show List.length (α:=Int) x.2.1≤_;omega,by show lp.length≤_;omega,by show lw.length≤_;omega,by show lt.length≤_;omega,by show ll.length≤_;omega,fun r hr=>?_,fun l hl=>?_⟩⟩
 ·have:=hmem (ll:=ll) hl
  omega
 ·have:=hmw (ll:=lw) hr
  omega
 ·have:=hmem (ll:=ll) hl
  omega
end Go.Proofs.YtjcgdcadflplcaaDoor.AM.D21
namespace Go.Proofs.YtjcgdcadflplcaaDoor.AM.D21
open Go Go.Proofs.YtjcgdcadflplcaaDoor.AM Go.Proofs.YtjcgdcadflplcaaDoor.AM.P3
set_option maxHeartbeats 2000000
set_option maxRecDepth 100000
theorem keepX:ExtKeep F:=ExtKeep.funsX fun f g h=>by
 unfold X at h
 split at h
 ·cases h;exact fun args H v H' e=>loadX_keep e
 split at h
 ·cases h;exact fun args H v H' e=>addX_keep e
 cases h
theorem s_Clone {H:Heap} {a:Option Ad} {n c:Nat} {o:Bool} {xs:List Cell} (hs:Sl H 1 a n xs) (hn:n≤100000):
  WC F fX1d [.c (.sl a n c o)] H fun v H'=>Ob H.length H' v xs∧X1 H H':=by
 refine WC_start eX1d (by simp) ?_
 unfold cX1d
 cases a with
 |none=>
  have h0:=hs.nil rfl
  subst h0
  obtain rfl:xs=[]:=by have:=hs.len;simpa using this
  repeat (with_reducible first|(first|refine pI1 ?_|refine pS1 ?_);intros|refine pA1 ?_|refine pX1 ?_|refine pB1 ?_|exact True.intro)
  exact⟨⟨none,_,_,rfl,Own.none _ _,fun x e=>by cases e⟩,Nat.le_refl _,fun _ _=>rfl⟩
 |some a=>
  repeat (with_reducible first|(first|refine pI1 ?_|refine pS1 ?_);intros|refine pA1 ?_|refine pX1 ?_|refine pB1 ?_|exact True.intro)
  rename_i b1 H1 l1 g1 x1
  repeat (with_reducible first|(first|refine pI1 ?_|refine pS1 ?_);intros|refine pA1 ?_|refine pX1 ?_|refine pB1 ?_|exact True.intro)
  refine outM_appE (lo:=H.length) (ys:=xs) (fun y e=>by cases e;exact⟨rfl,by omega,_,_,_,g1⟩) (by omega) (hs.to fun b hb=>by simp (disch:=first|with_reducible assumption|omega) only [go_sem, *,reduceCtorEq,↓reduceIte,Nat.reduceLT,Nat.reduceBEq,Nat.reduceAdd,Nat.reduceSub,Nat.reduceMul,Nat.reduceDiv,Nat.reduceMod,Nat.reducePow,Nat.reduceEqDiff,Nat.reduceLeDiff,Int.reduceLT,Int.reduceLE,Int.reduceNeg,Int.reduceToNat,Int.reduceAdd,Int.reduceSub,Int.reduceMul,Int.reduceEq,Int.reduceNe,Int.reduceBEq,Int.reduceBNe,Int.reducePow]) (by omega) ?_
  intro v H2 h2 l2 x2
  repeat (with_reducible first|(first|refine pI1 ?_|refine pS1 ?_);intros|refine pA1 ?_|refine pX1 ?_|refine pB1 ?_|exact True.intro)
  exact⟨h2,by omega,fun b hb=>by simp (disch:=first|with_reducible assumption|omega) only [go_sem, *,reduceCtorEq,↓reduceIte,Nat.reduceLT,Nat.reduceBEq,Nat.reduceAdd,Nat.reduceSub,Nat.reduceMul,Nat.reduceDiv,Nat.reduceMod,Nat.reducePow,Nat.reduceEqDiff,Nat.reduceLeDiff,Int.reduceLT,Int.reduceLE,Int.reduceNeg,Int.reduceToNat,Int.reduceAdd,Int.reduceSub,Int.reduceMul,Int.reduceEq,Int.reduceNe,Int.reduceBEq,Int.reduceBNe,Int.reducePow]⟩
theorem it_bits {b mask:Nat} (hm:mask<4294967296):Iter F fX12 [] [(b,0)] (fun x=>x=b) (fun H=>H[b]?=some (.cells [.int .u32 (mask:Nat)] false none)) (bl mask 32 0):=by
 intro l H J E hP hl hSl hJ hE hr h0 hfin
 refine WC_start eX12 (by simp) ?_
 unfold cX12
 repeat (with_reducible first|(first|refine pI1 ?_|refine pS1 ?_);intros|refine pA1 ?_|refine pX1 ?_|refine pB1 ?_|exact True.intro)
 refine W_loop (fun m st=>∃ρ j Hk,st=⟨L 23 ρ,[],Hk⟩∧m=32-j∧j≤32∧ρ 0=.c (.yld l)∧ρ 1=.c (.ptr (some (b,0)))∧ρ 4=.c (.int .i64 (j:Nat))∧Hk[b]?=some (.cells [.int .u32 (mask:Nat)] false none)∧J (bl mask (32-j) j) Hk) 32 ⟨_,0,H,rfl,rfl,by omega,zf,zf,zf,hP,h0⟩ ?_
 rintro m st ⟨ρ,j,Hk,rfl,rfl,hj,e0,e1,e4,hb,hJk⟩
 unfold bX12_6
 clear hJ hE
 repeat (with_reducible first|(first|refine pI1 ?_|refine pS1 ?_);intros|refine pA1 ?_|refine pX1 ?_|refine pB1 ?_|exact True.intro)
 first|refine ifM_d ?_ ?_|refine gM_dt ?_ ?_|refine gM_df ?_ ?_
 ·intro hlt
  obtain⟨q,hq⟩:∃q,mask / 2 ^ j=q:=⟨_,rfl⟩
  repeat (with_reducible first|(first|refine pI1 ?_|refine pS1 ?_);intros|refine pA1 ?_|refine pX1 ?_|refine pB1 ?_|exact True.intro)
  first|refine ifM_d ?_ ?_|refine gM_dt ?_ ?_|refine gM_df ?_ ?_
  ·intro hz
   repeat (with_reducible first|(first|refine pI1 ?_|refine pS1 ?_);intros|refine pA1 ?_|refine pX1 ?_|refine pB1 ?_|exact True.intro)
   rw[bl_none _ _ (by omega)] at hJk
   exact hfin _ hJk
  ·intro hz
   have step:bl mask (32-j) j=if bt mask j then [.c (.int .i64 (j:Nat))] :: bl mask (32-(j+1)) (j+1) else bl mask (32-(j+1)) (j+1):=by
    rw[show 32-j=(32-(j+1))+1 by omega];rfl
   rw[step] at hJk
   clear step
   by_cases hbit:q % 2=1
   ·rw[if_pos (by unfold bt;rw[hq,hbit];rfl)] at hJk
    repeat (with_reducible first|(first|refine pI1 ?_|refine pS1 ?_);intros|refine pA1 ?_|refine pX1 ?_|refine pB1 ?_|exact True.intro)
    refine outM_yld (hr _ _ Hk hJk) ?_
    rintro v H' ⟨k1,k2,⟨rfl,k3⟩|⟨rfl,k3⟩⟩
    ·have hb':=(k1 b rfl).trans hb
     repeat (with_reducible first|(first|refine pI1 ?_|refine pS1 ?_);intros|refine pA1 ?_|refine pX1 ?_|refine pB1 ?_|exact True.intro)
     refine loopQ_n (32-(j+1)) (by omega) ⟨_,j+1,H',rfl,rfl,by omega,zf,zf,zf,hb',k3⟩
    ·repeat (with_reducible first|(first|refine pI1 ?_|refine pS1 ?_);intros|refine pA1 ?_|refine pX1 ?_|refine pB1 ?_|exact True.intro)
     exact k3
   ·rw[if_neg (by unfold bt;rw[hq];simp;omega)] at hJk
    repeat (with_reducible first|(first|refine pI1 ?_|refine pS1 ?_);intros|refine pA1 ?_|refine pX1 ?_|refine pB1 ?_|exact True.intro)
    refine loopQ_n (32-(j+1)) (by omega) ⟨_,j+1,Hk,rfl,rfl,by omega,zf,zf,zf,hb,hJk⟩
 ·intro hge
  obtain rfl:j=32:=by omega
  repeat (with_reducible first|(first|refine pI1 ?_|refine pS1 ?_);intros|refine pA1 ?_|refine pX1 ?_|refine pB1 ?_|exact True.intro)
  exact hfin _ ((by simpa [bl] using hJk))
theorem s_bits {H:Heap} {mask:Nat}:WC F fX11 [.c (.int .u32 (mask:Nat))] H fun v H'=>∃b,v=.c (.fn fX12 [] [(b,0)])∧H.length≤b∧b<H'.length∧H'[b]?=some (.cells [.int .u32 (mask:Nat)] false none)∧X1 H H':=by
 refine WC_start eX11 (by simp) ?_
 unfold cX11
 repeat (with_reducible first|(first|refine pI1 ?_|refine pS1 ?_);intros|refine pA1 ?_|refine pX1 ?_|refine pB1 ?_|exact True.intro)
 exact⟨_,rfl,by omega,by omega,by assumption,by omega,fun b hb=>by simp (disch:=first|with_reducible assumption|omega) only [go_sem, *,reduceCtorEq,↓reduceIte,Nat.reduceLT,Nat.reduceBEq,Nat.reduceAdd,Nat.reduceSub,Nat.reduceMul,Nat.reduceDiv,Nat.reduceMod,Nat.reducePow,Nat.reduceEqDiff,Nat.reduceLeDiff,Int.reduceLT,Int.reduceLE,Int.reduceNeg,Int.reduceToNat,Int.reduceAdd,Int.reduceSub,Int.reduceMul,Int.reduceEq,Int.reduceNe,Int.reduceBEq,Int.reduceBNe,Int.reducePow]⟩
theorem s_Corrupt {H:Heap} {a:Option Ad} {n c:Nat} {o:Bool} {l:List Nat} {at_:Int} {mask:Nat} (hs:Sl H 1 a n (nats .u8 l)) (hn:n≤100000) (ha1:-9223372036854775808≤at_) (ha2:at_<9223372036854775808) (hm:mask<4294967296) (hby:∀x∈l,x<256):
  WC F fXz [.c (.sl a n c o),.c (.int .i64 at_),.c (.int .u32 (mask:Nat))] H fun v H'=>Ob H.length H' v (nats .u8 (corr l at_ mask))∧X1 H H':=by
 refine WC_start eXz (by simp) ?_
 unfold cXz
 have hlen:=hs.len
 rw[nats_len,Nat.mul_one] at hlen
 repeat (with_reducible first|(first|refine pI1 ?_|refine pS1 ?_);intros|refine pA1 ?_|refine pX1 ?_|refine pB1 ?_|exact True.intro)
 rename_i b1 H1 l1 g1 x1 b2 H2 l2 g2 x2
 repeat (with_reducible first|(first|refine pI1 ?_|refine pS1 ?_);intros|refine pA1 ?_|refine pX1 ?_|refine pB1 ?_|exact True.intro)
 refine outM_call (s_Clone (hs.to fun b hb=>by simp (disch:=first|with_reducible assumption|omega) only [go_sem, *,reduceCtorEq,↓reduceIte,Nat.reduceLT,Nat.reduceBEq,Nat.reduceAdd,Nat.reduceSub,Nat.reduceMul,Nat.reduceDiv,Nat.reduceMod,Nat.reducePow,Nat.reduceEqDiff,Nat.reduceLeDiff,Int.reduceLT,Int.reduceLE,Int.reduceNeg,Int.reduceToNat,Int.reduceAdd,Int.reduceSub,Int.reduceMul,Int.reduceEq,Int.reduceNe,Int.reduceBEq,Int.reduceBNe,Int.reducePow]) (by omega)) ?_
 rintro v H3 ⟨hv,l3,x3⟩
 have hnl:(nats .u8 l).length=n:=by rw[nats_len,hlen]
 have hv':=hv
 obtain⟨a',c',o',rfl,own3,hlo⟩:=hv'
 rw[hnl] at hv own3 ⊢
 have hob:∀x,a'=some x→x.1<H3.length:=fun x e=>own3.lt (b:=x.1) (x:=x.2) e
 repeat (with_reducible first|(first|refine pI1 ?_|refine pS1 ?_);intros|refine pA1 ?_|refine pX1 ?_|refine pB1 ?_|exact True.intro)
 rename_i b4 H4 l4 g4 x4 H5 l5 g5 x5
 have hv5:=hv.keep (H':=H5) fun b hb hb'=>by simp (disch:=first|with_reducible assumption|omega) only [go_sem, *,reduceCtorEq,↓reduceIte,Nat.reduceLT,Nat.reduceBEq,Nat.reduceAdd,Nat.reduceSub,Nat.reduceMul,Nat.reduceDiv,Nat.reduceMod,Nat.reducePow,Nat.reduceEqDiff,Nat.reduceLeDiff,Int.reduceLT,Int.reduceLE,Int.reduceNeg,Int.reduceToNat,Int.reduceAdd,Int.reduceSub,Int.reduceMul,Int.reduceEq,Int.reduceNe,Int.reduceBEq,Int.reduceBNe,Int.reducePow]
 by_cases c1:at_ < -32
 ·have e:corr l at_ mask=l:=R_same (a:=0) (Nat.zero_le _) (fun k _ h2 h3=>by have:=h3.2.1;omega)
  rw[e]
  repeat (with_reducible first|(first|refine pI1 ?_|refine pS1 ?_);intros|refine pA1 ?_|refine pX1 ?_|refine pB1 ?_|exact True.intro)
  exact⟨hv5.mono (lo':=H.length) (by omega),by omega,fun b hb=>by simp (disch:=first|with_reducible assumption|omega) only [go_sem, *,reduceCtorEq,↓reduceIte,Nat.reduceLT,Nat.reduceBEq,Nat.reduceAdd,Nat.reduceSub,Nat.reduceMul,Nat.reduceDiv,Nat.reduceMod,Nat.reducePow,Nat.reduceEqDiff,Nat.reduceLeDiff,Int.reduceLT,Int.reduceLE,Int.reduceNeg,Int.reduceToNat,Int.reduceAdd,Int.reduceSub,Int.reduceMul,Int.reduceEq,Int.reduceNe,Int.reduceBEq,Int.reduceBNe,Int.reducePow]⟩
 ·by_cases c2:((8 * n:Nat):Int)<at_
  ·have e:corr l at_ mask=l:=R_same (a:=0) (Nat.zero_le _) (fun k _ h2 h3=>by have:=h3.1;rw[hlen] at h2;omega)
   rw[e]
   repeat (with_reducible first|(first|refine pI1 ?_|refine pS1 ?_);intros|refine pA1 ?_|refine pX1 ?_|refine pB1 ?_|exact True.intro)
   exact⟨hv5.mono (lo':=H.length) (by omega),by omega,fun b hb=>by simp (disch:=first|with_reducible assumption|omega) only [go_sem, *,reduceCtorEq,↓reduceIte,Nat.reduceLT,Nat.reduceBEq,Nat.reduceAdd,Nat.reduceSub,Nat.reduceMul,Nat.reduceDiv,Nat.reduceMod,Nat.reducePow,Nat.reduceEqDiff,Nat.reduceLeDiff,Int.reduceLT,Int.reduceLE,Int.reduceNeg,Int.reduceToNat,Int.reduceAdd,Int.reduceSub,Int.reduceMul,Int.reduceEq,Int.reduceNe,Int.reduceBEq,Int.reduceBNe,Int.reducePow]⟩
  ·repeat (with_reducible first|(first|refine pI1 ?_|refine pS1 ?_);intros|refine pA1 ?_|refine pX1 ?_|refine pB1 ?_|exact True.intro)
   repeat (with_reducible first|(first|refine pI1 ?_|refine pS1 ?_);intros|refine pA1 ?_|refine pX1 ?_|refine pB1 ?_|exact True.intro)
   refine outM_call (s_bits (mask:=mask)) ?_
   rintro _ H6 ⟨b6,rfl,hb6,hb6',g6,l6,x6⟩
   repeat (with_reducible first|(first|refine pI1 ?_|refine pS1 ?_);intros|refine pA1 ?_|refine pX1 ?_|refine pB1 ?_|exact True.intro)
   generalize hρ:Env.up _ 23 _=ρ0
   have e3:ρ0 3=.c (.ptr (some (b1,0))):=by rw[←hρ];exact zf
   have e4:ρ0 4=.c (.ptr (some (b2,0))):=by rw[←hρ];exact zf
   have e7:ρ0 7=.c (.ptr (some (b4,0))):=by rw[←hρ];exact zf
   have e23:ρ0 23=.c (.fn fX12 [] [(b6,0)]):=by rw[←hρ];exact zf
   clear hρ
   unfold aXz_9
   refine W_range (F:=F) keepX zf (it_bits hm) (fun r Hx=>∃j,j≤32∧r=bl mask (32-j) j∧H6.length≤Hx.length∧(∀b,b<H2.length∨b=b4→Hx[b]?=H5[b]?)∧Own Hx 1 a' n c' o' (nats .u8 (R l at_ mask (clamp n (at_+j)))))
    (fun _ _=>False) (fun J=>get_app' J g6) (fun b hb=>by subst hb;exact hb6') ?_ (fun _ _ _ h=>h.elim) ?_ ?_ ?_ (fun _ _ h=>h.elim)
   ·rintro r H7 H8 ⟨j,j1,j2,j3,j4,j5⟩ hf
    have hl:=hf.len
    have hx:∀b,b<H7.length→b≠b6→b≠H6.length+1→H8[b]?=H7[b]?:=fun b h1 h2 h3=>hf.old b h1 (by omega)
    exact⟨j,j1,j2,by omega,fun b hb=>by simp (disch:=first|with_reducible assumption|omega) only [go_sem, *,reduceCtorEq,↓reduceIte,Nat.reduceLT,Nat.reduceBEq,Nat.reduceAdd,Nat.reduceSub,Nat.reduceMul,Nat.reduceDiv,Nat.reduceMod,Nat.reducePow,Nat.reduceEqDiff,Nat.reduceLeDiff,Int.reduceLT,Int.reduceLE,Int.reduceNeg,Int.reduceToNat,Int.reduceAdd,Int.reduceSub,Int.reduceMul,Int.reduceEq,Int.reduceNe,Int.reduceBEq,Int.reduceBNe,Int.reducePow],j5.keep fun b x e=>hx b (j5.lt e) (by have:=hob _ e;simp only at this;omega) (by have:=hob _ e;simp only at this;omega)⟩
   ·intro rr
    have hx:∀b,b<H6.length→(H6++[.defd,.loop .ready none rr])[b]?=H6[b]?:=fun b hb=>get_app _ hb
    refine⟨0,by omega,rfl,by simp,fun b hb=>by simp (disch:=first|with_reducible assumption|omega) only [go_sem, *,reduceCtorEq,↓reduceIte,Nat.reduceLT,Nat.reduceBEq,Nat.reduceAdd,Nat.reduceSub,Nat.reduceMul,Nat.reduceDiv,Nat.reduceMod,Nat.reducePow,Nat.reduceEqDiff,Nat.reduceLeDiff,Int.reduceLT,Int.reduceLE,Int.reduceNeg,Int.reduceToNat,Int.reduceAdd,Int.reduceSub,Int.reduceMul,Int.reduceEq,Int.reduceNe,Int.reduceBEq,Int.reduceBNe,Int.reducePow],?_⟩
    have:R l at_ mask (clamp n (at_+(0:Nat)))=l:=by
     rw[R_same (a:=0) (Nat.zero_le _) (fun k _ h2 h3=>by unfold clamp at h2;have:=h3.1;omega)];rfl
    rw[this]
    refine own3.keep fun b x e=>?_
    have:=hob _ e;simp only at this
    simp (disch:=first|with_reducible assumption|omega) only [go_sem, *,reduceCtorEq,↓reduceIte,Nat.reduceLT,Nat.reduceBEq,Nat.reduceAdd,Nat.reduceSub,Nat.reduceMul,Nat.reduceDiv,Nat.reduceMod,Nat.reducePow,Nat.reduceEqDiff,Nat.reduceLeDiff,Int.reduceLT,Int.reduceLE,Int.reduceNeg,Int.reduceToNat,Int.reduceAdd,Int.reduceSub,Int.reduceMul,Int.reduceEq,Int.reduceNe,Int.reduceBEq,Int.reduceBNe,Int.reducePow]
   ·rintro x rest H7 ⟨j,j1,j2,j3,j4,j5⟩
    obtain⟨i,i1,i2,i3,i4,rfl,rfl⟩:=bl_cons j2.symm
    refine⟨rfl,?_⟩
    simp only[List.zip_cons_cons,List.zip_nil_left,List.foldl_cons,List.foldl_nil,L_set]
    repeat (with_reducible first|(first|refine pI1 ?_|refine pS1 ?_);intros|refine pA1 ?_|refine pX1 ?_|refine pB1 ?_|exact True.intro)
    refine⟨rfl,rfl,rfl,?_⟩
    rintro H8 ⟨q,q1,q2,q3,q4,q5⟩ hlp
    obtain⟨i',p1,p2,p3,p4,p5,p6⟩:=bl_cons q2.symm
    obtain rfl:i'=i:=by simp at p5;omega
    unfold bXz_10
    have hcl:(R l at_ mask (clamp n (at_+q))).length=n:=by rw[R_len,hlen]
    have y1:=q4 b1 (by omega)
    have y2:=q4 b2 (by omega)
    have y3:=q4 b4 (by omega)
    have z1:=lt_of_get g1
    have z2:=lt_of_get g2
    try dsimp only
    have hst:bl mask (j+(32-j)-(i'+1)) (i'+1)=bl mask (32-(i'+1)) (i'+1):=by rw[show j+(32-j)-(i'+1)=32-(i'+1) by omega]
    have hsk:∀m,clamp n (at_+q)≤m→m<clamp n (at_+i')→¬hit at_ mask m:=by
     intro m m1 m2 m3
     unfold clamp at m1 m2
     have:=p4 ((m:Int)-at_).toNat (by have:=m3.1;omega) (by have:=m3.1;omega)
     rw[m3.2.2] at this;cases this
    have hR1:R l at_ mask (clamp n (at_+i'))=R l at_ mask (clamp n (at_+q)):=R_same (by unfold clamp;omega) hsk
    by_cases h1:0≤at_+i'∧at_+i'<8 * n
    ·obtain⟨k,hk⟩:∃k:Nat,at_+(i':Int)=(k:Int):=⟨(at_+i').toNat,by omega⟩
     have hk8:k / 8<n:=by omega
     obtain⟨b,rfl,hb1,hb2,hblk⟩:∃b,a'=some (b,0)∧H2.length≤b∧b<H3.length∧H8[b]?=some (.cells (nats .u8 (R l at_ mask (clamp n (at_+q)))) false (some 1)):=by
      rcases q5 with ⟨_,h,_⟩|⟨b,rfl,_,_,_,hb⟩|⟨b,_,h,_⟩
      ·omega
      ·exact⟨b,rfl,hlo _ rfl,hob _ rfl,hb⟩
      ·omega
     have hq8:((k:Int) / 8).toNat=k / 8:=by omega
     have hr8:((k:Int) % 8).toNat=k % 8:=by omega
     have hp8:1 * 2 ^ (k % 8) % 256=2 ^ (k % 8):=by
      have:∀j,j<8→1 * 2 ^ j % 256=2 ^ j:=by decide
      exact this _ (Nat.mod_lt _ (by decide))
     have hkc:clamp n (at_+q)≤k:=by unfold clamp;omega
     have hR2:R l at_ mask (clamp n (at_+(i'+1:Nat)))=fl k (R l at_ mask (clamp n (at_+q))):=by
      have e1:clamp n (at_+(i'+1:Nat))=k+1:=by unfold clamp;omega
      have e2:clamp n (at_+i')=k:=by unfold clamp;omega
      rw[e1,R_flip ⟨by omega,by omega,by rw[show ((k:Int)-at_).toNat=i' by omega];exact p3⟩,←hR1,e2]
     have hgl:gx (R l at_ mask (clamp n (at_+q))) (k / 8)<256:=lt_gx (R_by hby at_ mask _) _
     generalize R l at_ mask (clamp n (at_+q))=xs at *
     repeat (with_reducible first|(first|refine pI1 ?_|refine pS1 ?_);intros|refine pA1 ?_|refine pX1 ?_|refine pB1 ?_|exact True.intro)
     rename_i H9 l9 g9 x9
     refine⟨⟨none,by rw[x9 _ (by omega)];exact hlp⟩,fun b' hb'=>by subst hb';exact x9 _ (by omega),(by show H8.length≤H9.length;omega),i'+1,by omega,hst,(by show H6.length≤H9.length;omega),fun b' hb'=>?_,?_⟩
     ·rw[x9 _ (by omega),q4 b' hb']
     ·rw[hR2]
      rcases q5 with ⟨h,_⟩|⟨_,_,e1,e2,e3,_⟩|⟨_,_,h,_⟩
      ·cases h
      ·exact .inr (.inl ⟨b,rfl,e1,e2,by rw[nats_len,fl_len];rw[nats_len] at e3;exact e3,by rw[g9,nats_set];rfl⟩)
      ·omega
    ·have hR2:R l at_ mask (clamp n (at_+(i'+1:Nat)))=R l at_ mask (clamp n (at_+q)):=by
      rw[←hR1]
      exact R_same (by unfold clamp;omega) fun m m1 m2 m3=>by unfold clamp at m1 m2;omega
     by_cases h2:0≤at_+i'
     ·repeat (with_reducible first|(first|refine pI1 ?_|refine pS1 ?_);intros|refine pA1 ?_|refine pX1 ?_|refine pB1 ?_|exact True.intro)
      exact⟨⟨none,hlp⟩,fun _ _=>rfl,Nat.le_refl _,i'+1,by omega,hst,q3,q4,by rw[hR2];exact q5⟩
     ·repeat (with_reducible first|(first|refine pI1 ?_|refine pS1 ?_);intros|refine pA1 ?_|refine pX1 ?_|refine pB1 ?_|exact True.intro)
      exact⟨⟨none,hlp⟩,fun _ _=>rfl,Nat.le_refl _,i'+1,by omega,hst,q3,q4,by rw[hR2];exact q5⟩
   ·rintro H7 ⟨j,j1,j2,j3,j4,j5⟩ hd hl
    have:R l at_ mask (8 * n)=R l at_ mask (clamp n (at_+j)):=by
     refine R_same (by unfold clamp;omega) (fun k h1 h2 h3=>?_)
     unfold clamp at h1
     have h4:=bl_end j2.symm ((k:Int)-at_).toNat (by have:=h3.1;omega) (by have:=h3.1;have:=h3.2.1;omega)
     rw[h3.2.2] at h4
     cases h4
    rw[←this,←hlen] at j5
    have y3:=j4 b4 (by omega)
    repeat (with_reducible first|(first|refine pI1 ?_|refine pS1 ?_);intros|refine pA1 ?_|refine pX1 ?_|refine pB1 ?_|exact True.intro)
    refine callQ_1 hd ?_
    intro H8 l8 x8
    repeat (with_reducible first|(first|refine pI1 ?_|refine pS1 ?_);intros|refine pA1 ?_|refine pX1 ?_|refine pB1 ?_|exact True.intro)
    refine⟨⟨a',c',o',by rw[nats_len,corr_len,hlen],?_,fun x e=>by have:=hlo x e;omega⟩,by omega,fun b hb=>?_⟩
    ·subst hlen
     rw[nats_len,corr_len]
     unfold corr
     refine j5.keep fun b x e=>x8 b (by have:=hob _ e;simp only at this;omega)
    ·rw[x8 b (by omega),j4 b (by omega)]
     simp (disch:=first|with_reducible assumption|omega) only [go_sem, *,reduceCtorEq,↓reduceIte,Nat.reduceLT,Nat.reduceBEq,Nat.reduceAdd,Nat.reduceSub,Nat.reduceMul,Nat.reduceDiv,Nat.reduceMod,Nat.reducePow,Nat.reduceEqDiff,Nat.reduceLeDiff,Int.reduceLT,Int.reduceLE,Int.reduceNeg,Int.reduceToNat,Int.reduceAdd,Int.reduceSub,Int.reduceMul,Int.reduceEq,Int.reduceNe,Int.reduceBEq,Int.reduceBNe,Int.reducePow]
end Go.Proofs.YtjcgdcadflplcaaDoor.AM.D21
namespace Go.Proofs.YtjcgdcadflplcaaDoor.AM.D21
open Go Go.Proofs.YtjcgdcadflplcaaDoor.AM Go.Proofs.YtjcgdcadflplcaaDoor.AM.C02 Go.Proofs.YtjcgdcadflplcaaDoor.AM.C07
set_option maxHeartbeats 2000000
set_option maxRecDepth 100000
attribute [local go_sem] tn_add1 tn_sub1 put_all' nums_len
theorem s_LoadUint64 {H:Heap} {p o n:Nat} {cs:List Cell} {g:Option Nat} (hb:H[p]?=some (.cells cs false g)) (ho:cs[o]?=some (.int .u64 (n:Nat))):
  WC F fX1 [.c (.ptr (some (p,o)))] H fun v H'=>v=.c (.int .u64 (n:Nat))∧H'=H:=by
 have hf:F fX1=some (.ext loadX):=by rfl
 refine WC_ext hf (v:=.c (.int .u64 (n:Nat))) (H':=H) ?_ ⟨rfl,rfl⟩
 unfold loadX
 dsimp only
 rw[ld_of hb,ho]
theorem s_AddUint64 {H:Heap} {p o n k:Nat} {cs:List Cell} {g:Option Nat} (hb:H[p]?=some (.cells cs false g)) (ho:cs[o]?=some (.int .u64 (n:Nat))):
  WC F fX0 [.c (.ptr (some (p,o))),.c (.int .u64 (k:Nat))] H fun _ H'=>H'[p]?=some (.cells (cs.set o (.int .u64 ((n+k) % 18446744073709551616:Nat))) false g)∧H'.length=H.length∧∀b,b≠p→H'[b]?=H[b]?:=by
 have hf:F fX0=some (.ext addX):=by rfl
 have hw:IntKind.u64.wrap ((n:Int)+(k:Int))=((n+k) % 18446744073709551616:Nat):=by rw[wrap_u64_i]<;>omega
 have hlt:o<cs.length:=(List.getElem?_eq_some_iff.1 ho).1
 refine WC_ext hf (v:=.c (.int .u64 ((n+k) % 18446744073709551616:Nat))) (H':=H.set p (.cells (cs.set o (.int .u64 ((n+k) % 18446744073709551616:Nat))) false g)) ?_ ⟨get_set_same _ (lt_of_get hb),by simp,fun b hb=>List.getElem?_set_ne fun e=>hb e.symm⟩
 unfold addX
 dsimp only
 rw[ld_of hb,ho]
 dsimp only
 rw[hw,st_one hb _ hlt]
 rfl
theorem s_Load {H:Heap} {p o n:Nat} {cs:List Cell} {g:Option Nat} (hb:H[p]?=some (.cells cs false g)) (ho:cs[o]?=some (.int .u64 (n:Nat))):
  WC F fX3 [.c (.ptr (some (p,o)))] H fun v H'=>v=.c (.int .u64 (n:Nat))∧H'=H:=by
 refine WC_start eX3 (by simp) ?_
 unfold cX3
 have h0:=s_LoadUint64 hb ho
 clear hb ho
 repeat (with_reducible first|(first|refine pI1 ?_|refine pS1 ?_);intros|refine pA1 ?_|refine pX1 ?_|refine pB1 ?_|exact True.intro)
 refine outM_call h0 ?_
 rintro _ H1 ⟨rfl,rfl⟩
 repeat (with_reducible first|(first|refine pI1 ?_|refine pS1 ?_);intros|refine pA1 ?_|refine pX1 ?_|refine pB1 ?_|exact True.intro)
 exact⟨rfl,rfl⟩
theorem s_Add {H:Heap} {p o n k:Nat} {cs:List Cell} {g:Option Nat} (hb:H[p]?=some (.cells cs false g)) (ho:cs[o]?=some (.int .u64 (n:Nat))):
  WC F fX2 [.c (.ptr (some (p,o))),.c (.int .u64 (k:Nat))] H fun _ H'=>H'[p]?=some (.cells (cs.set o (.int .u64 ((n+k) % 18446744073709551616:Nat))) false g)∧H'.length=H.length∧∀b,b≠p→H'[b]?=H[b]?:=by
 refine WC_start eX2 (by simp) ?_
 unfold cX2
 have h0:=s_AddUint64 (k:=k) hb ho
 clear hb ho
 repeat (with_reducible first|(first|refine pI1 ?_|refine pS1 ?_);intros|refine pA1 ?_|refine pX1 ?_|refine pB1 ?_|exact True.intro)
 refine outM_call h0 ?_
 rintro v H1 ⟨h1,h2,h3⟩
 have fin:=zhd3 h1 h2 h3
 clear h1 h2 h3 h0
 repeat (with_reducible first|(first|refine pI1 ?_|refine pS1 ?_);intros|refine pA1 ?_|refine pX1 ?_|refine pB1 ?_|exact True.intro)
 exact fin _ fun h1 h2 h3=>⟨h1,h2,h3⟩
theorem s_CloneI {H:Heap} {a:Option Ad} {n c:Nat} {o:Bool} {xs:List Cell} (hs:Sl H 1 a n xs) (h0:0<n) (hn:n≤100000):
  WC F fX1e [.c (.sl a n c o)] H fun v H'=>∃e,v=.c (.sl (some (e,0)) n n true)∧H'[e]?=some (.cells xs false (some 1))∧H.length≤e∧e<H'.length∧Xt H H':=by
 refine WC_start eX1e (by simp) ?_
 unfold cX1e
 obtain⟨a,rfl⟩:=hs.is_some h0
 repeat (with_reducible first|(first|refine pI1 ?_|refine pS1 ?_);intros|refine pA1 ?_|refine pX1 ?_|refine pB1 ?_|exact True.intro)
 rename_i b1 H1 l1 g1 x1
 repeat (with_reducible first|(first|refine pI1 ?_|refine pS1 ?_);intros|refine pA1 ?_|refine pX1 ?_|refine pB1 ?_|exact True.intro)
 refine outM_appC (Sl.blk g1 rfl) (hs.to (H':=H1) fun b hb=>x1 b (by omega)) h0 (by unfold most;omega) ?_
 intro e H2 k1 k2 k3
 rw[Nat.zero_add]
 rw[List.nil_append] at k2
 repeat (with_reducible first|(first|refine pI1 ?_|refine pS1 ?_);intros|refine pA1 ?_|refine pX1 ?_|refine pB1 ?_|exact True.intro)
 exact⟨_,rfl,k2,by omega,by omega,by omega,fun b hb=>by rw[k3 b (by omega),x1 b (by omega)]⟩
theorem s_owner {H:Heap} {p:Nat} {a:Option Ad} {c:Nat} {o:Bool} {ws:List Int} {bl pa:Nat} {slot:Int} (hb:BusM H p a c o ws bl pa) (hw:ws.length≤100000) (hs:i64 slot):
  WC F fX7 [.c (.ptr (some (p,0))),.c (.int .i64 slot)] H fun v H'=>v=.c (.int .i64 (ownF ws slot))∧H'=H:=by
 refine WC_start eX7 (by simp) ?_
 unfold cX7
 obtain⟨h1,h2,-⟩:=hb
 obtain⟨s1,s2⟩:=hs
 obtain⟨n,hn⟩:∃n,ws.length=n:=⟨_,rfl⟩
 rw[hn] at h1 h2 hw
 by_cases c1:slot<0
 ·have e:ownF ws slot=-1:=by unfold ownF;rw[if_pos (.inl c1)]
  rw[e]
  clear h2 hn
  repeat (with_reducible first|(first|refine pI1 ?_|refine pS1 ?_);intros|refine pA1 ?_|refine pX1 ?_|refine pB1 ?_|exact True.intro)
  exact⟨rfl,rfl⟩
 by_cases c2:n=0
 ·have e:ownF ws slot=-1:=by unfold ownF;rw[if_pos (.inr (by omega))]
  rw[e]
  subst c2
  clear h2 hn
  repeat (with_reducible first|(first|refine pI1 ?_|refine pS1 ?_);intros|refine pA1 ?_|refine pX1 ?_|refine pB1 ?_|exact True.intro)
  exact⟨rfl,rfl⟩
 obtain⟨s,rfl⟩:∃s:Nat,slot=s:=⟨slot.toNat,by omega⟩
 obtain⟨q,hq⟩:∃q,q=s % n:=⟨_,rfl⟩
 have hlt:q<n:=by rw[hq];exact Nat.mod_lt _ (by omega)
 have e:ownF ws s=gn ws q:=by unfold ownF;rw[if_neg (by omega),hq,hn,Int.toNat_natCast]
 rw[e]
 obtain⟨⟨lb,y⟩,rfl⟩:=h2.is_some (by omega)
 have hg:=h2.gn hn hlt
 dsimp only at hg
 have hr:(s:Int) % (n:Int)=(q:Nat):=by rw[hq];rfl
 clear h2 hn e hq
 generalize gn ws q=w at *
 repeat (with_reducible first|(first|refine pI1 ?_|refine pS1 ?_);intros|refine pA1 ?_|refine pX1 ?_|refine pB1 ?_|exact True.intro)
 exact⟨rfl,rfl⟩
end Go.Proofs.YtjcgdcadflplcaaDoor.AM.D21
namespace Go.Proofs.YtjcgdcadflplcaaDoor.AM.D21
open Go Go.Proofs.YtjcgdcadflplcaaDoor.AM Go.Proofs.YtjcgdcadflplcaaDoor.AM.C02 Go.Proofs.YtjcgdcadflplcaaDoor.AM.C07
set_option maxHeartbeats 2000000
set_option maxRecDepth 100000
attribute [local go_sem] tn_add1 tn_sub1 put_all' nums_len sub12
theorem s_New {N:Nat} {H:Heap} {c:Cfg} {h:Hd} (hc:CfgM N H c h) (hN:N≤H.length):WC F fXa [.agg (c.cells h)] H fun v H'=>Xt H H'∧
  ((c.check≠0∧v=.tup [.c (.ptr none),.c (.int .i64 c.check)])∨(c.check=0∧∃p e,v=.tup [.c (.ptr (some (p,0))),.c (.int .i64 0)]∧H.length≤p∧p<H'.length∧H.length≤e∧e<H'.length∧BusM H' p (some (e,0)) c.owners.length true c.owners 0 0)):=by
 refine WC_start eXa (by simp) ?_
 unfold cXa
 have hck:=fun(Hx:Heap) (hx:∀b,b<N→Hx[b]?=H[b]?) (hl:N≤Hx.length)=>s_Check (hc.keep (H':=Hx) hx) hl
 have hown:=hc.owners
 have hownN:=hc.ownersN
 obtain⟨C,hC⟩:∃C,C=c.cells h:=⟨_,rfl⟩
 have hsub:sub C 0 12=some C:=by rw[hC];rfl
 have hfld:C[1]?=some (.sl h.a1 c.owners.length h.c1 h.o1):=by rw[hC];rfl
 rw[←hC] at hck ⊢
 have hok:c.check=0→4≤c.owners.length∧c.owners.length≤16:=fun h0=>by
  obtain⟨q1,q2,q3,_⟩:=(Cfg.check_ok.1 h0).nodes
  omega
 obtain⟨k,hk⟩:∃k,k=c.check:=⟨_,rfl⟩
 rw[←hk] at hck hok ⊢
 obtain⟨n,hn⟩:∃n,n=c.owners.length:=⟨_,rfl⟩
 rw[←hn] at hown hfld hok ⊢
 have fin0:=zhd5 hck hown hownN hok hn
 clear hck hown hownN hok hn hk hC hc
 repeat (with_reducible first|(first|refine pI1 ?_|refine pS1 ?_);intros|refine pA1 ?_|refine pX1 ?_|refine pB1 ?_|exact True.intro)
 rename_i b1 H1 p1 g1 x1
 have fx:=zhd1 x1
 clear x1
 repeat (with_reducible first|(first|refine pI1 ?_|refine pS1 ?_);intros|refine pA1 ?_|refine pX1 ?_|refine pB1 ?_|exact True.intro)
 refine outM_call (fin0 _ fun hck _ _ _ _=>hck H1 (fun b hb=>fx _ fun x1=>x1 b (by omega)) (by omega)) ?_
 rintro _ H2 ⟨rfl,l2,x2⟩
 have g2:H2[b1]?=_:=(x2 b1 (by omega)).trans g1
 have fx2:=zhd1 x2
 clear x2 g1
 by_cases h0:k=0
 case neg=>
  repeat (with_reducible first|(first|refine pI1 ?_|refine pS1 ?_);intros|refine pA1 ?_|refine pX1 ?_|refine pB1 ?_|exact True.intro)
  exact⟨⟨by omega,fun b hb=>by rw[fx2 _ fun x2=>x2 b (by omega)];exact fx _ fun x1=>x1 b (by omega)⟩,.inl ⟨h0,rfl⟩⟩
 subst h0
 have hs2:Sl H2 1 h.a1 n (nums c.owners):=fin0 _ fun _ hown hN' _ _=>hown.keep fun b x e=>by
  have:=hN' b x e
  rw[fx2 _ fun x2=>x2 b (by omega)];exact fx _ fun x1=>x1 b (by omega)
 have hn4:=fin0 _ fun _ _ _ hok _=>hok rfl
 have hcl:=s_CloneI (c:=h.c1) (o:=h.o1) hs2 (by omega) (by omega)
 clear hs2
 repeat (with_reducible first|(first|refine pI1 ?_|refine pS1 ?_);intros|refine pA1 ?_|refine pX1 ?_|refine pB1 ?_|exact True.intro)
 refine outM_call hcl ?_
 rintro _ H3 ⟨e,rfl,g3,p3,q3,l3,x3⟩
 clear hcl
 have fx3:=zhd2 x3 g3
 clear x3 g3
 repeat (with_reducible first|(first|refine pI1 ?_|refine pS1 ?_);intros|refine pA1 ?_|refine pX1 ?_|refine pB1 ?_|exact True.intro)
 rename_i b4 H4 p4 g4 x4
 have fx4:=zhd1 x4
 clear x4
 repeat (with_reducible first|(first|refine pI1 ?_|refine pS1 ?_);intros|refine pA1 ?_|refine pX1 ?_|refine pB1 ?_|exact True.intro)
 have hall:∀b,b<H.length→H4[b]?=H[b]?:=fun b hb=>by
  rw[fx4 _ fun x4=>x4 b (by omega),fx3 _ fun x3 _=>x3 b (by omega),fx2 _ fun x2=>x2 b (by omega)];exact fx _ fun x1=>x1 b (by omega)
 refine⟨⟨by omega,hall⟩,.inr ⟨rfl,b4,e,rfl,by omega,by omega,by omega,by omega,?_⟩⟩
 have hn:=fin0 _ fun _ _ _ _ hn=>hn
 refine⟨by rw[←hn];exact g4,?_,fun b x e'=>by cases e';omega⟩
 refine Sl.blk ((fx4 _ fun x4=>x4 e (by omega)).trans (fx3 _ fun _ g3=>g3)) (by rw[nums_len])
theorem s_pass1 {H:Heap} {b:Nat} {ow nd:Int} {x:Cell} (hb:H[b]?=some (.cells [.int .i64 ow] false none)):
  WC F fX9 [.agg [.int .i64 nd,x],.c (.ptr (some (b,0)))] H fun v H'=>v=.c (.bool (decide (0≤ow∧nd=ow)))∧Xt H H':=by
 refine WC_start eX9 (by simp) ?_
 unfold cX9
 have hlt:=lt_of_get hb
 repeat (with_reducible first|(first|refine pI1 ?_|refine pS1 ?_);intros|refine pA1 ?_|refine pX1 ?_|refine pB1 ?_|exact True.intro)
 rename_i b1 H1 p1 g1 x1
 have k1:H1[b]?=_:=(x1 b (by omega)).trans hb
 have fx:=zhd1 x1
 clear x1 hb
 by_cases c1:0≤ow
 ·by_cases c2:nd=ow
  ·subst c2
   repeat (with_reducible first|(first|refine pI1 ?_|refine pS1 ?_);intros|refine pA1 ?_|refine pX1 ?_|refine pB1 ?_|exact True.intro)
   exact⟨by simp[c1],by omega,fun b hb=>fx _ fun x1=>x1 b (by omega)⟩
  ·repeat (with_reducible first|(first|refine pI1 ?_|refine pS1 ?_);intros|refine pA1 ?_|refine pX1 ?_|refine pB1 ?_|exact True.intro)
   exact⟨by simp[c1,c2],by omega,fun b hb=>fx _ fun x1=>x1 b (by omega)⟩
 ·repeat (with_reducible first|(first|refine pI1 ?_|refine pS1 ?_);intros|refine pA1 ?_|refine pX1 ?_|refine pB1 ?_|exact True.intro)
  exact⟨by simp[c1],by omega,fun b hb=>fx _ fun x1=>x1 b (by omega)⟩
end Go.Proofs.YtjcgdcadflplcaaDoor.AM.D21
namespace Go.Proofs.YtjcgdcadflplcaaDoor.AM.D21
open Go Go.Proofs.YtjcgdcadflplcaaDoor.AM Go.Proofs.YtjcgdcadflplcaaDoor.AM.C02 Go.Proofs.YtjcgdcadflplcaaDoor.AM.C07
set_option maxHeartbeats 2000000
set_option maxRecDepth 100000
attribute [local go_sem] tn_add1 tn_sub1 put_all' nums_len
theorem sub2 (a b:Cell):sub [a,b] 0 2=some [a,b]:=rfl
attribute [local go_sem] sub2
theorem s_IndexFunc {N p:Nat} {H:Heap} {b8 n c:Nat} {o:Bool} {ow:Int} {a:Option Ad} {l:List Snd} (hb:H[b8]?=some (.cells [.int .i64 ow] false none)) (hn:l.length=n) (hn2:n≤100000) (ht:Snds N p H a l) (hN:N≤H.length):
  WC F fX1g [.c (.sl a n c o),.c (.fn fX9 [] [(b8,0)])] H fun v H'=>((v=.c (.int .i64 (-1))∧noneP ow l)∨∃i:Nat,v=.c (.int .i64 (i:Nat))∧fstP ow l i)∧Xt H H':=by
 refine WC_start eX1g (by simp) ?_
 unfold cX1g
 have hlt:=lt_of_get hb
 have fin0:=zhd3 hn ht hb
 clear hn ht hb
 repeat (with_reducible first|(first|refine pI1 ?_|refine pS1 ?_);intros|refine pA1 ?_|refine pX1 ?_|refine pB1 ?_|exact True.intro)
 refine W_loop (fun m st=>∃ρ,∃i:Nat,∃Hk,st=⟨L 19 ρ,[],Hk⟩∧m=n-i∧i≤n∧ρ 0=.c (.sl a n c o)∧ρ 1=.c (.fn fX9 [] [(b8,0)])∧ρ 7=.c (.int .i64 (n:Nat))∧ρ 8=.c (.int .i64 (i:Nat))∧Xt H Hk∧∀j,j<i→0≤ow→(gs l j).node≠ow) n ⟨_,0,H,rfl,rfl,by omega,zf,zf,zf,zf,⟨Nat.le_refl _,fun _ _=>rfl⟩,fun j hj=>by omega⟩ ?_
 rintro m st ⟨ρ,i,Hk,rfl,rfl,hi,e0,e1,e7,e8,⟨lk,xk⟩,hall⟩
 unfold bX1g_7
 have fin1:=zhd2 hall xk
 have k8:Hk[b8]?=_:=(xk b8 (by omega)).trans (fin0 _ fun _ _ hb=>hb)
 clear hall xk
 by_cases hin:i<n
 ·obtain⟨lb,y,a',c',o',ea,hlb,-,hld,-⟩:=fin0 _ fun hn ht _=>send_at ht (i:=i) (by omega)
  rw[←fin1 _ fun _ xk=>xk lb (by omega)] at hld
  rw[ea] at e0
  have fea:=zhd1 ea
  clear ea
  have hyes:0≤ow→(gs l i).node=ow→fstP ow l i:=fun h1 h2=>⟨by have:=fin0 _ fun hn _ _=>hn;omega,h1,h2,fun j hj=>fin1 _ fun hall _=>hall j hj h1⟩
  have hno:¬(0≤ow∧(gs l i).node=ow)→∀j,j<i+1→0≤ow→(gs l j).node≠ow:=fun h j hj h1 h2=>by
   by_cases e:j=i
   ·subst e;exact h ⟨h1,h2⟩
   ·exact fin1 _ fun hall _=>hall j (by omega) h1 h2
  generalize (gs l i).node=nd at *
  generalize (gs l i).bytes.length=bn at *
  have fin2:=zhd2 hyes hno
  clear hyes hno
  have hp1:=s_pass1 (nd:=nd) (x:=.sl a' bn c' o') k8
  clear k8
  by_cases hq:0≤ow∧nd=ow
  ·rw[decide_eq_true hq] at hp1
   have fq:=zhd1 hq
   clear hq
   repeat (with_reducible first|(first|refine pI1 ?_|refine pS1 ?_);intros|refine pA1 ?_|refine pX1 ?_|refine pB1 ?_|exact True.intro)
   refine outM_call hp1 ?_
   rintro _ H2 ⟨rfl,l2,x2⟩
   have fx:=zhd1 x2
   clear x2 hp1
   repeat (with_reducible first|(first|refine pI1 ?_|refine pS1 ?_);intros|refine pA1 ?_|refine pX1 ?_|refine pB1 ?_|exact True.intro)
   exact⟨.inr ⟨i,rfl,fin2 _ fun hy _=>fq _ fun hq=>hy hq.1 hq.2⟩,by omega,fun b hb=>by rw[fx _ fun x2=>x2 b (by omega)];exact fin1 _ fun _ xk=>xk b hb⟩
  ·rw[decide_eq_false hq] at hp1
   have fq:=zhd1 hq
   clear hq
   repeat (with_reducible first|(first|refine pI1 ?_|refine pS1 ?_);intros|refine pA1 ?_|refine pX1 ?_|refine pB1 ?_|exact True.intro)
   refine outM_call hp1 ?_
   rintro _ H2 ⟨rfl,l2,x2⟩
   have fx:=zhd1 x2
   clear x2 hp1
   repeat (with_reducible first|(first|refine pI1 ?_|refine pS1 ?_);intros|refine pA1 ?_|refine pX1 ?_|refine pB1 ?_|exact True.intro)
   refine loopQ_n (n-(i+1)) (by omega) ⟨_,i+1,H2,rfl,rfl,by omega,?_,zf,zf,zf,⟨by omega,fun b hb=>by rw[fx _ fun x2=>x2 b (by omega)];exact fin1 _ fun _ xk=>xk b hb⟩,fin2 _ fun _ hn=>fq _ fun hq=>hn hq⟩
   rw[fea _ fun h=>h]
   exact zf
 ·obtain rfl:i=n:=by omega
  repeat (with_reducible first|(first|refine pI1 ?_|refine pS1 ?_);intros|refine pA1 ?_|refine pX1 ?_|refine pB1 ?_|exact True.intro)
  exact⟨.inl ⟨rfl,fun j hj=>fin1 _ fun hall _=>hall j (by have:=fin0 _ fun hn _ _=>hn;omega)⟩,by omega,fin1 _ fun _ xk=>xk⟩
end Go.Proofs.YtjcgdcadflplcaaDoor.AM.D21
namespace Go.Proofs.YtjcgdcadflplcaaDoor.AM.D21
open Go Go.Proofs.YtjcgdcadflplcaaDoor.AM Go.Proofs.YtjcgdcadflplcaaDoor.AM.C02 Go.Proofs.YtjcgdcadflplcaaDoor.AM.C07
set_option maxHeartbeats 2000000
set_option maxRecDepth 100000
attribute [local go_sem] tn_add1 tn_sub1 put_all' nums_len
def PassQ (N:Nat) (p:Nat) (a:Option Ad) (c:Nat) (o:Bool) (ws:List Int) (bl pa:Nat) (slot:Int) (l:List Snd) (v:V) (H':Heap):Prop:=
 (noneP (ownF ws slot) l∧v=.tup [.c (.sl none 0 0 false),.c (.bool false)]∧BusM H' p a c o ws ((bl+l.length) % 18446744073709551616) pa)∨
 (∃i a' c' o',fstP (ownF ws slot) l i∧v=.tup [.c (.sl a' (gs l i).bytes.length c' o'),.c (.bool true)]∧Sl H' 1 a' (gs l i).bytes.length (nats .u8 (gs l i).bytes)∧(∀b x,a'=some (b,x)→b<N∧b≠p)∧(∀x∈(gs l i).bytes,x<256)∧BusM H' p a c o ws ((bl+(l.length-1)) % 18446744073709551616) ((pa+1) % 18446744073709551616))
def But (p:Nat) (H H':Heap):Prop:=H.length≤H'.length∧∀b,b<H.length→b≠p→H'[b]?=H[b]?
theorem s_pass {N p:Nat} {H:Heap} {a a2:Option Ad} {c c2:Nat} {o o2:Bool} {ws:List Int} {bl pa:Nat} {slot:Int} {l:List Snd} {n:Nat} (hb:BusM H p a c o ws bl pa) (hw:ws.length≤100000) (hs:i64 slot) (ht:Snds N p H a2 l) (hn:l.length=n) (hn2:n≤100000) (hN:N≤H.length):
  WC F fX8 [.c (.ptr (some (p,0))),.c (.int .i64 slot),.c (.sl a2 n c2 o2)] H fun v H'=>PassQ N p a c o ws bl pa slot l v H'∧But p H H':=by
 refine WC_start eX8 (by simp) ?_
 unfold cX8
 have how:=s_owner hb hw hs
 have hpl:p<H.length:=lt_of_get hb.1
 have hal:∀b x,a=some (b,x)→b<H.length:=fun b x e=>hb.2.1.lt e
 have fin0:=zhd3 hb ht hal
 obtain⟨ow,how2⟩:∃ow,ow=ownF ws slot:=⟨_,rfl⟩
 rw[←how2] at how
 unfold PassQ
 rw[←how2,hn]
 clear hb hw hs ht hal how2
 repeat (with_reducible first|(first|refine pI1 ?_|refine pS1 ?_);intros|refine pA1 ?_|refine pX1 ?_|refine pB1 ?_|exact True.intro)
 refine outM_call how ?_
 rintro _ H1 ⟨rfl,rfl⟩
 clear how
 repeat (with_reducible first|(first|refine pI1 ?_|refine pS1 ?_);intros|refine pA1 ?_|refine pX1 ?_|refine pB1 ?_|exact True.intro)
 rename_i b8 H0 p8 g0 x0 H2 l8 g8 x8
 have x8':∀b,b<H1.length→H2[b]?=H1[b]?:=fun b hb=>by rw[x8 b (by omega),x0 b (by omega)]
 clear x8 x0 g0
 have fx:=zhd1 x8'
 clear x8'
 have hix:=s_IndexFunc (n:=n) (c:=c2) (o:=o2) g8 hn hn2 ((fin0 _ fun _ ht _=>ht).keep (H':=H2) fun b hb _=>fx _ fun x8=>x8 b (by omega)) (by omega)
 have fg:=zhd1 g8
 clear g8
 repeat (with_reducible first|(first|refine pI1 ?_|refine pS1 ?_);intros|refine pA1 ?_|refine pX1 ?_|refine pB1 ?_|exact True.intro)
 refine outM_call hix ?_
 rintro _ H3 ⟨hv,l3,x3⟩
 clear hix
 have gp:H3[p]?=_:=((x3 p (by omega)).trans (fx _ fun x8=>x8 p (by omega))).trans (fin0 _ fun hb _ _=>hb.1)
 have hx3:∀b,b<H1.length→H3[b]?=H1[b]?:=fun b hb=>by rw[x3 b (by omega)];exact fx _ fun x8=>x8 b (by omega)
 have fx3:=zhd1 hx3
 clear hx3 x3
 rcases hv with ⟨rfl,hno⟩|⟨i,rfl,hfst⟩
 ·have had:=s_Add (k:=n) gp (o:=1) rfl
  have fno:=zhd1 hno
  clear gp hno
  repeat (with_reducible first|(first|refine pI1 ?_|refine pS1 ?_);intros|refine pA1 ?_|refine pX1 ?_|refine pB1 ?_|exact True.intro)
  refine outM_call had ?_
  rintro _ H4 ⟨h4,l4,x4⟩
  have f4:=zhd2 h4 x4
  clear h4 x4 had
  repeat (with_reducible first|(first|refine pI1 ?_|refine pS1 ?_);intros|refine pA1 ?_|refine pX1 ?_|refine pB1 ?_|exact True.intro)
  refine⟨.inl ⟨fno _ fun h=>h,rfl,?_⟩,by omega,fun b hb hp=>by rw[f4 _ fun _ x4=>x4 b hp];exact fx3 _ fun x=>x b hb⟩
  refine⟨f4 _ fun h _=>h,?_,fin0 _ fun hb _ _=>hb.2.2⟩
  exact fin0 _ fun hb _ hal=>hb.2.1.keep fun b x e=>by rw[f4 _ fun _ x4=>x4 b (hb.2.2 _ _ e)];exact fx3 _ fun x'=>x' b (hal _ _ e)
 ·have hin:i<n:=by have:=hfst.1;omega
  obtain⟨m,rfl⟩:∃m,n=m+1:=⟨n-1,by omega⟩
  have had:=s_Add (k:=m) gp (o:=1) rfl
  have ff:=zhd1 hfst
  clear gp hfst
  repeat (with_reducible first|(first|refine pI1 ?_|refine pS1 ?_);intros|refine pA1 ?_|refine pX1 ?_|refine pB1 ?_|exact True.intro)
  refine outM_call had ?_
  rintro _ H4 ⟨h4,l4,x4⟩
  have had2:=s_Add (k:=1) h4 (o:=2) rfl
  have f4:=zhd1 x4
  clear h4 x4 had
  repeat (with_reducible first|(first|refine pI1 ?_|refine pS1 ?_);intros|refine pA1 ?_|refine pX1 ?_|refine pB1 ?_|exact True.intro)
  refine outM_call had2 ?_
  rintro _ H5 ⟨h5,l5,x5⟩
  have f5:=zhd2 h5 x5
  clear h5 x5 had2
  have hx5:∀b,b<H1.length→b≠p→H5[b]?=H1[b]?:=fun b hb hp=>by rw[f5 _ fun _ x5=>x5 b hp,f4 _ fun x4=>x4 b hp];exact fx3 _ fun x=>x b hb
  have f6:=zhd1 hx5
  clear hx5
  obtain⟨lb,y,a',c',o',rfl,hlb,hlp,hld,hsl,hab,-,hby⟩:=send_at (i:=i) ((fin0 _ fun _ ht _=>ht).keep (H':=H5) fun b hb hp=>f6 _ fun h=>h b (by omega) hp) (by omega)
  obtain⟨hd0,hd1⟩:=ldB_two hld
  have f7:=zhd3 hsl hab hby
  clear hsl hab hby hld hd0
  repeat (with_reducible first|(first|refine pI1 ?_|refine pS1 ?_);intros|refine pA1 ?_|refine pX1 ?_|refine pB1 ?_|exact True.intro)
  refine⟨.inr ⟨i,a',c',o',ff _ fun h=>h,rfl,f7 _ fun h _ _=>h,fun b x e=>f7 _ fun _ h _=>⟨by have:=(h b x e).1;omega,(h b x e).2⟩,f7 _ fun _ _ h=>h,?_⟩,by omega,f6 _ fun h=>h⟩
  refine⟨f5 _ fun h _=>h,?_,fin0 _ fun hb _ _=>hb.2.2⟩
  exact fin0 _ fun hb _ hal=>hb.2.1.keep fun b x e=>f6 _ fun h=>h b (hal _ _ e) (hb.2.2 _ _ e)
theorem s_Blocked {H:Heap} {p:Nat} {a:Option Ad} {c:Nat} {o:Bool} {ws:List Int} {bl pa:Nat} (hb:BusM H p a c o ws bl pa):WC F fX4 [.c (.ptr (some (p,0)))] H fun v H'=>v=.c (.int .u64 (bl:Nat))∧H'=H:=by
 refine WC_start eX4 (by simp) ?_
 unfold cX4
 have h0:=s_Load hb.1 (o:=1) (n:=bl) rfl
 clear hb
 repeat (with_reducible first|(first|refine pI1 ?_|refine pS1 ?_);intros|refine pA1 ?_|refine pX1 ?_|refine pB1 ?_|exact True.intro)
 refine outM_call h0 ?_
 rintro _ H1 ⟨rfl,rfl⟩
 repeat (with_reducible first|(first|refine pI1 ?_|refine pS1 ?_);intros|refine pA1 ?_|refine pX1 ?_|refine pB1 ?_|exact True.intro)
 exact⟨rfl,rfl⟩
end Go.Proofs.YtjcgdcadflplcaaDoor.AM.D21
namespace Go.Proofs.YtjcgdcadflplcaaDoor.AM.D21
open Go Go.Proofs.YtjcgdcadflplcaaDoor.AM Go.Proofs.YtjcgdcadflplcaaDoor.AM.C02 Go.Proofs.YtjcgdcadflplcaaDoor.AM.C07
set_option maxHeartbeats 2000000
set_option maxRecDepth 100000
attribute [local go_sem] tn_add1 tn_sub1 put_all' nums_len
theorem outM_appN {H:Heap} {k:V→Heap→Prop} {b1:Nat} {b:Option Ad} {j c₂:Nat} {o₂:Bool} {ys:List Cell} (ha:H[b1]?=some (.cells [] false none)) (h2:Sl H 1 b j ys) (hm:j≤100000000)
  (hq:∀e c o g H',b1≤e→e<H'.length→j≤c→H'[e]?=some (.cells ys false g)→H.length≤H'.length→(∀c,c<H.length→H'[c]?=H[c]?)→k (.c (.sl (some (e,0)) j c o)) H'):
  outM F (appO 1 1 (.c (.sl (some (b1,0)) 0 0 false)) (.c (.sl b j c₂ o₂)) H) k ⟨⟩:=by
 have hl:=h2.len
 rw[Nat.mul_one] at hl
 by_cases h0:j=0
 ·subst h0
  obtain rfl:ys=[]:=List.length_eq_zero_iff.1 hl
  have e:appO 1 1 (.c (.sl (some (b1,0)) 0 0 false)) (.c (.sl b 0 c₂ o₂)) H=some (.v (.c (.sl (some (b1,0)) 0 0 false)),H):=by
   simp only[appO,aop]
   cases b with
   |none=>simp[appH]
   |some b=>
    have:=h2.rd b rfl
    simp only[this,Option.bind_some]
    simp[appH]
  rw[e]
  exact hq b1 0 false none H (Nat.le_refl _) (lt_of_get ha) (Nat.le_refl _) ha (Nat.le_refl _) fun _ _=>rfl
 ·refine outM_appC (Sl.blk ha rfl) h2 (by omega) (by unfold most;omega) ?_
  intro e H' p1 p2 p3
  rw[Nat.zero_add]
  rw[List.nil_append] at p2
  exact hq e _ _ _ H' (by have:=lt_of_get ha;omega) (by omega) (by omega) p2 (by omega) fun c hc=>p3 c (by omega)
theorem s_Carry1 {H:Heap} {b n c:Nat} {a:Option Ad} {o:Bool} {xs:List Cell} (hb:H[b]?=some (.cells [.sl a n c o] false none)) (hs:Sl H 1 a n xs) (hn:n≤100000):
  WC F fX6 [.c (.ptr (some (b,0)))] H fun v H'=>(∃e c' o' g,v=.c (.sl (some (e,0)) n c' o')∧H.length≤e∧e<H'.length∧n≤c'∧H'[e]?=some (.cells xs false g))∧Xt H H':=by
 refine WC_start eX6 (by simp) ?_
 unfold cX6
 have hlt:=lt_of_get hb
 repeat (with_reducible first|(first|refine pI1 ?_|refine pS1 ?_);intros|refine pA1 ?_|refine pX1 ?_|refine pB1 ?_|exact True.intro)
 rename_i b1 H1 p1 g1 x1
 have hb1:H1[b]?=_:=(x1 b (by omega)).trans hb
 have hs1:Sl H1 1 a n xs:=hs.to fun c hc=>x1 c (by omega)
 have hx1:∀b,b<H.length→H1[b]?=H[b]?:=fun b hb=>x1 b (by omega)
 have fx:=zhd2 hs1 hx1
 clear hb hs hs1 x1 hx1
 repeat (with_reducible first|(first|refine pI1 ?_|refine pS1 ?_);intros|refine pA1 ?_|refine pX1 ?_|refine pB1 ?_|exact True.intro)
 refine outM_appN g1 (fx _ fun h _=>h) (by omega) ?_
 intro e c' o' g H2 p2 q2 k2 g2 l2 x2
 have fx2:=zhd1 x2
 clear x2
 repeat (with_reducible first|(first|refine pI1 ?_|refine pS1 ?_);intros|refine pA1 ?_|refine pX1 ?_|refine pB1 ?_|exact True.intro)
 exact⟨⟨e,c',o',g,rfl,by omega,by omega,k2,g2⟩,by omega,fun b hb=>by rw[fx2 _ fun x2=>x2 b (by omega)];exact fx _ fun _ x=>x b hb⟩
end Go.Proofs.YtjcgdcadflplcaaDoor.AM.D21
namespace Go.Proofs.YtjcgdcadflplcaaDoor.AM.D21
open Go Go.Proofs.YtjcgdcadflplcaaDoor.AM Go.Proofs.YtjcgdcadflplcaaDoor.AM.C02 Go.Proofs.YtjcgdcadflplcaaDoor.AM.C07
set_option maxHeartbeats 2000000
set_option maxRecDepth 100000
attribute [local go_sem] tn_add1 tn_sub1 put_all' nums_len
theorem sub3k (a b c:Cell):sub [a,b,c] 0 3=some [a,b,c]:=rfl
attribute [local go_sem] sub3k
def Kp (ρ ρ':Nat→V):Prop:=ρ' 0=ρ 0∧ρ' 1=ρ 1∧ρ' 3=ρ 3∧ρ' 10=ρ 10∧ρ' 11=ρ 11∧ρ' 13=ρ 13∧ρ' 14=ρ 14∧ρ' 15=ρ 15∧ρ' 40=ρ 40∧ρ' 41=ρ 41
theorem carry_pick {ρ:Nat→V} {H:Heap} {N p b15 i n3 c3:Nat} {a a3:Option Ad} {c:Nat} {o o3:Bool} {ws:List Int} {bl pa:Nat} {slot:Int} {cps:List Cpy} (e0:ρ 0=.c (.ptr (some (p,0)))) (e1:ρ 1=.c (.int .i64 slot)) (e3:ρ 3=.c (.sl a3 n3 c3 o3)) (e14:ρ 14=.c (.int .i64 (i:Nat))) (e15:ρ 15=.c (.ptr (some (b15,0))))
  (g:H[b15]?=some (.cells cpy0.cells false none)) (hb:BusM H p a c o ws bl pa) (hw:ws.length≤100000) (hs:i64 slot) (hc:Tab 3 CpR N H a3 cps) (hn:cps.length=n3) (hn3:n3≤100000):
  W F none (.seq (.ops oX5_14) (.cond (.t 55) (.ops oX5_15) .skip)) ⟨L 84 ρ,[],H⟩ fun e s=>e=.normal∧∃ρ' H',s=⟨L 84 ρ',[],H'⟩∧Kp ρ ρ'∧H'[b15]?=some (.cells (cpF (ownF ws slot) cps i).cells false none)∧H'.length=H.length∧∀b,b≠b15→H'[b]?=H[b]?:=by
 have how:=s_owner hb hw hs
 have fin0:=zhd2 hc hn
 obtain⟨ow,how2⟩:∃ow,ow=ownF ws slot:=⟨_,rfl⟩
 rw[←how2] at how ⊢
 clear how2 hc hn hb hw hs
 by_cases c1:i<n3
 ·by_cases c2:(i:Int)=ow
  ·have e:cpF ow cps i=cpy0:=by unfold cpF;rw[if_neg fun h=>h.2 c2]
   rw[e]
   have fg:=zhd1 g
   subst c2
   clear g
   repeat (with_reducible first|(first|refine pI1 ?_|refine pS1 ?_);intros|refine pA1 ?_|refine pX1 ?_|refine pB1 ?_|exact True.intro)
   refine outM_call how ?_
   rintro _ H1 ⟨rfl,rfl⟩
   clear how
   repeat (with_reducible first|(first|refine pI1 ?_|refine pS1 ?_);intros|refine pA1 ?_|refine pX1 ?_|refine pB1 ?_|exact True.intro)
   exact⟨rfl,_,_,rfl,⟨zf,zf,zf,zf,zf,zf,zf,zf,zf,zf⟩,fg _ fun g=>g,rfl,fun _ _=>rfl⟩
  ·have e:cpF ow cps i=gc cps i:=by unfold cpF;rw[if_pos ⟨by rw[fin0 _ fun _ h=>h];exact c1,c2⟩]
   rw[e]
   obtain⟨lb,y,ea,-,hld,-⟩:=fin0 _ fun hc hn=>copy_at hc (i:=i) (by omega)
   generalize gc cps i=q at *
   obtain⟨k,az,mk⟩:=q
   dsimp only [Cpy.cells,cpy0] at hld g ⊢
   rw[ea] at e3
   clear ea e
   repeat (with_reducible first|(first|refine pI1 ?_|refine pS1 ?_);intros|refine pA1 ?_|refine pX1 ?_|refine pB1 ?_|exact True.intro)
   refine outM_call how ?_
   rintro _ H1 ⟨rfl,rfl⟩
   clear how
   repeat (with_reducible first|(first|refine pI1 ?_|refine pS1 ?_);intros|refine pA1 ?_|refine pX1 ?_|refine pB1 ?_|exact True.intro)
   have lg:=lt_of_get g
   exact⟨rfl,_,_,rfl,⟨zf,zf,zf,zf,zf,zf,zf,zf,zf,zf⟩,get_set_same _ lg,by rw[List.length_set],fun b hb=>List.getElem?_set_ne (Ne.symm hb)⟩
 ·have e:cpF ow cps i=cpy0:=by unfold cpF;rw[if_neg fun h=>c1 (by rw[←fin0 _ fun _ h=>h];exact h.1)]
  rw[e]
  have fg:=zhd1 g
  clear g how
  repeat (with_reducible first|(first|refine pI1 ?_|refine pS1 ?_);intros|refine pA1 ?_|refine pX1 ?_|refine pB1 ?_|exact True.intro)
  exact⟨rfl,_,_,rfl,⟨zf,zf,zf,zf,zf,zf,zf,zf,zf,zf⟩,fg _ fun g=>g,rfl,fun _ _=>rfl⟩
end Go.Proofs.YtjcgdcadflplcaaDoor.AM.D21
namespace Go.Proofs.YtjcgdcadflplcaaDoor.AM.D21
open Go Go.Proofs.YtjcgdcadflplcaaDoor.AM Go.Proofs.YtjcgdcadflplcaaDoor.AM.C02 Go.Proofs.YtjcgdcadflplcaaDoor.AM.C07
set_option maxHeartbeats 2000000
set_option maxRecDepth 100000
attribute [local go_sem] tn_add1 tn_sub1 put_all' nums_len
theorem carry_put {ρ:Nat→V} {H:Heap} {b15 b11 bo lo m i n c':Nat} {a':Option Ad} {o':Bool} {l:List Nat} {cp:Cpy} {f:Nat→Option (List Nat)} (e10:ρ 10=.c (.sl (some (bo,0)) m m false)) (e11:ρ 11=.c (.ptr (some (b11,0)))) (e13:ρ 13=.c (.fn fX6 [] [(b11,0)])) (e14:ρ 14=.c (.int .i64 (i:Nat))) (e15:ρ 15=.c (.ptr (some (b15,0))))
  (g15:H[b15]?=some (.cells cp.cells false none)) (g11:H[b11]?=some (.cells [.sl a' n c' o'] false none)) (hs:Sl H 1 a' n (nats .u8 l)) (hln:l.length=n) (hn:n≤100000) (hby:∀x∈l,x<256) (ho:Outs H lo bo m f) (hi:i<m) (hlo:lo≤bo) (h0:f i=none) (hcp:i64 cp.at_∧cp.mask<4294967296):
  W F none (.seq (.ops oX5_16) (.block 3 (.seq (.ops oX5_17) (.cond (.t 67) .skip (.seq (.ops oX5_18) (.cond (.t 69) (.ops oX5_19) (.ops oX5_20))))))) ⟨L 84 ρ,[],H⟩ fun e s=>e=.normal∧∃ρ' H',s=⟨L 84 ρ',[],H'⟩∧Kp ρ ρ'∧H.length≤H'.length∧(∀b,b<H.length→b≠bo→H'[b]?=H[b]?)∧Outs H' lo bo m (fun j=>if j=i then becomes cp l else f j):=by
 have hbo:bo<H.length:=by obtain⟨_,h,_⟩:=ho;exact lt_of_get h
 have l11:=lt_of_get g11
 have hme:∃k1 k2 k3,cp=⟨k1,k2,k3⟩:=⟨_,_,_,rfl⟩
 obtain⟨kd,az,mk,rfl⟩:=hme
 obtain⟨⟨ha1,ha2⟩,hmk⟩:=hcp
 dsimp only at ha1 ha2 hmk
 dsimp only [Cpy.cells] at g15
 have fin0:=zhd4 hs hln hby ho
 clear hs hln hby ho
 by_cases k1:kd=1
 ·have e:∀f',f'=becomes ⟨kd,az,mk⟩ l→f'=f i:=fun f' h=>by rw[h,h0];unfold becomes;rw[if_pos k1]
  subst k1
  have hfe:=zhd1 e
  clear e h0
  repeat (with_reducible first|(first|refine pI1 ?_|refine pS1 ?_);intros|refine pA1 ?_|refine pX1 ?_|refine pB1 ?_|exact True.intro)
  refine⟨rfl,_,_,rfl,⟨zf,zf,zf,zf,zf,zf,zf,zf,zf,zf⟩,Nat.le_refl _,fun _ _ _=>rfl,?_⟩
  refine(fin0 _ fun _ _ _ ho=>ho).same fun j _=>?_
  by_cases hji:j=i
  ·rw[if_pos hji,hji];exact(hfe _ fun h=>(h _ rfl)).symm
  ·rw[if_neg hji]
 by_cases k2:kd=2
 ·have e:becomes ⟨kd,az,mk⟩ l=some (P3.corr l az mk):=by unfold becomes;rw[if_neg k1,if_pos k2]
  rw[e]
  subst k2
  clear e h0 k1
  have hco:=fun(Hx:Heap) (hx:Xt H Hx)=>s_Corrupt (c:=c') (o:=o') (at_:=az) (mask:=mk) ((fin0 _ fun hs _ _ _=>hs).to fun b hb=>hx.2 b hb) hn ha1 ha2 hmk (fin0 _ fun _ _ hby _=>hby)
  have fco:=zhd1 hco
  clear hco
  repeat (with_reducible first|(first|refine pI1 ?_|refine pS1 ?_);intros|refine pA1 ?_|refine pX1 ?_|refine pB1 ?_|exact True.intro)
  rename_i b1 H1 p1 g1 x1
  have fx:=zhd1 x1
  have g111:H1[b11]?=_:=(x1 b11 (by omega)).trans g11
  have g151:H1[b15]?=_:=(x1 b15 (by have:=lt_of_get g15;omega)).trans g15
  clear x1
  repeat (with_reducible first|(first|refine pI1 ?_|refine pS1 ?_);intros|refine pA1 ?_|refine pX1 ?_|refine pB1 ?_|exact True.intro)
  refine outM_call (fco _ fun h=>h H1 ⟨by omega,fun b hb=>fx _ fun x1=>x1 b (by omega)⟩) ?_
  rintro v H2 ⟨⟨a2,c2,o2,rfl,own,hlo2⟩,l2,x2⟩
  have hcl:(nats .u8 (P3.corr l az mk)).length=n:=by rw[nats_len,P3.corr_len];exact fin0 _ fun _ h _ _=>h
  rw[hcl] at own ⊢
  have g12:H2[b1]?=_:=(x2 b1 (by omega)).trans g1
  have hx2:∀b,b<H.length→H2[b]?=H[b]?:=fun b hb=>by rw[x2 b (by omega)];exact fx _ fun x1=>x1 b (by omega)
  have fx2:=zhd2 hx2 own.sl
  clear hx2 x2 own hcl g111 g151 g1
  repeat (with_reducible first|(first|refine pI1 ?_|refine pS1 ?_);intros|refine pA1 ?_|refine pX1 ?_|refine pB1 ?_|exact True.intro)
  refine outM_appN g12 (fx2 _ fun _ h=>h) (by omega) ?_
  intro e c3 o3 g H3 p3 q3 k3 g3 l3 x3
  have hx3:∀b,b<H.length→H3[b]?=H[b]?:=fun b hb=>by rw[x3 b (by omega)];exact fx2 _ fun x2 _=>x2 b hb
  obtain⟨cells,q1,q2,q3'⟩:=(fin0 _ fun _ _ _ ho=>ho).keep (H':=H3) hlo fun b _ hb=>hx3 b hb
  have fx3:=zhd3 hx3 q3' g3
  clear hx3 x3 q3' g3 g12
  repeat (with_reducible first|(first|refine pI1 ?_|refine pS1 ?_);intros|refine pA1 ?_|refine pX1 ?_|refine pB1 ?_|exact True.intro)
  rename_i H4 l4 g4 x4
  refine⟨rfl,_,_,rfl,⟨zf,zf,zf,zf,zf,zf,zf,zf,zf,zf⟩,by omega,fun b hb hb2=>?_,?_⟩
  ·rw[x4 b hb2];exact fx3 _ fun x _ _=>x b hb
  ·exact Outs.put q2 (fx3 _ fun _ h _=>h) hi (by omega) (by omega) (fx3 _ fun _ _ h=>h) (by rw[P3.corr_len];exact fin0 _ fun _ h _ _=>h) (P3.corr_by (fin0 _ fun _ _ h _=>h) _ _) k3 g4 x4
 ·have e:becomes ⟨kd,az,mk⟩ l=some l:=by unfold becomes;rw[if_neg k1,if_neg k2]
  rw[e]
  clear e h0
  have hca:=s_Carry1 g11 (fin0 _ fun hs _ _ _=>hs) hn
  clear g11
  repeat (with_reducible first|(first|refine pI1 ?_|refine pS1 ?_);intros|refine pA1 ?_|refine pX1 ?_|refine pB1 ?_|exact True.intro)
  refine outM_call hca ?_
  rintro v H3 ⟨⟨e,c3,o3,g,rfl,p3,q3,k3,g3⟩,l3,x3⟩
  obtain⟨cells,q1,q2,q3'⟩:=(fin0 _ fun _ _ _ ho=>ho).keep (H':=H3) hlo fun b _ hb=>x3 b hb
  have fx3:=zhd3 x3 q3' g3
  clear x3 q3' g3 hca g15
  repeat (with_reducible first|(first|refine pI1 ?_|refine pS1 ?_);intros|refine pA1 ?_|refine pX1 ?_|refine pB1 ?_|exact True.intro)
  rename_i H4 l4 g4 x4
  refine⟨rfl,_,_,rfl,⟨zf,zf,zf,zf,zf,zf,zf,zf,zf,zf⟩,by omega,fun b hb hb2=>?_,?_⟩
  ·rw[x4 b hb2];exact fx3 _ fun x _ _=>x b hb
  ·exact Outs.put q2 (fx3 _ fun _ h _=>h) hi (by omega) (by omega) (fx3 _ fun _ _ h=>h) (fin0 _ fun _ h _ _=>h) (fin0 _ fun _ _ h _=>h) k3 g4 x4
end Go.Proofs.YtjcgdcadflplcaaDoor.AM.D21
namespace Go.Proofs.YtjcgdcadflplcaaDoor.AM.D21
open Go Go.Proofs.YtjcgdcadflplcaaDoor.AM Go.Proofs.YtjcgdcadflplcaaDoor.AM.C02 Go.Proofs.YtjcgdcadflplcaaDoor.AM.C07
set_option maxHeartbeats 2000000
set_option maxRecDepth 100000
attribute [local go_sem] tn_add1 tn_sub1 put_all' nums_len
def CarQ (H:Heap) (p:Nat) (a:Option Ad) (c:Nat) (o:Bool) (ws:List Int) (bl pa:Nat) (slot:Int) (l:List Snd) (cps:List Cpy) (v:V) (H':Heap):Prop:=
 ∃bo f,v=.tup [.c (.sl (some (bo,0)) ws.length ws.length false),.c (.int .i64 0)]∧H.length≤bo∧bo<H'.length∧Outs H' H.length bo ws.length f∧
  ((noneP (ownF ws slot) l∧(∀j,f j=none)∧BusM H' p a c o ws ((bl+l.length) % 18446744073709551616) pa)∨
   ∃i,fstP (ownF ws slot) l i∧(∀j,j<ws.length→f j=becomes (cpF (ownF ws slot) cps j) (gs l i).bytes)∧BusM H' p a c o ws ((bl+(l.length-1)) % 18446744073709551616) ((pa+1) % 18446744073709551616))
theorem tabC_keep {N:Nat} {H H':Heap} {a:Option Ad} {l:List Cpy} (h:Tab 3 CpR N H a l) (hx:∀b x,a=some (b,x)→b<N→H'[b]?=H[b]?):Tab 3 CpR N H' a l:=fun i e he=>by
 obtain⟨⟨b,y⟩,cs,rfl,h1,h2,h3⟩:=h i e he
 exact⟨(b,y),cs,rfl,h1,by rw[hx b y rfl h1];exact h2,h3⟩
theorem _root_.Go.Proofs.YtjcgdcadflplcaaDoor.AM.C07.BusM.keep {H H':Heap} {p:Nat} {a:Option Ad} {c:Nat} {o:Bool} {ws:List Int} {bl pa:Nat} (h:BusM H p a c o ws bl pa) (hx:∀b,b=p∨(∃x,a=some (b,x))→H'[b]?=H[b]?):BusM H' p a c o ws bl pa:=
 ⟨(hx p (.inl rfl)).trans h.1,h.2.1.keep fun b x e=>hx b (.inr ⟨x,e⟩),h.2.2⟩
theorem mkslO_nil {H:Heap} {m:Nat} (h:m≤100000):mkslO 1 24 [Cell.sl none 0 0 false] (.c (.int .i64 (m:Nat))) (.c (.int .i64 (m:Nat))) H=some (.v (.c (.sl (some (H.length,0)) m m false)),H++[.cells (List.replicate m nilC) false none]):=by
 have hgr:∀m,grows [nilC] m=List.replicate m nilC:=fun m=>by
  unfold grows
  induction m with
  |zero=>rfl
  |succ m ih=>rw[List.replicate_succ,List.flatten_cons,ih,List.replicate_succ];rfl
 have e:=mkslO_int (H:=H) (sz:=1) (by_:=24) (z:=[nilC]) (i:=.i64) (i':=.i64) (l:=(m:Nat)) (c:=(m:Nat)) ⟨by omega,by omega,by omega⟩ rfl
 rw[Int.toNat_natCast,hgr] at e
 exact e
theorem s_Carry {N p:Nat} {H:Heap} {a a2 a3:Option Ad} {c c2 c3:Nat} {o o2 o3:Bool} {ws:List Int} {bl pa:Nat} {slot:Int} {l:List Snd} {cps:List Cpy} {n k:Nat}
  (hb:BusM H p a c o ws bl pa) (hw:ws.length≤100000) (hs:i64 slot) (h0:0≤slot) (ht:Snds N p H a2 l) (hn:l.length=n) (hn2:n≤100000) (hbytes:∀i,i<n→(gs l i).bytes.length≤100000) (hc:Tab 3 CpR N H a3 cps) (h3:∀b x,a3=some (b,x)→b≠p) (hk:cps.length=k) (hk2:k≤100000) (hN:N≤H.length):
  WC F fX5 [.c (.ptr (some (p,0))),.c (.int .i64 slot),.c (.sl a2 n c2 o2),.c (.sl a3 k c3 o3)] H fun v H'=>CarQ H p a c o ws bl pa slot l cps v H'∧But p H H':=by
 refine WC_start eX5 (by simp) ?_
 unfold cX5
 have hpl:p<H.length:=lt_of_get hb.1
 have hal:∀b x,a=some (b,x)→b<H.length:=fun b x e=>hb.2.1.lt e
 have hb1:=hb.1
 have fin0:=zhd8 hb ht hal hbytes hc h3 hk hs
 unfold CarQ
 obtain⟨ow,how⟩:∃ow,ow=ownF ws slot:=⟨_,rfl⟩
 have fow:=zhd1 how
 rw[←how]
 obtain⟨m,hm⟩:∃m,ws.length=m:=⟨_,rfl⟩
 have fm:=zhd2 hm hn
 rw[hm] at hb1 hw ⊢
 clear hb hs ht hal hbytes hc h3 hk how hm
 have hs0:¬slot<0:=by omega
 repeat (with_reducible first|(first|refine pI1 ?_|refine pS1 ?_);intros|refine pA1 ?_|refine pX1 ?_|refine pB1 ?_|exact True.intro)
 rw[mkslO_nil hw]
 repeat (with_reducible first|(first|refine pI1 ?_|refine pS1 ?_);intros|refine pA1 ?_|refine pX1 ?_|refine pB1 ?_|exact True.intro)
 rename_i bo H1 p1 g1 x1
 have fx:=zhd2 x1 g1
 have hx1:∀b,b<H.length→H1[b]?=H[b]?:=fun b hb=>x1 b (by omega)
 have hpa:=s_pass (c2:=c2) (o2:=o2) (slot:=slot) ((fin0 _ fun hb _ _ _ _ _ _ _=>hb).keep (H':=H1) fun b hb=>hx1 b (by rcases hb with rfl|⟨x,e⟩;exact hpl;exact fin0 _ fun _ _ hal _ _ _ _ _=>hal _ _ e)) (by rw[fm _ fun h _=>h];exact hw) (fin0 _ fun _ _ _ _ _ _ _ h=>h)
  ((fin0 _ fun _ ht _ _ _ _ _ _=>ht).keep fun b hb _=>hx1 b (by omega)) hn hn2 (by omega)
 clear x1 g1 hx1 hn
 repeat (with_reducible first|(first|refine pI1 ?_|refine pS1 ?_);intros|refine pA1 ?_|refine pX1 ?_|refine pB1 ?_|exact True.intro)
 refine outM_call hpa ?_
 rintro v H2 ⟨hq,l2,x2⟩
 clear hpa hb1
 have hx2:∀b,b<H.length→b≠p→H2[b]?=H[b]?:=fun b hb hp=>by rw[x2 b (by omega) hp];exact fx _ fun x1 _=>x1 b (by omega)
 have ho2:Outs H2 H.length bo m fun _=>none:=by
  refine⟨List.replicate m nilC,?_,List.length_replicate,fun j hj=>?_⟩
  ·rw[x2 bo (by omega) (by omega)]
   exact fx _ fun _ g1=>g1
  ·show _=_
   rw[List.getElem?_replicate,if_pos hj]
 have f2:=zhd2 hx2 ho2
 clear x2 hx2 ho2
 unfold PassQ at hq
 rw[←fow _ fun h=>h] at hq
 have hn:=fm _ fun _ h=>h
 rcases hq with ⟨hno,rfl,hbm⟩|⟨i,a',c',o',hfst,rfl,hsl,hab,hby,hbm⟩
 ·have f3:=zhd3 hno hbm hn
  clear hno hbm hn
  repeat (with_reducible first|(first|refine pI1 ?_|refine pS1 ?_);intros|refine pA1 ?_|refine pX1 ?_|refine pB1 ?_|exact True.intro)
  rename_i b11 H3 p3 g3 x3 H4 l4 g4 x4
  have hx4:∀b,b<H2.length→H4[b]?=H2[b]?:=fun b hb=>by rw[x4 b (by omega),x3 b (by omega)]
  have f4:=zhd1 hx4
  clear x3 x4 g3 g4 hx4
  repeat (with_reducible first|(first|refine pI1 ?_|refine pS1 ?_);intros|refine pA1 ?_|refine pX1 ?_|refine pB1 ?_|exact True.intro)
  refine⟨⟨bo,_,rfl,by omega,by omega,(f2 _ fun _ ho=>ho).keep (by omega) fun b _ hb=>f4 _ fun h=>h b hb,.inl ⟨f3 _ fun h _ _=>h,fun _=>rfl,?_⟩⟩,by omega,fun b hb hp=>by rw[f4 _ fun h=>h b (by omega)];exact f2 _ fun h _=>h b hb hp⟩
  exact(f3 _ fun _ h _=>h).keep fun b hb=>f4 _ fun h=>h b (by rcases hb with rfl|⟨x,e⟩;omega;exact Nat.lt_of_lt_of_le (fin0 _ fun _ _ hal _ _ _ _ _=>hal _ _ e) (by omega))
 ·have hlen:(gs l i).bytes.length≤100000:=fin0 _ fun _ _ _ h _ _ _ _=>h i (by have:=hfst.1;omega)
  generalize hbs:(gs l i).bytes=bs at *
  obtain⟨nb,hnb⟩:∃nb,bs.length=nb:=⟨_,rfl⟩
  rw[hnb] at hlen hsl ⊢
  have f3:=zhd8 hfst hsl hab hby hbm hnb hbs hn
  clear hfst hsl hab hby hbm hnb hbs hn
  repeat (with_reducible first|(first|refine pI1 ?_|refine pS1 ?_);intros|refine pA1 ?_|refine pX1 ?_|refine pB1 ?_|exact True.intro)
  rename_i b11 H3 p3 g3 x3 H4 l4 g4 x4
  have hx4:∀b,b<H2.length→H4[b]?=H2[b]?:=fun b hb=>by rw[x4 b (by omega),x3 b (by omega)]
  have f4:=zhd2 hx4 g4
  have l11:b11<H4.length:=lt_of_get g4
  clear x3 x4 g3 g4 hx4
  -- what stands when the loop begins
  have k1:BusM H4 p a c o ws ((bl+(l.length-1)) % 18446744073709551616) ((pa+1) % 18446744073709551616):=(f3 _ fun _ _ _ _ h _ _ _=>h).keep fun b hb=>f4 _ fun h _=>h b (by rcases hb with rfl|⟨x,e⟩;omega;exact Nat.lt_of_lt_of_le (fin0 _ fun _ _ hal _ _ _ _ _=>hal _ _ e) (by omega))
  have k2:Sl H4 1 a' nb (nats .u8 bs):=(f3 _ fun _ h _ _ _ _ _ _=>h).to fun b hb=>f4 _ fun h _=>h b hb
  have k3:Tab 3 CpR N H4 a3 cps:=tabC_keep (fin0 _ fun _ _ _ _ h _ _ _=>h) fun b x e hb=>by
   rw[f4 _ fun h _=>h b (by omega)];exact f2 _ fun h _=>h b (by omega) (fin0 _ fun _ _ _ _ _ h _ _=>h b x e)
  have k4:Outs H4 H.length bo m fun _=>none:=(f2 _ fun _ ho=>ho).keep (by omega) fun b _ hb=>f4 _ fun h _=>h b hb
  have k5:But p H H4:=⟨by omega,fun b hb hp=>by rw[f4 _ fun h _=>h b (by omega)];exact f2 _ fun h _=>h b hb hp⟩
  have k6:∀b x,a=some (b,x)→b<H.length:=fin0 _ fun _ _ hal _ _ _ _ _=>hal
  have k7:∀b x,a'=some (b,x)→b<H.length:=f3 _ fun _ _ h _ _ _ _ _=>fun b x e=>Nat.lt_of_lt_of_le (h b x e).1 hN
  have fk:=zhd6 k1 k2 k3 k5 k6 k7
  clear k1 k2 k3 k5 k6 k7
  repeat (with_reducible first|(first|refine pI1 ?_|refine pS1 ?_);intros|refine pA1 ?_|refine pX1 ?_|refine pB1 ?_|exact True.intro)
  refine W_loop (fun mm st=>∃ρ,∃j:Nat,∃Hk,st=⟨L 84 ρ,[],Hk⟩∧mm=m-j∧j≤m∧ρ 0=.c (.ptr (some (p,0)))∧ρ 1=.c (.int .i64 slot)∧ρ 3=.c (.sl a3 k c3 o3)∧ρ 10=.c (.sl (some (bo,0)) m m false)∧ρ 11=.c (.ptr (some (b11,0)))∧ρ 13=.c (.fn fX6 [] [(b11,0)])∧ρ 40=.c (.int .i64 (m:Nat))∧ρ 41=.c (.int .i64 (j:Nat))∧H4.length≤Hk.length∧(∀b,b<H4.length→b≠bo→Hk[b]?=H4[b]?)∧Outs Hk H.length bo m fun j'=>if j'<j then becomes (cpF ow cps j') bs else none) m ⟨_,0,H4,rfl,rfl,by omega,zf,zf,zf,zf,zf,zf,zf,zf,Nat.le_refl _,fun _ _ _=>rfl,k4.same fun j hj=>by rw[if_neg (by omega)]⟩ ?_
  clear k4
  rintro mm st ⟨ρ,j,Hk,rfl,rfl,hj,e0,e1,e3,e10,e11,e13,e40,e41,lk,xk,ok⟩
  unfold bX5_22
  obtain⟨Y,hY⟩:∃Y,Y=IC.seq (.seq (.ops oX5_14) (.cond (.t 55) (.ops oX5_15) .skip)) (.seq (.ops oX5_16) (.block 3 (.seq (.ops oX5_17) (.cond (.t 67) .skip (.seq (.ops oX5_18) (.cond (.t 69) (.ops oX5_19) (.ops oX5_20))))))):=⟨_,rfl⟩
  rw[←hY]
  have fY:=zhd1 hY
  have fz:=zhd2 xk ok
  clear hY xk ok
  by_cases hjm:j<m
  ·repeat (with_reducible first|(first|refine pI1 ?_|refine pS1 ?_);intros|refine pA1 ?_|refine pX1 ?_|refine pB1 ?_|exact True.intro)
   rename_i b15 H5 p5 g5 x5 H6 l6 g6 x6
   have hx6:∀b,b<Hk.length→H6[b]?=Hk[b]?:=fun b hb=>by rw[x6 b (by omega),x5 b (by omega)]
   have z6:∀b,b<H4.length→b≠bo→H6[b]?=H4[b]?:=fun b hb h=>by rw[hx6 b (by omega)];exact fz _ fun xk _=>xk b hb h
   have o6:=(fz _ fun _ ok=>ok).keep (H':=H6) (by omega) fun b _ hb=>hx6 b hb
   have l15:b15<H6.length:=lt_of_get g6
   rw[fY _ fun h=>h]
   refine W_cut _ (carry_pick zf zf zf zf zf g6 ((fk _ fun h _ _ _ _ _=>h).keep fun b hb=>z6 b (by rcases hb with rfl|⟨x,e⟩;omega;have:=fk _ fun _ _ _ _ h _=>h b x e;omega) (by rcases hb with rfl|⟨x,e⟩;omega;have:=fk _ fun _ _ _ _ h _=>h b x e;omega)) (by rw[fm _ fun h _=>h];exact hw) (fin0 _ fun _ _ _ _ _ _ _ h=>h) (tabC_keep (fk _ fun _ _ h _ _ _=>h) fun b x e hb=>z6 b (by omega) (by omega)) (fin0 _ fun _ _ _ _ _ _ h _=>h) hk2) ?_
   rintro _ ⟨ρ7,H7,rfl,⟨r0,r1,r3,r10,r11,r13,r14,r15,r40,r41⟩,g7,l7,x7⟩
   rw[←fow _ fun h=>h] at g7
   have hx7:∀b,b<Hk.length→H7[b]?=Hk[b]?:=fun b hb=>by rw[x7 b (by omega)];exact hx6 b hb
   have o7:=(fz _ fun _ ok=>ok).keep (H':=H7) (by omega) fun b _ hb=>hx7 b hb
   have z7:∀b,b<H4.length→b≠bo→H7[b]?=H4[b]?:=fun b hb h=>by rw[hx7 b (by omega)];exact fz _ fun xk _=>xk b hb h
   have g11:H7[b11]?=some (.cells [.sl a' nb c' o'] false none):=(z7 b11 l11 (by omega)).trans (f4 _ fun _ g=>g)
   have hs7:Sl H7 1 a' nb (nats .u8 bs):=(fk _ fun _ h _ _ _ _=>h).keep fun b x e=>by
    have:=fk _ fun _ _ _ _ _ h=>h b x e
    exact z7 b (by omega) (by omega)
   refine W.mono (carry_put (r10.trans zf) (r11.trans zf) (r13.trans zf) (r14.trans zf) (r15.trans zf) g7 g11 hs7 (f3 _ fun _ _ _ _ _ h _ _=>h) hlen (f3 _ fun _ _ _ h _ _ _ _=>h) o7 hjm (by omega) (if_neg (by omega)) (cpF_ok (fk _ fun _ _ h _ _ _=>h) ow j)) ?_
   rintro _ _ ⟨rfl,ρ8,H8,rfl,⟨s0,s1,s3,s10,s11,s13,s14,s15,s40,s41⟩,l8,x8,o8⟩
   have y0:ρ8 0=.c (.ptr (some (p,0))):=s0.trans (r0.trans zf)
   have y1:ρ8 1=.c (.int .i64 slot):=s1.trans (r1.trans zf)
   have y3:ρ8 3=.c (.sl a3 k c3 o3):=s3.trans (r3.trans zf)
   have y10:ρ8 10=.c (.sl (some (bo,0)) m m false):=s10.trans (r10.trans zf)
   have y11:ρ8 11=.c (.ptr (some (b11,0))):=s11.trans (r11.trans zf)
   have y13:ρ8 13=.c (.fn fX6 [] [(b11,0)]):=s13.trans (r13.trans zf)
   have y40:ρ8 40=.c (.int .i64 (m:Nat)):=s40.trans (r40.trans zf)
   have y41:ρ8 41=.c (.int .i64 (j:Nat)):=s41.trans (r41.trans zf)
   have z8:∀b,b<H4.length→b≠bo→H8[b]?=H4[b]?:=fun b hb h=>by rw[x8 b (by omega) h];exact z7 b hb h
   have f8:=zhd2 z8 o8
   clear s0 s1 s3 s10 s11 s13 s14 s15 s40 s41 r0 r1 r3 r10 r11 r13 r14 r15 r40 r41 z8 o8 x8 z7 hs7 g11 o7 hx7 o6 z6 hx6 x7 g7 x6 g6 x5 g5 e0 e1 e3 e10 e11 e13 e40 e41
   repeat (with_reducible first|(first|refine pI1 ?_|refine pS1 ?_);intros|refine pA1 ?_|refine pX1 ?_|refine pB1 ?_|exact True.intro)
   refine loopQ_n (m-(j+1)) (by omega) ⟨_,j+1,H8,rfl,rfl,by omega,zf,zf,zf,zf,zf,zf,zf,zf,by omega,f8 _ fun z _=>z,(f8 _ fun _ o=>o).same fun j' hj'=>?_⟩
   by_cases hjj:j'=j
   ·rw[if_pos hjj,if_pos (by omega),hjj]
   ·by_cases hlt:j'<j
    ·rw[if_neg hjj,if_pos hlt,if_pos (by omega)]
    ·rw[if_neg hjj,if_neg hlt,if_neg (by omega)]
  ·obtain rfl:j=m:=by omega
   repeat (with_reducible first|(first|refine pI1 ?_|refine pS1 ?_);intros|refine pA1 ?_|refine pX1 ?_|refine pB1 ?_|exact True.intro)
   have hbs:=f3 _ fun _ _ _ _ _ _ h _=>h
   refine⟨⟨bo,_,rfl,by omega,by omega,fz _ fun _ ok=>ok,.inr ⟨i,f3 _ fun h _ _ _ _ _ _ _=>h,fun j' hj'=>by rw[if_pos hj',hbs],?_⟩⟩,by omega,fun b hb hp=>?_⟩
   ·exact(fk _ fun h _ _ _ _ _=>h).keep fun b hb=>by
     have:b<H.length:=by
      rcases hb with rfl|⟨x,e⟩
      ·exact hpl
      ·exact fk _ fun _ _ _ _ h _=>h b x e
     exact fz _ fun xk _=>xk b (by omega) (by omega)
   ·rw[fz _ fun xk _=>xk b (by omega) (by omega)]
    exact fk _ fun _ _ _ h _ _=>h.2 b hb hp
end Go.Proofs.YtjcgdcadflplcaaDoor.AM.D21
namespace Go.Proofs.YtjcgdcadflplcaaDoor.AM.D21
open Go Go.Proofs.YtjcgdcadflplcaaDoor.AM Go.Proofs.YtjcgdcadflplcaaDoor.AM.C02 Go.Proofs.YtjcgdcadflplcaaDoor.AM.C07
set_option maxHeartbeats 2000000
set_option maxRecDepth 100000
attribute [local go_sem] tn_add1 tn_sub1 put_all' nums_len
end Go.Proofs.YtjcgdcadflplcaaDoor.AM.D21
namespace Go.Proofs.YtjcgdcadflplcaaDoor.AM.D21
open Go Go.Proofs.YtjcgdcadflplcaaDoor.AM Go.Proofs.YtjcgdcadflplcaaDoor.AM.C02 Go.Proofs.YtjcgdcadflplcaaDoor.AM.C07
set_option maxHeartbeats 2000000
set_option maxRecDepth 100000
attribute [local go_sem] tn_add1 tn_sub1 put_all' nums_len
end Go.Proofs.YtjcgdcadflplcaaDoor.AM.D21
namespace Go.Proofs.YtjcgdcadflplcaaDoor.AM.D21
open Go Go.Proofs.YtjcgdcadflplcaaDoor.AM Go.Proofs.YtjcgdcadflplcaaDoor.AM.C02 Go.Proofs.YtjcgdcadflplcaaDoor.AM.C07
set_option maxHeartbeats 2000000
set_option maxRecDepth 100000
attribute [local go_sem] tn_add1 tn_sub1 put_all' nums_len sub12 sub3
end Go.Proofs.YtjcgdcadflplcaaDoor.AM.D21
namespace Go.Proofs.YtjcgdcadflplcaaDoor.AM.D21
open Go Go.Proofs.YtjcgdcadflplcaaDoor.AM Go.Proofs.YtjcgdcadflplcaaDoor.AM.C02 Go.Proofs.YtjcgdcadflplcaaDoor.AM.C07
set_option maxHeartbeats 2000000
set_option maxRecDepth 100000
attribute [local go_sem] tn_add1 tn_sub1 put_all' nums_len sub3k
def RSlot (H:Heap) (x:Option Cell):Option (List Nat)→Prop
 |none=>x=some nilC
 |some l=>∃a c o,x=some (.sl a l.length c o)∧Sl H 1 a l.length (nats .u8 l)∧(∀y∈l,y<256)∧l.length≤c
theorem RSlot.keep {H H':Heap} {x:Option Cell} {r:Option (List Nat)} (h:RSlot H x r) (hx:∀b y n c o,x=some (.sl (some (b,y)) n c o)→H'[b]?=H[b]?):RSlot H' x r:=by
 cases r with
 |none=>exact h
 |some l=>
  obtain⟨a,c,o,h1,h2,h3⟩:=h
  exact⟨a,c,o,h1,h2.keep fun b y e=>hx b y _ _ _ (by rw[h1,e]),h3⟩
def bsC (f:Nat→Option (List Nat)) (k:Nat):List Cell:=(List.range k).map fun j=>Cell.bool (f j).isSome
def RInv (lo:Nat) (H:Heap) (oa ha:Option Ad) (k1 k2:Nat) (oo ho:Bool) (f:Nat→Option (List Nat)) (p:Nat):Prop:=
 ∃cs,Gr lo H 1 oa k1 oo cs∧Gr lo H 1 ha k2 ho (bsC f k2)∧(∀x y,oa=some x→ha=some y→x.1≠y.1)∧∀j,j<k1→RSlot H cs[j]? (f j)∧∀b y n c o,cs[j]?=some (.sl (some (b,y)) n c o)→(b<H.length∧b≠p)∧away oa b∧away ha b
theorem RInv.keepX {lo p:Nat} {H H':Heap} {oa ha:Option Ad} {k1 k2:Nat} {oo ho:Bool} {f:Nat→Option (List Nat)} (h:RInv lo H oa ha k1 k2 oo ho f p) (hl:H.length≤H'.length) (hx:∀b,b<H.length→H'[b]?=H[b]?):RInv lo H' oa ha k1 k2 oo ho f p:=by
 obtain⟨cs,h1,h2,h3,h4⟩:=h
 refine⟨cs,h1.keepX hx,h2.keepX hx,h3,fun j hj=>⟨(h4 j hj).1.keep fun b y n c o e=>hx b ((h4 j hj).2 b y n c o e).1.1,fun b y n c o e=>?_⟩⟩
 obtain⟨q1,q2,q3⟩:=(h4 j hj).2 b y n c o e
 exact⟨by omega,q2,q3⟩
end Go.Proofs.YtjcgdcadflplcaaDoor.AM.D21
namespace Go.Proofs.YtjcgdcadflplcaaDoor.AM.D21
open Go Go.Proofs.YtjcgdcadflplcaaDoor.AM Go.Proofs.YtjcgdcadflplcaaDoor.AM.C02 Go.Proofs.YtjcgdcadflplcaaDoor.AM.C07
set_option maxHeartbeats 2000000
set_option maxRecDepth 100000
attribute [local go_sem] tn_add1 tn_sub1 put_all' nums_len sub3k
def BusE (H:Heap) (p y:Nat) (C0:List Cell) (a:Option Ad) (c:Nat) (o:Bool) (ws:List Int) (bl pa:Nat):Prop:=
 ∃C,H[p]?=some (.cells C false none)∧C.length=C0.length∧(∀j,(j<y∨y+3≤j)→C[j]?=C0[j]?)∧C[y]?=some (.sl a ws.length c o)∧C[y+1]?=some (.int .u64 (bl:Nat))∧C[y+2]?=some (.int .u64 (pa:Nat))∧Sl H 1 a ws.length (nums ws)∧∀b x,a=some (b,x)→b≠p
theorem BusE.keep {H H':Heap} {p y:Nat} {C0:List Cell} {a:Option Ad} {c:Nat} {o:Bool} {ws:List Int} {bl pa:Nat} (h:BusE H p y C0 a c o ws bl pa) (hx:∀b,b=p∨(∃x,a=some (b,x))→H'[b]?=H[b]?):BusE H' p y C0 a c o ws bl pa:=by
 obtain⟨C,h1,h2,h3,h4,h5,h6,h7,h8⟩:=h
 exact⟨C,by rw[hx p (.inl rfl)];exact h1,h2,h3,h4,h5,h6,h7.keep fun b x e=>hx b (.inr ⟨x,e⟩),h8⟩
end Go.Proofs.YtjcgdcadflplcaaDoor.AM.D21
namespace Go.Proofs.YtjcgdcadflplcaaDoor.AM.D21
open Go Go.Proofs.YtjcgdcadflplcaaDoor.AM Go.Proofs.YtjcgdcadflplcaaDoor.AM.P3
set_option maxHeartbeats 2000000
set_option maxRecDepth 100000
def fS:List SK:=[.int .i64,.int .i64,.int .u16]++List.replicate 64 (.int .u8)
def ShF (X:List Cell):Prop:=Shp fS X
theorem ShF.of {f:Fm} (h:f.p.length=64):ShF (frC f):=⟨⟨_,rfl⟩,⟨_,rfl⟩,⟨_,rfl⟩,Shp.nats h⟩
theorem ShF.len {X:List Cell} (h:ShF X):X.length=67:=Shp.len (S:=fS) h
def zF:List Cell:=frC fr0
theorem zF_eq:(List.replicate 2 (Cell.int .i64 0)++[(.int .u16 0)]++List.replicate 64 (.int .u8 0))=zF:=by rfl
theorem zF2_eq:(zF++List.replicate 2 (.int .i64 0)++[(.int .u16 0)]++List.replicate 64 (.int .u8 0))=zF++zF:=by rfl
theorem zF_sh:ShF zF:=ShF.of rfl
theorem zF_len:zF.length=67:=zF_sh.len
theorem eqF {X Y:List Cell} (h:ShF X) (h':ShF Y):eqaO [.int,.int,.int,.int,.int,.int,.int,.int,.int,.int,.int,.int,.int,.int,.int,.int,.int,.int,.int,.int,.int,.int,.int,.int,.int,.int,.int,.int,.int,.int,.int,.int,.int,.int,.int,.int,.int,.int,.int,.int,.int,.int,.int,.int,.int,.int,.int,.int,.int,.int,.int,.int,.int,.int,.int,.int,.int,.int,.int,.int,.int,.int,.int,.int,.int,.int,.int] false (.agg X) (.agg Y)=some (.c (.bool (decide (X=Y)))):=eqaO_shp (S:=fS) rfl ⟨h,h'⟩
theorem neF {X Y:List Cell} (h:ShF X) (h':ShF Y):eqaO [.int,.int,.int,.int,.int,.int,.int,.int,.int,.int,.int,.int,.int,.int,.int,.int,.int,.int,.int,.int,.int,.int,.int,.int,.int,.int,.int,.int,.int,.int,.int,.int,.int,.int,.int,.int,.int,.int,.int,.int,.int,.int,.int,.int,.int,.int,.int,.int,.int,.int,.int,.int,.int,.int,.int,.int,.int,.int,.int,.int,.int,.int,.int,.int,.int,.int,.int] true (.agg X) (.agg Y)=some (.c (.bool (decide (¬X=Y)))):=neaO_shp (S:=fS) rfl ⟨h,h'⟩
attribute [local go_sem] sub02 sub_left sub_right put_left put_right put_all' sub_all
attribute [local go_sem 2000] zF_eq zF2_eq eqF neF zF_len
theorem acc_len {l:List Nat} {o s:Int} {m:Nat}:(acc l o s m).1.p.length=64:=by
 unfold acc
 cases ht:tell l with
 |none=>rfl
 |some f=>
  simp only
  split
  ·split
   ·exact(tell_some ht).2
   ·rfl
  ·rfl
def hr (l:List Nat) (o s:Int) (m:Nat):List Cell × Int:=(frC (acc l o s m).1,(acc l o s m).2)
theorem hr_sh {l:List Nat} {o s:Int} {m:Nat}:ShF (hr l o s m).1:=ShF.of acc_len
theorem hr_nil {o s:Int} {m:Nat}:hr [] o s m=(zF,30):=by simp[hr,acc,tell,zF]
def chs (x y:List Cell × Int):List Cell × Int:=
 if x.2=0 then if y.2=0 then if x.1=y.1 then (x.1,3) else (zF,4) else (x.1,1) else if y.2=0 then (y.1,2) else (zF,0)
theorem s_heard {H:Heap} {bc bo bs bf:Nat} (i:Nat) {a1 a2 a:Option Ad} {n1 n2 n c1 c2 c:Nat} {o1 o2 o:Bool} {l:List Nat} {by_ slot:Int} {mem:Nat} {A B:List Cell}
  (hi:i=0∧a=a1∧n=n1∧c=c1∧o=o1∨i=1∧a=a2∧n=n2∧c=c2∧o=o2)
  (hT:H[0]?=some nibB) (hs:Sl H 1 a n (nats .u8 l)) (hc:n≤c) (hby:∀i,gx l i<256) (hm:mem<65536)
  (gc:H[bc]?=some (.cells [.sl a1 n1 c1 o1,.sl a2 n2 c2 o2] false none)) (go:H[bo]?=some (.cells [.int .i64 by_] false none)) (gs:H[bs]?=some (.cells [.int .i64 slot,.int .u16 (mem:Nat)] false none))
  (gf:H[bf]?=some (.cells (A++B) false none)) (hA:A.length=67) (hB:B.length=67) (hd:bc≠bf):
  WC F fXr [.c (.int .i64 (i:Nat)),.c (.ptr (some (bc,0))),.c (.ptr (some (bo,0))),.c (.ptr (some (bs,0))),.c (.ptr (some (bf,0)))] H fun v H'=>
   v=.c (.bool (decide ((hr l by_ slot mem).2=0)))∧H.length≤H'.length∧H'[bf]?=some (.cells (if i=0 then (hr l by_ slot mem).1++B else A++(hr l by_ slot mem).1) false none)∧∀b,b<H.length→b≠bf→H'[b]?=H[b]?:=by
 have lc:=lt_of_get gc;have lo:=lt_of_get go;have ls:=lt_of_get gs;have lf:=lt_of_get gf
 have hlen:=(hr_sh (l:=l) (o:=by_) (s:=slot) (m:=mem)).len
 have hnil:a=none→(hr l by_ slot mem).2=30:=fun e=>by
  have h0:=hs.nil e
  have:l=[]:=by have:=hs.len;simpa [nats,h0] using this
  rw[this,hr_nil]
 have hac:=s_Accept (by_:=by_) (slot:=slot) (o:=o) hT hs hc hby hm
 change WC F fXy _ H fun v H'=>v=.tup [.agg (hr l by_ slot mem).1,.c (.int .i64 (hr l by_ slot mem).2)]∧X1 H H' at hac
 generalize hr l by_ slot mem=q at *
 obtain⟨X,e⟩:=q
 dsimp only at hlen hnil hac ⊢
 have hzl:=zF_len
 have hab:(A++B).length=134:=by rw[List.length_append,hA,hB]
 have hz2:(zF++zF).length=134:=rfl
 refine WC_start eXr (by simp) ?_
 unfold cXr
 rcases hi with ⟨rfl,rfl,rfl,rfl,rfl⟩|⟨rfl,rfl,rfl,rfl,rfl⟩
 ·repeat (with_reducible first|(first|refine pI1 ?_|refine pS1 ?_);intros|refine pA1 ?_|refine pX1 ?_|refine pB1 ?_|exact True.intro)
  refine outM_call hac ?_
  rintro _ H1 ⟨rfl,l1,x1⟩
  repeat (with_reducible first|(first|refine pI1 ?_|refine pS1 ?_);intros|refine pA1 ?_|refine pX1 ?_|refine pB1 ?_|exact True.intro)
  cases a with
  |none=>
   obtain rfl:e=30:=hnil rfl
   repeat (with_reducible first|(first|refine pI1 ?_|refine pS1 ?_);intros|refine pA1 ?_|refine pX1 ?_|refine pB1 ?_|exact True.intro)
   exact⟨rfl,by omega,by simp (disch:=first|with_reducible assumption|omega) only [go_sem, *,reduceCtorEq,↓reduceIte,Nat.reduceLT,Nat.reduceBEq,Nat.reduceAdd,Nat.reduceSub,Nat.reduceMul,Nat.reduceDiv,Nat.reduceMod,Nat.reducePow,Nat.reduceEqDiff,Nat.reduceLeDiff,Int.reduceLT,Int.reduceLE,Int.reduceNeg,Int.reduceToNat,Int.reduceAdd,Int.reduceSub,Int.reduceMul,Int.reduceEq,Int.reduceNe,Int.reduceBEq,Int.reduceBNe,Int.reducePow],fun b hb hne=>by simp (disch:=first|with_reducible assumption|omega) only [go_sem, *,reduceCtorEq,↓reduceIte,Nat.reduceLT,Nat.reduceBEq,Nat.reduceAdd,Nat.reduceSub,Nat.reduceMul,Nat.reduceDiv,Nat.reduceMod,Nat.reducePow,Nat.reduceEqDiff,Nat.reduceLeDiff,Int.reduceLT,Int.reduceLE,Int.reduceNeg,Int.reduceToNat,Int.reduceAdd,Int.reduceSub,Int.reduceMul,Int.reduceEq,Int.reduceNe,Int.reduceBEq,Int.reduceBNe,Int.reducePow]⟩
  |some a=>
   repeat (with_reducible first|(first|refine pI1 ?_|refine pS1 ?_);intros|refine pA1 ?_|refine pX1 ?_|refine pB1 ?_|exact True.intro)
   exact⟨rfl,by omega,by simp (disch:=first|with_reducible assumption|omega) only [go_sem, *,reduceCtorEq,↓reduceIte,Nat.reduceLT,Nat.reduceBEq,Nat.reduceAdd,Nat.reduceSub,Nat.reduceMul,Nat.reduceDiv,Nat.reduceMod,Nat.reducePow,Nat.reduceEqDiff,Nat.reduceLeDiff,Int.reduceLT,Int.reduceLE,Int.reduceNeg,Int.reduceToNat,Int.reduceAdd,Int.reduceSub,Int.reduceMul,Int.reduceEq,Int.reduceNe,Int.reduceBEq,Int.reduceBNe,Int.reducePow],fun b hb hne=>by simp (disch:=first|with_reducible assumption|omega) only [go_sem, *,reduceCtorEq,↓reduceIte,Nat.reduceLT,Nat.reduceBEq,Nat.reduceAdd,Nat.reduceSub,Nat.reduceMul,Nat.reduceDiv,Nat.reduceMod,Nat.reducePow,Nat.reduceEqDiff,Nat.reduceLeDiff,Int.reduceLT,Int.reduceLE,Int.reduceNeg,Int.reduceToNat,Int.reduceAdd,Int.reduceSub,Int.reduceMul,Int.reduceEq,Int.reduceNe,Int.reduceBEq,Int.reduceBNe,Int.reducePow]⟩
 ·repeat (with_reducible first|(first|refine pI1 ?_|refine pS1 ?_);intros|refine pA1 ?_|refine pX1 ?_|refine pB1 ?_|exact True.intro)
  refine outM_call hac ?_
  rintro _ H1 ⟨rfl,l1,x1⟩
  repeat (with_reducible first|(first|refine pI1 ?_|refine pS1 ?_);intros|refine pA1 ?_|refine pX1 ?_|refine pB1 ?_|exact True.intro)
  cases a with
  |none=>
   obtain rfl:e=30:=hnil rfl
   repeat (with_reducible first|(first|refine pI1 ?_|refine pS1 ?_);intros|refine pA1 ?_|refine pX1 ?_|refine pB1 ?_|exact True.intro)
   exact⟨rfl,by omega,by simp (disch:=first|with_reducible assumption|omega) only [go_sem, *,reduceCtorEq,↓reduceIte,Nat.reduceLT,Nat.reduceBEq,Nat.reduceAdd,Nat.reduceSub,Nat.reduceMul,Nat.reduceDiv,Nat.reduceMod,Nat.reducePow,Nat.reduceEqDiff,Nat.reduceLeDiff,Int.reduceLT,Int.reduceLE,Int.reduceNeg,Int.reduceToNat,Int.reduceAdd,Int.reduceSub,Int.reduceMul,Int.reduceEq,Int.reduceNe,Int.reduceBEq,Int.reduceBNe,Int.reducePow],fun b hb hne=>by simp (disch:=first|with_reducible assumption|omega) only [go_sem, *,reduceCtorEq,↓reduceIte,Nat.reduceLT,Nat.reduceBEq,Nat.reduceAdd,Nat.reduceSub,Nat.reduceMul,Nat.reduceDiv,Nat.reduceMod,Nat.reducePow,Nat.reduceEqDiff,Nat.reduceLeDiff,Int.reduceLT,Int.reduceLE,Int.reduceNeg,Int.reduceToNat,Int.reduceAdd,Int.reduceSub,Int.reduceMul,Int.reduceEq,Int.reduceNe,Int.reduceBEq,Int.reduceBNe,Int.reducePow]⟩
  |some a=>
   repeat (with_reducible first|(first|refine pI1 ?_|refine pS1 ?_);intros|refine pA1 ?_|refine pX1 ?_|refine pB1 ?_|exact True.intro)
   exact⟨rfl,by omega,by simp (disch:=first|with_reducible assumption|omega) only [go_sem, *,reduceCtorEq,↓reduceIte,Nat.reduceLT,Nat.reduceBEq,Nat.reduceAdd,Nat.reduceSub,Nat.reduceMul,Nat.reduceDiv,Nat.reduceMod,Nat.reducePow,Nat.reduceEqDiff,Nat.reduceLeDiff,Int.reduceLT,Int.reduceLE,Int.reduceNeg,Int.reduceToNat,Int.reduceAdd,Int.reduceSub,Int.reduceMul,Int.reduceEq,Int.reduceNe,Int.reduceBEq,Int.reduceBNe,Int.reducePow],fun b hb hne=>by simp (disch:=first|with_reducible assumption|omega) only [go_sem, *,reduceCtorEq,↓reduceIte,Nat.reduceLT,Nat.reduceBEq,Nat.reduceAdd,Nat.reduceSub,Nat.reduceMul,Nat.reduceDiv,Nat.reduceMod,Nat.reducePow,Nat.reduceEqDiff,Nat.reduceLeDiff,Int.reduceLT,Int.reduceLE,Int.reduceNeg,Int.reduceToNat,Int.reduceAdd,Int.reduceSub,Int.reduceMul,Int.reduceEq,Int.reduceNe,Int.reduceBEq,Int.reduceBNe,Int.reducePow]⟩
structure Cpy (H:Heap) (a:Option Ad) (n c:Nat) (l:List Nat):Prop where
 sl:Sl H 1 a n (nats .u8 l)
 le:n≤c
 by_:∀i,gx l i<256
theorem Cpy.to {H H':Heap} {a:Option Ad} {n c:Nat} {l:List Nat} (h:Cpy H a n c l) (hx:∀b,b<H.length→H'[b]?=H[b]?):Cpy H' a n c l:=⟨h.sl.to hx,h.le,h.by_⟩
theorem s_Choose {H:Heap} {a1 a2:Option Ad} {n1 n2 c1 c2:Nat} {o1 o2:Bool} {l m:List Nat} {by_ slot:Int} {mem:Nat}
  (hT:H[0]?=some nibB) (h1:Cpy H a1 n1 c1 l) (h2:Cpy H a2 n2 c2 m) (hm:mem<65536):
  WC F fXq [.c (.int .i64 by_),.agg [.int .i64 slot,.int .u16 (mem:Nat)],.c (.sl a1 n1 c1 o1),.c (.sl a2 n2 c2 o2)] H fun v H'=>
   v=.tup [.agg (chs (hr l by_ slot mem) (hr m by_ slot mem)).1,.c (.int .i64 (chs (hr l by_ slot mem) (hr m by_ slot mem)).2)]∧X1 H H':=by
 have h0:=lt_of_get hT
 have hzl:=zF_len
 have hz2:(zF++zF).length=134:=rfl
 refine WC_start eXq (by simp) ?_
 unfold cXq
 repeat (with_reducible first|(first|refine pI1 ?_|refine pS1 ?_);intros|refine pA1 ?_|refine pX1 ?_|refine pB1 ?_|exact True.intro)
 rename_i b1 H1 p1 g1 x1 b2 H2 p2 g2 x2 b3 H3 p3 g3 x3 b4 H4 p4 g4 x4 H5 p5 g5 x5 b6 H6 p6 g6 x6
 refine W_turn bXq_11.eq_1 ?_
 repeat (with_reducible first|(first|refine pI1 ?_|refine pS1 ?_);intros|refine pA1 ?_|refine pX1 ?_|refine pB1 ?_|exact True.intro)
 refine outM_call (s_heard (H:=H6) (A:=zF) (B:=zF) (by_:=by_) 0 (.inl ⟨rfl,rfl,rfl,rfl,rfl⟩) (by simp (disch:=first|with_reducible assumption|omega) only [go_sem, *,reduceCtorEq,↓reduceIte,Nat.reduceLT,Nat.reduceBEq,Nat.reduceAdd,Nat.reduceSub,Nat.reduceMul,Nat.reduceDiv,Nat.reduceMod,Nat.reducePow,Nat.reduceEqDiff,Nat.reduceLeDiff,Int.reduceLT,Int.reduceLE,Int.reduceNeg,Int.reduceToNat,Int.reduceAdd,Int.reduceSub,Int.reduceMul,Int.reduceEq,Int.reduceNe,Int.reduceBEq,Int.reduceBNe,Int.reducePow]) (h1.to fun b hb=>by simp (disch:=first|with_reducible assumption|omega) only [go_sem, *,reduceCtorEq,↓reduceIte,Nat.reduceLT,Nat.reduceBEq,Nat.reduceAdd,Nat.reduceSub,Nat.reduceMul,Nat.reduceDiv,Nat.reduceMod,Nat.reducePow,Nat.reduceEqDiff,Nat.reduceLeDiff,Int.reduceLT,Int.reduceLE,Int.reduceNeg,Int.reduceToNat,Int.reduceAdd,Int.reduceSub,Int.reduceMul,Int.reduceEq,Int.reduceNe,Int.reduceBEq,Int.reduceBNe,Int.reducePow]).sl h1.le h1.by_ hm (by simp (disch:=first|with_reducible assumption|omega) only [go_sem, *,reduceCtorEq,↓reduceIte,Nat.reduceLT,Nat.reduceBEq,Nat.reduceAdd,Nat.reduceSub,Nat.reduceMul,Nat.reduceDiv,Nat.reduceMod,Nat.reducePow,Nat.reduceEqDiff,Nat.reduceLeDiff,Int.reduceLT,Int.reduceLE,Int.reduceNeg,Int.reduceToNat,Int.reduceAdd,Int.reduceSub,Int.reduceMul,Int.reduceEq,Int.reduceNe,Int.reduceBEq,Int.reduceBNe,Int.reducePow];first|done|rfl) (by simp (disch:=first|with_reducible assumption|omega) only [go_sem, *,reduceCtorEq,↓reduceIte,Nat.reduceLT,Nat.reduceBEq,Nat.reduceAdd,Nat.reduceSub,Nat.reduceMul,Nat.reduceDiv,Nat.reduceMod,Nat.reducePow,Nat.reduceEqDiff,Nat.reduceLeDiff,Int.reduceLT,Int.reduceLE,Int.reduceNeg,Int.reduceToNat,Int.reduceAdd,Int.reduceSub,Int.reduceMul,Int.reduceEq,Int.reduceNe,Int.reduceBEq,Int.reduceBNe,Int.reducePow];first|done|rfl) (by simp (disch:=first|with_reducible assumption|omega) only [go_sem, *,reduceCtorEq,↓reduceIte,Nat.reduceLT,Nat.reduceBEq,Nat.reduceAdd,Nat.reduceSub,Nat.reduceMul,Nat.reduceDiv,Nat.reduceMod,Nat.reducePow,Nat.reduceEqDiff,Nat.reduceLeDiff,Int.reduceLT,Int.reduceLE,Int.reduceNeg,Int.reduceToNat,Int.reduceAdd,Int.reduceSub,Int.reduceMul,Int.reduceEq,Int.reduceNe,Int.reduceBEq,Int.reduceBNe,Int.reducePow];first|done|rfl) g6 zF_len zF_len (by omega)) ?_
 rintro _ H7 ⟨rfl,l7,g7,x7⟩
 rw[if_pos rfl] at g7
 have shl:=hr_sh (l:=l) (o:=by_) (s:=slot) (m:=mem)
 have shm:=hr_sh (l:=m) (o:=by_) (s:=slot) (m:=mem)
 have s_h2:=@s_heard H7 b4 b1 b2 b6 1 a1 a2 a2 n1 n2 n2 c1 c2 c2 o1 o2 o2 m by_ slot mem (hr l by_ slot mem).1 zF
 generalize hr l by_ slot mem=q at *
 obtain⟨X,e⟩:=q
 generalize hr m by_ slot mem=q at *
 obtain⟨Y,f⟩:=q
 dsimp only at shl shm s_h2 g7 ⊢
 have lX:=shl.len
 have lY:=shm.len
 have h2':=h2.to (H':=H7) fun b hb=>by simp (disch:=first|with_reducible assumption|omega) only [go_sem, *,reduceCtorEq,↓reduceIte,Nat.reduceLT,Nat.reduceBEq,Nat.reduceAdd,Nat.reduceSub,Nat.reduceMul,Nat.reduceDiv,Nat.reduceMod,Nat.reducePow,Nat.reduceEqDiff,Nat.reduceLeDiff,Int.reduceLT,Int.reduceLE,Int.reduceNeg,Int.reduceToNat,Int.reduceAdd,Int.reduceSub,Int.reduceMul,Int.reduceEq,Int.reduceNe,Int.reduceBEq,Int.reduceBNe,Int.reducePow]
 replace s_h2:=s_h2 (.inr ⟨rfl,rfl,rfl,rfl,rfl⟩) (by simp (disch:=first|with_reducible assumption|omega) only [go_sem, *,reduceCtorEq,↓reduceIte,Nat.reduceLT,Nat.reduceBEq,Nat.reduceAdd,Nat.reduceSub,Nat.reduceMul,Nat.reduceDiv,Nat.reduceMod,Nat.reducePow,Nat.reduceEqDiff,Nat.reduceLeDiff,Int.reduceLT,Int.reduceLE,Int.reduceNeg,Int.reduceToNat,Int.reduceAdd,Int.reduceSub,Int.reduceMul,Int.reduceEq,Int.reduceNe,Int.reduceBEq,Int.reduceBNe,Int.reducePow]) h2'.sl h2.le h2.by_ hm (by simp (disch:=first|with_reducible assumption|omega) only [go_sem, *,reduceCtorEq,↓reduceIte,Nat.reduceLT,Nat.reduceBEq,Nat.reduceAdd,Nat.reduceSub,Nat.reduceMul,Nat.reduceDiv,Nat.reduceMod,Nat.reducePow,Nat.reduceEqDiff,Nat.reduceLeDiff,Int.reduceLT,Int.reduceLE,Int.reduceNeg,Int.reduceToNat,Int.reduceAdd,Int.reduceSub,Int.reduceMul,Int.reduceEq,Int.reduceNe,Int.reduceBEq,Int.reduceBNe,Int.reducePow];first|done|rfl) (by simp (disch:=first|with_reducible assumption|omega) only [go_sem, *,reduceCtorEq,↓reduceIte,Nat.reduceLT,Nat.reduceBEq,Nat.reduceAdd,Nat.reduceSub,Nat.reduceMul,Nat.reduceDiv,Nat.reduceMod,Nat.reducePow,Nat.reduceEqDiff,Nat.reduceLeDiff,Int.reduceLT,Int.reduceLE,Int.reduceNeg,Int.reduceToNat,Int.reduceAdd,Int.reduceSub,Int.reduceMul,Int.reduceEq,Int.reduceNe,Int.reduceBEq,Int.reduceBNe,Int.reducePow];first|done|rfl) (by simp (disch:=first|with_reducible assumption|omega) only [go_sem, *,reduceCtorEq,↓reduceIte,Nat.reduceLT,Nat.reduceBEq,Nat.reduceAdd,Nat.reduceSub,Nat.reduceMul,Nat.reduceDiv,Nat.reduceMod,Nat.reducePow,Nat.reduceEqDiff,Nat.reduceLeDiff,Int.reduceLT,Int.reduceLE,Int.reduceNeg,Int.reduceToNat,Int.reduceAdd,Int.reduceSub,Int.reduceMul,Int.reduceEq,Int.reduceNe,Int.reduceBEq,Int.reduceBNe,Int.reducePow];first|done|rfl) g7 lX zF_len (by omega)
 rw[if_neg (by omega)] at s_h2
 by_cases he:e=0
 ·by_cases hf:f=0
  ·subst he hf
   repeat (with_reducible first|(first|refine pI1 ?_|refine pS1 ?_);intros|refine pA1 ?_|refine pX1 ?_|refine pB1 ?_|exact True.intro)
   refine W_turn bXq_11.eq_1 ?_
   repeat (with_reducible first|(first|refine pI1 ?_|refine pS1 ?_);intros|refine pA1 ?_|refine pX1 ?_|refine pB1 ?_|exact True.intro)
   refine outM_call s_h2 ?_
   rintro _ H8 ⟨rfl,l8,g8,x8⟩
   repeat (with_reducible first|(first|refine pI1 ?_|refine pS1 ?_);intros|refine pA1 ?_|refine pX1 ?_|refine pB1 ?_|exact True.intro)
   refine W_turn bXq_11.eq_1 ?_
   by_cases hXY:X=Y
   ·subst hXY
    rw[show chs (X,0) (X,0)=(X,3) by simp[chs]]
    repeat (with_reducible first|(first|refine pI1 ?_|refine pS1 ?_);intros|refine pA1 ?_|refine pX1 ?_|refine pB1 ?_|exact True.intro)
    exact⟨rfl,by omega,fun b hb=>by simp (disch:=first|with_reducible assumption|omega) only [go_sem, *,reduceCtorEq,↓reduceIte,Nat.reduceLT,Nat.reduceBEq,Nat.reduceAdd,Nat.reduceSub,Nat.reduceMul,Nat.reduceDiv,Nat.reduceMod,Nat.reducePow,Nat.reduceEqDiff,Nat.reduceLeDiff,Int.reduceLT,Int.reduceLE,Int.reduceNeg,Int.reduceToNat,Int.reduceAdd,Int.reduceSub,Int.reduceMul,Int.reduceEq,Int.reduceNe,Int.reduceBEq,Int.reduceBNe,Int.reducePow]⟩
   ·rw[show chs (X,0) (Y,0)=(zF,4) by simp[chs,hXY]]
    repeat (with_reducible first|(first|refine pI1 ?_|refine pS1 ?_);intros|refine pA1 ?_|refine pX1 ?_|refine pB1 ?_|exact True.intro)
    exact⟨rfl,by omega,fun b hb=>by simp (disch:=first|with_reducible assumption|omega) only [go_sem, *,reduceCtorEq,↓reduceIte,Nat.reduceLT,Nat.reduceBEq,Nat.reduceAdd,Nat.reduceSub,Nat.reduceMul,Nat.reduceDiv,Nat.reduceMod,Nat.reducePow,Nat.reduceEqDiff,Nat.reduceLeDiff,Int.reduceLT,Int.reduceLE,Int.reduceNeg,Int.reduceToNat,Int.reduceAdd,Int.reduceSub,Int.reduceMul,Int.reduceEq,Int.reduceNe,Int.reduceBEq,Int.reduceBNe,Int.reducePow]⟩
  ·subst he
   rw[show chs (X,0) (Y,f)=(X,1) by simp[chs,hf]]
   repeat (with_reducible first|(first|refine pI1 ?_|refine pS1 ?_);intros|refine pA1 ?_|refine pX1 ?_|refine pB1 ?_|exact True.intro)
   refine W_turn bXq_11.eq_1 ?_
   repeat (with_reducible first|(first|refine pI1 ?_|refine pS1 ?_);intros|refine pA1 ?_|refine pX1 ?_|refine pB1 ?_|exact True.intro)
   refine outM_call s_h2 ?_
   rintro _ H8 ⟨rfl,l8,g8,x8⟩
   repeat (with_reducible first|(first|refine pI1 ?_|refine pS1 ?_);intros|refine pA1 ?_|refine pX1 ?_|refine pB1 ?_|exact True.intro)
   refine W_turn bXq_11.eq_1 ?_
   repeat (with_reducible first|(first|refine pI1 ?_|refine pS1 ?_);intros|refine pA1 ?_|refine pX1 ?_|refine pB1 ?_|exact True.intro)
   exact⟨rfl,by omega,fun b hb=>by simp (disch:=first|with_reducible assumption|omega) only [go_sem, *,reduceCtorEq,↓reduceIte,Nat.reduceLT,Nat.reduceBEq,Nat.reduceAdd,Nat.reduceSub,Nat.reduceMul,Nat.reduceDiv,Nat.reduceMod,Nat.reducePow,Nat.reduceEqDiff,Nat.reduceLeDiff,Int.reduceLT,Int.reduceLE,Int.reduceNeg,Int.reduceToNat,Int.reduceAdd,Int.reduceSub,Int.reduceMul,Int.reduceEq,Int.reduceNe,Int.reduceBEq,Int.reduceBNe,Int.reducePow]⟩
 ·by_cases hf:f=0
  ·subst hf
   rw[show chs (X,e) (Y,0)=(Y,2) by simp[chs,he]]
   repeat (with_reducible first|(first|refine pI1 ?_|refine pS1 ?_);intros|refine pA1 ?_|refine pX1 ?_|refine pB1 ?_|exact True.intro)
   refine W_turn bXq_11.eq_1 ?_
   repeat (with_reducible first|(first|refine pI1 ?_|refine pS1 ?_);intros|refine pA1 ?_|refine pX1 ?_|refine pB1 ?_|exact True.intro)
   refine outM_call s_h2 ?_
   rintro _ H8 ⟨rfl,l8,g8,x8⟩
   repeat (with_reducible first|(first|refine pI1 ?_|refine pS1 ?_);intros|refine pA1 ?_|refine pX1 ?_|refine pB1 ?_|exact True.intro)
   refine W_turn bXq_11.eq_1 ?_
   repeat (with_reducible first|(first|refine pI1 ?_|refine pS1 ?_);intros|refine pA1 ?_|refine pX1 ?_|refine pB1 ?_|exact True.intro)
   exact⟨rfl,by omega,fun b hb=>by simp (disch:=first|with_reducible assumption|omega) only [go_sem, *,reduceCtorEq,↓reduceIte,Nat.reduceLT,Nat.reduceBEq,Nat.reduceAdd,Nat.reduceSub,Nat.reduceMul,Nat.reduceDiv,Nat.reduceMod,Nat.reducePow,Nat.reduceEqDiff,Nat.reduceLeDiff,Int.reduceLT,Int.reduceLE,Int.reduceNeg,Int.reduceToNat,Int.reduceAdd,Int.reduceSub,Int.reduceMul,Int.reduceEq,Int.reduceNe,Int.reduceBEq,Int.reduceBNe,Int.reducePow]⟩
  ·rw[show chs (X,e) (Y,f)=(zF,0) by simp[chs,hf,he]]
   repeat (with_reducible first|(first|refine pI1 ?_|refine pS1 ?_);intros|refine pA1 ?_|refine pX1 ?_|refine pB1 ?_|exact True.intro)
   refine W_turn bXq_11.eq_1 ?_
   repeat (with_reducible first|(first|refine pI1 ?_|refine pS1 ?_);intros|refine pA1 ?_|refine pX1 ?_|refine pB1 ?_|exact True.intro)
   refine outM_call s_h2 ?_
   rintro _ H8 ⟨rfl,l8,g8,x8⟩
   repeat (with_reducible first|(first|refine pI1 ?_|refine pS1 ?_);intros|refine pA1 ?_|refine pX1 ?_|refine pB1 ?_|exact True.intro)
   refine W_turn bXq_11.eq_1 ?_
   repeat (with_reducible first|(first|refine pI1 ?_|refine pS1 ?_);intros|refine pA1 ?_|refine pX1 ?_|refine pB1 ?_|exact True.intro)
   exact⟨rfl,by omega,fun b hb=>by simp (disch:=first|with_reducible assumption|omega) only [go_sem, *,reduceCtorEq,↓reduceIte,Nat.reduceLT,Nat.reduceBEq,Nat.reduceAdd,Nat.reduceSub,Nat.reduceMul,Nat.reduceDiv,Nat.reduceMod,Nat.reducePow,Nat.reduceEqDiff,Nat.reduceLeDiff,Int.reduceLT,Int.reduceLE,Int.reduceNeg,Int.reduceToNat,Int.reduceAdd,Int.reduceSub,Int.reduceMul,Int.reduceEq,Int.reduceNe,Int.reduceBEq,Int.reduceBNe,Int.reducePow]⟩
end Go.Proofs.YtjcgdcadflplcaaDoor.AM.D21
namespace Go.Proofs.YtjcgdcadflplcaaDoor.AM.D21
open Go Go.Proofs.YtjcgdcadflplcaaDoor.AM Go.Proofs.YtjcgdcadflplcaaDoor.AM.C02 Go.Proofs.YtjcgdcadflplcaaDoor.AM.C07 Go.Proofs.YtjcgdcadflplcaaDoor.AM.C21
set_option maxHeartbeats 2000000
set_option maxRecDepth 100000
attribute [local go_sem] tn_add1 tn_sub1 put_all' nums_len
theorem s_Owner {H:Heap} {K:List Cell} {a:Option Ad} {n c:Nat} {o:Bool} {ws:List Int} {s:Nat} (hl:K.length=12) (h0:K[0]?=some (.int .i64 (n:Nat))) (h1:K[1]?=some (.sl a n c o)) (hs:Sl H 1 a n (nums ws)) (hn:ws.length=n) (n1:1≤n):
  WC F fXc [.agg K,.c (.int .i64 (s:Nat))] H fun v H'=>v=.c (.int .i64 (gn ws (s % n)))∧Xt H H':=by
 refine WC_start eXc (by simp) ?_
 unfold cXc
 obtain⟨q,hq⟩:∃q,q=s % n:=⟨_,rfl⟩
 have hlt:q<n:=by rw[hq];exact Nat.mod_lt _ (by omega)
 rw[←hq]
 obtain⟨⟨lb,y⟩,rfl⟩:=hs.is_some (by omega)
 have hlb:lb<H.length:=hs.lts
 have hg:=hs.gn hn hlt
 dsimp only at hg
 have hr:(s:Int) % (n:Int)=(q:Nat):=by rw[hq];rfl
 have e1:¬(n:Int)<1:=by omega
 have fh:=zhd1 hs
 clear hs hn hq
 generalize gn ws q=w at *
 repeat (with_reducible first|(first|refine pI1 ?_|refine pS1 ?_);intros|refine pA1 ?_|refine pX1 ?_|refine pB1 ?_|exact True.intro)
 rename_i b1 H1 p1 g1 x1
 have hg1:ldB H1[lb]? (y+q)=some (.int .i64 w):=by rw[x1 lb (by omega)];exact hg
 have fx:=zhd1 x1
 clear x1 hg
 repeat (with_reducible first|(first|refine pI1 ?_|refine pS1 ?_);intros|refine pA1 ?_|refine pX1 ?_|refine pB1 ?_|exact True.intro)
 exact⟨rfl,by omega,fun b hb=>fx _ fun x=>x b (by omega)⟩
structure PrC (K:List Cell) (p0 p1:Nat) (cnt:List Int) (C:List Cell):Prop where
 len:C.length=94
 hk:sub C 0 12=some K
 kl:K.length=12
 c12:C[12]?=some (.ptr (some (p0,0)))
 c13:C[13]?=some (.ptr (some (p1,0)))
 cl:cnt.length=80
 cnt:∀k,k<80→C[14+k]?=some (.int .i64 (gn cnt k))
theorem sub_get {C K:List Cell} {m j:Nat} (h:sub C 0 m=some K) (hj:j<m):C[j]?=K[j]?:=by
 unfold sub at h
 split at h
 ·have e:=Option.some.inj h
  rw[←e,List.getElem?_take,if_pos hj,List.drop_zero]
 ·cases h
theorem sub_set {C K:List Cell} {m j:Nat} (h:sub C 0 m=some K) (hj:m≤j) (x:Cell):sub (C.set j x) 0 m=some K:=by
 unfold sub at *
 rw[List.length_set]
 split at h
 ·rename_i hc
  rw[if_pos hc,←h,List.drop_zero,List.drop_zero,List.take_set_of_le hj]
 ·cases h
theorem PrC.put {K:List Cell} {p0 p1:Nat} {cnt:List Int} {C:List Cell} (h:PrC K p0 p1 cnt C) {k:Nat} (hk:k<80) (x:Int):PrC K p0 p1 (cnt.set k x) (C.set (14+k) (.int .i64 x)) where
 len:=by rw[List.length_set];exact h.len
 hk:=sub_set h.hk (by omega) _
 kl:=h.kl
 c12:=by rw[List.getElem?_set_ne (by omega)];exact h.c12
 c13:=by rw[List.getElem?_set_ne (by omega)];exact h.c13
 cl:=by rw[List.length_set];exact h.cl
 cnt:=fun j hj=>by
  have hl:=h.len
  rw[gn_set]
  by_cases e:k=j
  ·subst e
   rw[List.getElem?_set_self (by omega),if_pos ⟨rfl,by have:=h.cl;omega⟩]
  ·rw[List.getElem?_set_ne (by omega),if_neg fun h'=>e h'.1];exact h.cnt j hj
structure Pr where
 K:List Cell
 n:Nat
 a:Option Ad
 c:Nat
 o:Bool
 ws:List Int
 p0:Nat
 e0:Nat
 p1:Nat
 e1:Nat
structure Cn where
 bl0:Nat
 pa0:Nat
 bl1:Nat
 pa1:Nat
 cnt:List Int
structure PrOk (P:Pr):Prop where
 k0:P.K[0]?=some (.int .i64 (P.n:Nat))
 k1:P.K[1]?=some (.sl P.a P.n P.c P.o)
 hn:P.ws.length=P.n
 n4:4≤P.n
 n16:P.n≤16
 hw:∀y∈P.ws,0≤y∧y<(P.n:Int)
 s1:P.p0≠P.p1
 s2:P.e0≠P.p1
 s3:P.e1≠P.p0
 s4:∀b x,P.a=some (b,x)→b≠P.p0∧b≠P.p1
structure PairM (H:Heap) (q:Nat) (P:Pr) (N:Cn):Prop where
 cells:∃C,H[q]?=some (.cells C false none)∧PrC P.K P.p0 P.p1 N.cnt C
 owners:Sl H 1 P.a P.n (nums P.ws)
 b0:BusM H P.p0 (some (P.e0,0)) P.n true P.ws N.bl0 N.pa0
 b1:BusM H P.p1 (some (P.e1,0)) P.n true P.ws N.bl1 N.pa1
 q0:q≠P.p0
 q1:q≠P.p1
 q2:q≠P.e0
 q3:q≠P.e1
 q4:∀b x,P.a=some (b,x)→b≠q
theorem s_none {H:Heap} {q:Nat} {P:Pr} {N:Cn} (h:PairM H q P N):WC F fXx [.c (.ptr (some (q,0)))] H fun v H'=>v=.c (.bool false)∧H'=H:=by
 refine WC_start eXx (by simp) ?_
 unfold cXx
 obtain⟨C,g,hC⟩:=h.cells
 have h12:=hC.c12
 clear h hC
 repeat (with_reducible first|(first|refine pI1 ?_|refine pS1 ?_);intros|refine pA1 ?_|refine pX1 ?_|refine pB1 ?_|exact True.intro)
 exact⟨rfl,rfl⟩
theorem s_Count {H:Heap} {q:Nat} {P:Pr} {N:Cn} (h:PairM H q P N) (ho:PrOk P) {n v:Int} (hn:i64 n) (hv:i64 v):WC F fXu [.c (.ptr (some (q,0))),.c (.int .i64 n),.c (.int .i64 v)] H fun r H'=>r=.c (.int .i64 (if 0≤n∧n<P.n∧0≤v∧v≤4 then gn N.cnt (n.toNat * 5+v.toNat) else 0))∧H'=H:=by
 refine WC_start eXu (by simp) ?_
 unfold cXu
 have hno:=s_none h
 obtain⟨C,g,hC⟩:=h.cells
 have h0:C[0]?=some (.int .i64 (P.n:Nat)):=by rw[sub_get hC.hk (by omega)];exact ho.k0
 have hcnt:=hC.cnt
 have n16:=ho.n16
 have fin0:=zhd1 hcnt
 clear h hC hcnt ho
 obtain⟨hn1,hn2⟩:=hn
 obtain⟨hv1,hv2⟩:=hv
 obtain⟨m,hm⟩:∃m,P.n=m:=⟨_,rfl⟩
 rw[hm] at h0 n16 ⊢
 clear hm
 by_cases c1:n<0
 ·rw[if_neg (by omega)]
  repeat (with_reducible first|(first|refine pI1 ?_|refine pS1 ?_);intros|refine pA1 ?_|refine pX1 ?_|refine pB1 ?_|exact True.intro)
  refine outM_call hno ?_
  rintro _ H ⟨rfl,rfl⟩
  repeat (with_reducible first|(first|refine pI1 ?_|refine pS1 ?_);intros|refine pA1 ?_|refine pX1 ?_|refine pB1 ?_|exact True.intro)
  exact⟨rfl,rfl⟩
 by_cases c2:n≥(m:Int)
 ·rw[if_neg (by omega)]
  repeat (with_reducible first|(first|refine pI1 ?_|refine pS1 ?_);intros|refine pA1 ?_|refine pX1 ?_|refine pB1 ?_|exact True.intro)
  refine outM_call hno ?_
  rintro _ H ⟨rfl,rfl⟩
  repeat (with_reducible first|(first|refine pI1 ?_|refine pS1 ?_);intros|refine pA1 ?_|refine pX1 ?_|refine pB1 ?_|exact True.intro)
  exact⟨rfl,rfl⟩
 by_cases c3:v<0
 ·rw[if_neg (by omega)]
  repeat (with_reducible first|(first|refine pI1 ?_|refine pS1 ?_);intros|refine pA1 ?_|refine pX1 ?_|refine pB1 ?_|exact True.intro)
  refine outM_call hno ?_
  rintro _ H ⟨rfl,rfl⟩
  repeat (with_reducible first|(first|refine pI1 ?_|refine pS1 ?_);intros|refine pA1 ?_|refine pX1 ?_|refine pB1 ?_|exact True.intro)
  exact⟨rfl,rfl⟩
 by_cases c4:v≥5
 ·rw[if_neg (by omega)]
  repeat (with_reducible first|(first|refine pI1 ?_|refine pS1 ?_);intros|refine pA1 ?_|refine pX1 ?_|refine pB1 ?_|exact True.intro)
  refine outM_call hno ?_
  rintro _ H ⟨rfl,rfl⟩
  repeat (with_reducible first|(first|refine pI1 ?_|refine pS1 ?_);intros|refine pA1 ?_|refine pX1 ?_|refine pB1 ?_|exact True.intro)
  exact⟨rfl,rfl⟩
 rw[if_pos (by omega)]
 obtain⟨x,rfl⟩:∃x:Nat,n=x:=⟨n.toNat,by omega⟩
 obtain⟨y,rfl⟩:∃y:Nat,v=y:=⟨v.toNat,by omega⟩
 rw[Int.toNat_natCast,Int.toNat_natCast]
 have hc:=fin0 _ fun h=>h (x * 5+y) (by omega)
 rw[←Nat.add_assoc] at hc
 generalize gn N.cnt (x * 5+y)=r at *
 repeat (with_reducible first|(first|refine pI1 ?_|refine pS1 ?_);intros|refine pA1 ?_|refine pX1 ?_|refine pB1 ?_|exact True.intro)
 refine outM_call hno ?_
 rintro _ H ⟨rfl,rfl⟩
 repeat (with_reducible first|(first|refine pI1 ?_|refine pS1 ?_);intros|refine pA1 ?_|refine pX1 ?_|refine pB1 ?_|exact True.intro)
 exact⟨rfl,rfl⟩
theorem s_dBlocked {H:Heap} {q:Nat} {P:Pr} {N:Cn} (h:PairM H q P N):WC F fXt [.c (.ptr (some (q,0)))] H fun v H'=>v=.c (.int .u64 ((N.bl0+N.bl1) % 18446744073709551616:Nat))∧H'=H:=by
 refine WC_start eXt (by simp) ?_
 unfold cXt
 have hno:=s_none h
 have h1:=s_Blocked h.b0
 have h2:=s_Blocked h.b1
 obtain⟨C,g,hC⟩:=h.cells
 have h12:=hC.c12
 have h13:=hC.c13
 clear h hC
 repeat (with_reducible first|(first|refine pI1 ?_|refine pS1 ?_);intros|refine pA1 ?_|refine pX1 ?_|refine pB1 ?_|exact True.intro)
 refine outM_call hno ?_
 rintro _ H ⟨rfl,rfl⟩
 repeat (with_reducible first|(first|refine pI1 ?_|refine pS1 ?_);intros|refine pA1 ?_|refine pX1 ?_|refine pB1 ?_|exact True.intro)
 refine outM_call h1 ?_
 rintro _ H ⟨rfl,rfl⟩
 repeat (with_reducible first|(first|refine pI1 ?_|refine pS1 ?_);intros|refine pA1 ?_|refine pX1 ?_|refine pB1 ?_|exact True.intro)
 refine outM_call h2 ?_
 rintro _ H ⟨rfl,rfl⟩
 repeat (with_reducible first|(first|refine pI1 ?_|refine pS1 ?_);intros|refine pA1 ?_|refine pX1 ?_|refine pB1 ?_|exact True.intro)
 exact⟨rfl,rfl⟩
end Go.Proofs.YtjcgdcadflplcaaDoor.AM.D21
namespace Go.Proofs.YtjcgdcadflplcaaDoor.AM.D21
open Go Go.Proofs.YtjcgdcadflplcaaDoor.AM Go.Proofs.YtjcgdcadflplcaaDoor.AM.C02 Go.Proofs.YtjcgdcadflplcaaDoor.AM.C07 Go.Proofs.YtjcgdcadflplcaaDoor.AM.C21
set_option maxHeartbeats 2000000
set_option maxRecDepth 100000
attribute [local go_sem] tn_add1 tn_sub1 put_all' nums_len
theorem rep5 (a:Cell):List.replicate 5 a=[a,a,a,a,a]:=rfl
attribute [local go_sem] rep5
def colS (cnt:List Int) (v:Nat):Nat→Int
 |0=>0
 |n+1=>colS cnt v n+gn cnt (n * 5+v)
theorem colS_in {cnt:List Int} {v:Nat} {B:Int} (hv:v<5) (h:∀k,k<80→0≤gn cnt k∧gn cnt k≤B):∀n,n≤16→0≤colS cnt v n∧colS cnt v n≤B * n
 |0,_=>by simp[colS]
 |n+1,hn=>by
  have ih:=colS_in hv h n (by omega)
  have:=h (n * 5+v) (by omega)
  unfold colS
  have e:B * ((n+1:Nat):Int)=B * n+B:=by rw[Int.natCast_add,Int.mul_add];simp
  omega
theorem sub_rows5 {C:List Cell} {cnt:List Int} {off:Nat} (hc:cnt.length=80) (hl:C.length=off+80) (h:∀k,k<80→C[off+k]?=some (.int .i64 (gn cnt k))):sub C off 80=some (nums cnt):=by
 unfold sub
 rw[if_pos (by omega)]
 congr 1
 apply List.ext_getElem?
 intro i
 rw[List.getElem?_take]
 by_cases hi:i<80
 ·rw[if_pos hi,List.getElem?_drop,h i hi,nums_get (by omega)]
 ·rw[if_neg hi,List.getElem?_eq_none (by rw[nums_len];omega)]
theorem sub_five {cnt:List Int} {n:Nat} (hc:cnt.length=80) (hn:n<16):sub (nums cnt) (n * 5) 5=some [.int .i64 (gn cnt (n * 5)),.int .i64 (gn cnt (n * 5+1)),.int .i64 (gn cnt (n * 5+2)),.int .i64 (gn cnt (n * 5+3)),.int .i64 (gn cnt (n * 5+4))]:=by
 unfold sub
 rw[if_pos (by rw[nums_len];omega)]
 congr 1
 have hg:∀j,j<5→(nums cnt)[n * 5+j]?=some (.int .i64 (gn cnt (n * 5+j))):=fun j hj=>nums_get (by omega)
 apply List.ext_getElem?
 intro i
 rw[List.getElem?_take]
 by_cases hi:i<5
 ·rw[if_pos hi,List.getElem?_drop,hg i hi]
  have:i=0∨i=1∨i=2∨i=3∨i=4:=by omega
  rcases this with rfl|rfl|rfl|rfl|rfl<;>rfl
 ·rw[if_neg hi,List.getElem?_eq_none (by simp;omega)]
theorem s_Losses {H:Heap} {q:Nat} {P:Pr} {N:Cn} (h:PairM H q P N) (hB:∀k,k<80→0≤gn N.cnt k∧gn N.cnt k≤1000000):WC F fXv [.c (.ptr (some (q,0)))] H fun v H'=>v=.tup [.c (.int .i64 (colS N.cnt 2 16)),.c (.int .i64 (colS N.cnt 1 16))]∧Xt H H':=by
 refine WC_start eXv (by simp) ?_
 unfold cXv
 have hno:=s_none h
 obtain⟨C,g,hC⟩:=h.cells
 have hsub:=sub_rows5 hC.cl hC.len hC.cnt
 have hrow:∀n,n<16→prd (nums N.cnt) (n * 5) (some 5)=some (.agg [.int .i64 (gn N.cnt (n * 5)),.int .i64 (gn N.cnt (n * 5+1)),.int .i64 (gn N.cnt (n * 5+2)),.int .i64 (gn N.cnt (n * 5+3)),.int .i64 (gn N.cnt (n * 5+4))]):=fun n hn=>by rw[prd,sub_five (n:=n) hC.cl hn];rfl
 have hl:=hC.cl
 clear h hC
 generalize N.cnt=cnt at *
 have hc1:=colS_in (v:=1) (by omega) hB
 have hc2:=colS_in (v:=2) (by omega) hB
 have fin0:=zhd4 hrow hc1 hc2 hB
 clear hrow hc1 hc2 hB
 repeat (with_reducible first|(first|refine pI1 ?_|refine pS1 ?_);intros|refine pA1 ?_|refine pX1 ?_|refine pB1 ?_|exact True.intro)
 refine outM_call hno ?_
 rintro _ H ⟨rfl,rfl⟩
 clear hno
 repeat (with_reducible first|(first|refine pI1 ?_|refine pS1 ?_);intros|refine pA1 ?_|refine pX1 ?_|refine pB1 ?_|exact True.intro)
 refine W_loop (fun mm st=>∃ρ,∃i:Nat,∃Hk,st=⟨L 26 ρ,[],Hk⟩∧mm=16-i∧i≤16∧ρ 2=.c (.int .i64 (colS cnt 2 i))∧ρ 3=.c (.int .i64 (colS cnt 1 i))∧ρ 11=.agg (nums cnt)∧ρ 12=.c (.int .i64 (i:Nat))∧Hid (Xt H Hk)) 16 ⟨_,0,H,rfl,rfl,by omega,zf,zf,zf,zf,Nat.le_refl _,fun _ _=>rfl⟩ ?_
 rintro mm st ⟨ρ,i,Hk,rfl,rfl,hi,e2,e3,e11,e12,hx⟩
 unfold bXv_9
 have lk:=hx.1
 have fx:=zhd1 hx
 clear hx
 by_cases hin:i<16
 ·have hxt:(i:Int)<16:=by omega
  have hr:=fin0 _ fun h _ _ _=>h i hin
  have b1:=fin0 _ fun _ h _ _=>h i (by omega)
  have b2:=fin0 _ fun _ _ h _=>h i (by omega)
  have b3:=fin0 _ fun _ _ _ h=>h (i * 5+1) (by omega)
  have b4:=fin0 _ fun _ _ _ h=>h (i * 5+2) (by omega)
  have n1:colS cnt 1 (i+1)=colS cnt 1 i+gn cnt (i * 5+1):=rfl
  have n2:colS cnt 2 (i+1)=colS cnt 2 i+gn cnt (i * 5+2):=rfl
  have fn:=zhd2 n1 n2
  clear n1 n2
  generalize gn cnt (i * 5)=w0 at *
  generalize gn cnt (i * 5+1)=w1 at *
  generalize gn cnt (i * 5+2)=w2 at *
  generalize gn cnt (i * 5+3)=w3 at *
  generalize gn cnt (i * 5+4)=w4 at *
  have q1:colS cnt 1 (i+1)=colS cnt 1 i+w1:=fn _ fun h _=>h
  have q2:colS cnt 2 (i+1)=colS cnt 2 i+w2:=fn _ fun _ h=>h
  have fq:=zhd2 q1 q2
  clear q1 q2
  generalize colS cnt 1 i=s1 at *
  generalize colS cnt 2 i=s2 at *
  repeat (with_reducible first|(first|refine pI1 ?_|refine pS1 ?_);intros|refine pA1 ?_|refine pX1 ?_|refine pB1 ?_|exact True.intro)
  rename_i b5 H5 p5 g5 x5 H6 l6 g6 x6
  have fg:=zhd2 x5 x6
  clear x5 x6 g5
  repeat (with_reducible first|(first|refine pI1 ?_|refine pS1 ?_);intros|refine pA1 ?_|refine pX1 ?_|refine pB1 ?_|exact True.intro)
  exact loopQ_n (16-(i+1)) (by omega) ⟨_,i+1,_,rfl,rfl,by omega,by rw[fq _ fun _ h=>h];exact zf,by rw[fq _ fun h _=>h];exact zf,zf,zf,by omega,fun b hb=>fg _ fun x5 x6=>by rw[x6 b (by omega),x5 b (by omega)];exact fx _ fun h=>h.2 b hb⟩
 ·obtain rfl:i=16:=by omega
  generalize colS cnt 1 16=s1 at *
  generalize colS cnt 2 16=s2 at *
  repeat (with_reducible first|(first|refine pI1 ?_|refine pS1 ?_);intros|refine pA1 ?_|refine pX1 ?_|refine pB1 ?_|exact True.intro)
  exact⟨rfl,lk,fun b hb=>fx _ fun h=>h.2 b hb⟩
end Go.Proofs.YtjcgdcadflplcaaDoor.AM.D21
namespace Go.Proofs.YtjcgdcadflplcaaDoor.AM.D21
open Go Go.Proofs.YtjcgdcadflplcaaDoor.AM Go.Proofs.YtjcgdcadflplcaaDoor.AM.C02 Go.Proofs.YtjcgdcadflplcaaDoor.AM.C07 Go.Proofs.YtjcgdcadflplcaaDoor.AM.C21
set_option maxHeartbeats 2000000
set_option maxRecDepth 100000
attribute [local go_sem] tn_add1 tn_sub1 put_all' nums_len
def z80:List Int:=List.replicate 80 0
def zc80:List Cell:=List.replicate 80 (Cell.int .i64 0)
theorem zc80_eq:List.replicate 80 (Cell.int .i64 0)=zc80:=rfl
theorem z80_gn (k:Nat):gn z80 k=0:=by
 unfold gn z80
 rw[List.getD_eq_getElem?_getD,List.getElem?_replicate]
 split<;>rfl
theorem zc80_at {k:Nat} (h:k<80):zc80[k]?=some (.int .i64 (gn z80 k)):=by
 rw[z80_gn];unfold zc80;rw[List.getElem?_replicate,if_pos h]
def Z94:List Cell:=[Cell.int .i64 0,.sl none 0 0 false,.int .i64 0,.int .i64 0,.int .i64 0,.int .i64 0,.int .i64 0,.int .i64 0,.sl none 0 0 false,.sl none 0 0 false,.sl none 0 0 false,.sl none 0 0 false,.ptr none,.ptr none]++zc80
theorem Z94_eq:([(Cell.int .i64 0)]++[(.sl none 0 0 false)]++List.replicate 6 (.int .i64 0)++List.replicate 4 (.sl none 0 0 false)++List.replicate 2 (.ptr none)++zc80)=Z94:=rfl
theorem Z94_len:Z94.length=94:=rfl
attribute [local go_sem 2000] zc80_eq Z94_eq Z94_len
theorem Z94_at {k:Nat} (h:k<80):Z94[14+k]?=some (.int .i64 (gn z80 k)):=by
 unfold Z94
 rw[List.getElem?_append_right (by simp)]
 have:14+k - [Cell.int .i64 0,.sl none 0 0 false,.int .i64 0,.int .i64 0,.int .i64 0,.int .i64 0,.int .i64 0,.int .i64 0,.sl none 0 0 false,.sl none 0 0 false,.sl none 0 0 false,.sl none 0 0 false,.ptr none,.ptr none].length=k:=by simp
 rw[this];exact zc80_at h
theorem put_at {C K:List Cell} {m:Nat} (hm:K.length=m) (hl:m≤C.length) (j:Nat):(put C 0 K)[j]?=if j<m then K[j]? else C[j]?:=by
 rw[put_get (by omega)]
 by_cases h:j<m
 ·rw[if_pos h,if_pos (by omega),Nat.sub_zero]
 ·rw[if_neg h,if_neg (by omega)]
end Go.Proofs.YtjcgdcadflplcaaDoor.AM.D21
