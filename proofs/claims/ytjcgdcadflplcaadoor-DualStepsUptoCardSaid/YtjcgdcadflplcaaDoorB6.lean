/- What the functions that this law reaches come to, each walked once, and the plain laws that stand behind them. -/
import Derived.Test.YtjcgdcadflplcaaDoorB5
import Derived.Test.YtjcgdcadflplcaaDoorB4
set_option linter.unusedVariables false
set_option linter.unusedSimpArgs false
set_option linter.unusedSectionVars false
namespace Go.Proofs.YtjcgdcadflplcaaDoor.AM.D21
open Go Go.Proofs.YtjcgdcadflplcaaDoor.AM Go.Proofs.YtjcgdcadflplcaaDoor.AM.C02 Go.Proofs.YtjcgdcadflplcaaDoor.AM.C07 Go.Proofs.YtjcgdcadflplcaaDoor.AM.C21 Go.Proofs.YtjcgdcadflplcaaDoor.AM.P3
set_option maxHeartbeats 2000000
set_option maxRecDepth 100000
attribute [local go_sem] tn_add1 tn_sub1 put_all' nums_len sub_all sub02
theorem PairM.sub {H H':Heap} {q:Nat} {P:Pr} {N:Cn} (h:PairM H q P N) (hx:∀b,b=q∨b=P.p0∨b=P.p1∨b=P.e0∨b=P.e1∨(∃x,P.a=some (b,x))→H'[b]?=H[b]?):PairM H' q P N:=by
 obtain⟨C,g,hC⟩:=h.cells
 exact⟨⟨C,by rw[hx q (.inl rfl)];exact g,hC⟩,h.owners.keep fun b x e=>hx b (.inr (.inr (.inr (.inr (.inr ⟨x,e⟩))))),
  h.b0.keep fun b hb=>hx b (by rcases hb with rfl|⟨x,e⟩;exact .inr (.inl rfl);cases e;exact .inr (.inr (.inr (.inl rfl)))),
  h.b1.keep fun b hb=>hx b (by rcases hb with rfl|⟨x,e⟩;exact .inr (.inr (.inl rfl));cases e;exact .inr (.inr (.inr (.inr (.inl rfl))))),h.q0,h.q1,h.q2,h.q3,h.q4⟩
theorem PairM.lt {H:Heap} {q:Nat} {P:Pr} {N:Cn} (h:PairM H q P N):q<H.length∧P.p0<H.length∧P.p1<H.length∧P.e0<H.length∧P.e1<H.length∧∀b x,P.a=some (b,x)→b<H.length:=by
 obtain⟨C,g,hC⟩:=h.cells
 exact⟨lt_of_get g,lt_of_get h.b0.1,lt_of_get h.b1.1,h.b0.2.1.lt (b:=P.e0) (x:=0) rfl,h.b1.2.1.lt (b:=P.e1) (x:=0) rfl,fun b x e=>h.owners.lt e⟩
theorem RpM.sub {H H':Heap} {r:Nat} {R:Rp} {N:Cn} (h:RpM H r R N) (hx:∀b,b=r∨(∃x,R.a=some (b,x))→H'[b]?=H[b]?):RpM H' r R N:=by
 obtain⟨C,g,hC⟩:=h.cells
 exact⟨⟨C,by rw[hx r (.inl rfl)];exact g,hC⟩,h.owners.keep fun b x e=>hx b (.inr ⟨x,e⟩),h.sep⟩
structure Bo (M:Nat) (H:Heap) (q r:Nat) (P:Pr) (R:Rp) (N:Cn) (B:Nat):Prop where
 pm:PairM H q P N
 rm:RpM H r R N
 po:PrOk P
 ro:RpOk R
 hn:R.n=P.n
 hw:R.ws=P.ws
 m0:M≤q
 m1:M≤P.p0
 m2:M≤P.p1
 m3:M≤r
 s0:r≠q
 s1:r≠P.p0
 s2:r≠P.p1
 s3:r≠P.e0
 s4:r≠P.e1
 s5:∀b x,P.a=some (b,x)→b≠r
 s6:∀b x,R.a=some (b,x)→b≠q∧b≠P.p0∧b≠P.p1
 cnt:∀k,k<80→0≤gn N.cnt k∧gn N.cnt k≤(B:Int)
theorem Bo.xt {M:Nat} {H H':Heap} {q r:Nat} {P:Pr} {R:Rp} {N:Cn} {B:Nat} (h:Bo M H q r P R N B) (x:∀b,b<H.length→H'[b]?=H[b]?):Bo M H' q r P R N B:=
 { h with pm:=h.pm.keepX x,rm:=h.rm.keepX x }
theorem Bo.step {M:Nat} {H H1 H2:Heap} {q r:Nat} {P:Pr} {R:Rp} {N:Cn} {B:Nat} {x:Slt} (h:Bo M H q r P R N B) (h1:PairM H1 q P (N.step x P.ws)) (x1:∀b,b<H.length→b≠q→b≠P.p0→b≠P.p1→H1[b]?=H[b]?) (l1:H.length≤H1.length)
  (h2:RpM H2 r R (N.step x P.ws)) (x2:∀b,b<H1.length→b≠r→H2[b]?=H1[b]?):Bo M H2 q r P R (N.step x P.ws) (B+16):=by
 obtain⟨l2,l3,l4,l5,l6,l7⟩:=h.pm.lt
 have hl:N.cnt.length=80:=by obtain⟨C,g,hC⟩:=h.pm.cells;exact hC.cl
 refine { h with pm:=h1.sub fun b hb=>x2 b ?_ ?_,rm:=h2,cnt:=fun k hk=>?_ }
 ·rcases hb with rfl|rfl|rfl|rfl|rfl|⟨z,e⟩
  ·omega
  ·omega
  ·omega
  ·omega
  ·omega
  ·have:=l7 b z e;omega
 ·rcases hb with rfl|rfl|rfl|rfl|rfl|⟨z,e⟩
  ·exact h.s0.symm
  ·exact h.s1.symm
  ·exact h.s2.symm
  ·exact h.s3.symm
  ·exact h.s4.symm
  ·exact h.s5 b z e
 ·have:=cntS_in (ow:=(x.ow P.ws).toNat) (v:=x.vN P.ws) (by rw[hl];exact hk) (h.cnt k hk) P.ws.length
  have hn:=h.po.hn
  have h16:=h.po.n16
  show 0≤gn (cntS (x.ow P.ws).toNat (x.vN P.ws) N.cnt P.ws.length) k∧gn (cntS (x.ow P.ws).toNat (x.vN P.ws) N.cnt P.ws.length) k≤((B+16:Nat):Int)
  omega
theorem s7_1 (a b c d e f g:Cell):sub [a,b,c,d,e,f,g] 1 2=some [b,c]:=rfl
theorem s7_3 (a b c d e f g:Cell):sub [a,b,c,d,e,f,g] 3 2=some [d,e]:=rfl
theorem s7_5 (a b c d e f g:Cell):sub [a,b,c,d,e,f,g] 5 2=some [f,g]:=rfl
attribute [local go_sem] s7_1 s7_3 s7_5
theorem steps_turn {ρ:Nat→V} {M:Nat} {H:Heap} {q r b11:Nat} {P:Pr} {R:Rp} {N:Cn} {B:Nat} {x:Slt} {slot:Int} {x0 x1 y0 y1:Option Ad} {d0 d1 f0 f1 n i tb ty cc:Nat} {oo:Bool} (hB:Bo M H q r P R N B) (hBB:B≤900000) (hM0:0<M) (hML:M≤H.length) (hT:H[0]?=some nibB) (hx:SltM M H x x0 x1 y0 y1) (hk:0≤slot→SltOk x) (hsl:0≤slot→slot=(x.slot:Nat))
  (g11:H[b11]?=some (.cells [.int .i64 slot,.int .i64 x.ss,.int .u16 (x.mem:Nat),.sl x0 x.l0.length d0 false,.sl x1 x.l1.length d1 false,.sl y0 x.k0.length f0 false,.sl y1 x.k1.length f1 false] false none)) (hb11:M≤b11) (hs:b11≠q∧b11≠P.p0∧b11≠P.p1∧b11≠r)
  (e1:ρ 1=.c (.sl (some (tb,ty)) n cc oo)) (e6:ρ 6=.c (.ptr (some (q,0)))) (e8:ρ 8=.c (.ptr (some (r,0)))) (e11:ρ 11=.c (.ptr (some (b11,0)))) (e56:ρ 56=.c (.int .i64 (n:Nat))) (e57:ρ 57=.c (.int .i64 (i:Nat))):
  W F none (.seq (.ops oX16_14) (.seq (.ops oX16_15) (.seq (.ops oX16_16) (.cond (.t 105) (.seq (.ops oX16_17) .ret) .skip)))) ⟨L 154 ρ,[],H⟩ fun e st=>e=.normal∧∃ρ' H' N',st=⟨L 154 ρ',[],H'⟩∧ρ' 1=.c (.sl (some (tb,ty)) n cc oo)∧ρ' 6=.c (.ptr (some (q,0)))∧ρ' 8=.c (.ptr (some (r,0)))∧ρ' 56=.c (.int .i64 (n:Nat))∧ρ' 57=.c (.int .i64 (i:Nat))∧H.length≤H'.length∧Bo M H' q r P R N' (B+16)∧∀b,b<M→H'[b]?=H[b]?:=by
 by_cases h0:slot<0
 ·have hc1:=s_dStepN (S:=[.int .i64 x.ss,.int .u16 (x.mem:Nat)]) (X:=[.sl x0 x.l0.length d0 false,.sl x1 x.l1.length d1 false]) (Y:=[.sl y0 x.k0.length f0 false,.sl y1 x.k1.length f1 false]) hB.pm h0
  have hc2:=fun Hx=>s_rStepN (H:=Hx) (r:=r) (S:=[.int .i64 x.ss,.int .u16 (x.mem:Nat)]) (X:=[.sl x0 x.l0.length d0 false,.sl x1 x.l1.length d1 false]) (Y:=[.sl y0 x.k0.length f0 false,.sl y1 x.k1.length f1 false]) h0
  have hc3:=fun Hx=>s_Frames (H:=Hx) (a:=none) (b:=none) (n:=0) (c1:=0) (c2:=0) (o1:=false) (o2:=false) (x:=x) (ws:=P.ws) (Sl.none _ _) (Sl.none _ _) (by omega)
  have hc4:=fun Hx=>s_Ints (H:=Hx) (a:=none) (b:=none) (n:=0) (c1:=0) (c2:=0) (o1:=false) (o2:=false) (l:=[]) (Sl.none _ _) (Sl.none _ _) rfl (by omega)
  have hlt:=lt_of_get g11
  have fin0:=zhd5 hB hc1 hc2 hc3 hc4
  clear hB hc1 hc2 hc3 hc4 hk hsl hx hT
  repeat (with_reducible first|(first|refine pI1 ?_|refine pS1 ?_);intros|refine pA1 ?_|refine pX1 ?_|refine pB1 ?_|exact True.intro)
  refine outM_call (fin0 _ fun _ h _ _ _=>h) ?_
  rintro _ H1 ⟨rfl,l1,k1⟩
  have g111:=(k1 b11 (by omega)).trans g11
  have f1:=zhd1 k1
  clear k1 g11
  repeat (with_reducible first|(first|refine pI1 ?_|refine pS1 ?_);intros|refine pA1 ?_|refine pX1 ?_|refine pB1 ?_|exact True.intro)
  refine outM_call (fin0 _ fun _ _ h _ _=>h H1) ?_
  rintro _ H2 ⟨rfl,l2,k2⟩
  have f2:=zhd1 k2
  clear k2 g111
  repeat (with_reducible first|(first|refine pI1 ?_|refine pS1 ?_);intros|refine pA1 ?_|refine pX1 ?_|refine pB1 ?_|exact True.intro)
  refine outM_call (fin0 _ fun _ _ _ h _=>h H2) ?_
  rintro _ H2 ⟨rfl,rfl⟩
  repeat (with_reducible first|(first|refine pI1 ?_|refine pS1 ?_);intros|refine pA1 ?_|refine pX1 ?_|refine pB1 ?_|exact True.intro)
  refine outM_call (fin0 _ fun _ _ _ _ h=>h H2) ?_
  rintro _ H2 ⟨rfl,rfl⟩
  repeat (with_reducible first|(first|refine pI1 ?_|refine pS1 ?_);intros|refine pA1 ?_|refine pX1 ?_|refine pB1 ?_|exact True.intro)
  refine⟨rfl,_,H2,N,rfl,zf,zf,zf,zf,zf,by omega,fin0 _ fun hB _ _ _ _=>?_,fun b hb=>by rw[f2 _ fun x=>x b (by omega)];exact f1 _ fun x=>x b (by omega)⟩
  have h':=hB.xt (H':=H2) fun b hb=>by rw[f2 _ fun x=>x b (by omega)];exact f1 _ fun x=>x b hb
  exact { h' with cnt:=fun k hk=>by have:=h'.cnt k hk;omega }
 have hk':=hk (by omega)
 clear hk
 have hsl':=hsl (by omega)
 clear hsl
 subst hsl'
 have hc1:=s_dStep (M:=M) (d0:=d0) (d1:=d1) (f0:=f0) (f1:=f1) (u0:=false) (u1:=false) (v0:=false) (v1:=false) hB.pm hB.po ⟨hB.m0,hB.m1,hB.m2⟩ hML hT hM0 (fun k hk=>by have:=hB.cnt k hk;omega) hx hk'
 have hc2:=fun(Hx:Heap) (h1:∀b,b<M→Hx[b]?=H[b]?) (hl:H.length≤Hx.length) (hr:RpM Hx r R N)=>s_rStep (M:=M) (d0:=d0) (d1:=d1) (f0:=f0) (f1:=f1) (u0:=false) (u1:=false) (v0:=false) (v1:=false) hr hB.ro hB.m3 (by omega) (fun k hk=>by have:=hB.cnt k hk;omega) (hx.keep h1) hk'
 have hlt:=lt_of_get g11
 have hn:=hB.hn
 have hw:=hB.hw
 have h16:=hB.po.n16
 obtain⟨q2,q3,q4,q5⟩:=hs
 have m0:=hB.m0
 have m1:=hB.m1
 have m2:=hB.m2
 have m3:=hB.m3
 have fin0:=zhd3 hB hc1 hc2
 clear hB hc1 hc2 hk' hx hT
 repeat (with_reducible first|(first|refine pI1 ?_|refine pS1 ?_);intros|refine pA1 ?_|refine pX1 ?_|refine pB1 ?_|exact True.intro)
 refine outM_call (fin0 _ fun _ h _=>h) ?_
 rintro _ H1 ⟨⟨fa,fo,va,vo,lo,rfl,k1,k2,k3,k4⟩,k5,k6,k7⟩
 have g111:=(k7 b11 (by omega) q2 q3 q4).trans g11
 have hr1:RpM H1 r R N:=fin0 _ fun hB _ _=>hB.rm.sub fun b hb=>k7 b (by
  rcases hb with rfl|⟨z,e⟩
  ·exact hB.rm.lt
  ·exact hB.rm.owners.lt e) (by rcases hb with rfl|⟨z,e⟩;exact hB.s0;exact(hB.s6 b z e).1) (by rcases hb with rfl|⟨z,e⟩;exact hB.s1;exact(hB.s6 b z e).2.1) (by rcases hb with rfl|⟨z,e⟩;exact hB.s2;exact(hB.s6 b z e).2.2)
 have hc2:=fin0 _ fun _ _ h=>h H1 (fun b hb=>k7 b (by omega) (by omega) (by omega) (by omega)) k6 hr1
 have f1:=zhd5 k2 k3 k5 k7 hc2
 clear k2 k3 k4 k5 k7 hc2 hr1 g11
 repeat (with_reducible first|(first|refine pI1 ?_|refine pS1 ?_);intros|refine pA1 ?_|refine pX1 ?_|refine pB1 ?_|exact True.intro)
 refine outM_call (f1 _ fun _ _ _ _ h=>h) ?_
 rintro v H2 hq
 unfold RStepQ at hq
 rw[hn,hw] at hq
 obtain⟨⟨ga,go,wa,wo,lo2,rfl,j1,j2,j3,j4⟩,j5,j6,j7⟩:=hq
 have hsf:Sl H2 67 fa P.n (x.fr P.ws P.n):=f1 _ fun h _ _ _ _=>h.sl.keep fun b z e=>j7 b (h.lt _ e).2 (by have:=(h.lt _ e).1;have:=fin0 _ fun hB _ _=>hB.rm.lt;omega)
 have hsv:Sl H2 1 va P.n (nums (x.vv P.ws P.n)):=f1 _ fun _ h _ _ _=>h.sl.keep fun b z e=>j7 b (h.lt _ e).2 (by have:=(h.lt _ e).1;have:=fin0 _ fun hB _ _=>hB.rm.lt;omega)
 have hc3:=s_Frames (c1:=P.n) (c2:=P.n) (o1:=fo) (o2:=go) hsf (j2.sl) (by omega)
 have hc4:=s_Ints (c1:=P.n) (c2:=P.n) (o1:=vo) (o2:=wo) hsv (j3.sl) (vv_len ..) (by omega)
 have hB2:Bo M H2 q r P R (N.step x P.ws) (B+16):=fin0 _ fun hB _ _=>f1 _ fun _ _ h k7 _=>hB.step h k7 k6 j5 j7
 have f2:=zhd4 hc3 hc4 hB2 j7
 clear hc3 hc4 hB2 j2 j3 j4 j5 j7 hsf hsv g111
 repeat (with_reducible first|(first|refine pI1 ?_|refine pS1 ?_);intros|refine pA1 ?_|refine pX1 ?_|refine pB1 ?_|exact True.intro)
 refine outM_call (f2 _ fun h _ _ _=>h) ?_
 rintro _ H2 ⟨rfl,rfl⟩
 repeat (with_reducible first|(first|refine pI1 ?_|refine pS1 ?_);intros|refine pA1 ?_|refine pX1 ?_|refine pB1 ?_|exact True.intro)
 refine outM_call (f2 _ fun _ h _ _=>h) ?_
 rintro _ H2 ⟨rfl,rfl⟩
 repeat (with_reducible first|(first|refine pI1 ?_|refine pS1 ?_);intros|refine pA1 ?_|refine pX1 ?_|refine pB1 ?_|exact True.intro)
 exact⟨rfl,_,H2,_,rfl,zf,zf,zf,zf,zf,by omega,f2 _ fun _ _ h _=>h,fun b hb=>by rw[f2 _ fun _ _ _ j7=>j7 b (by omega) (by omega)];exact f1 _ fun _ _ _ k7 _=>k7 b (by omega) (by omega) (by omega) (by omega)⟩
end Go.Proofs.YtjcgdcadflplcaaDoor.AM.D21
namespace Go.Proofs.YtjcgdcadflplcaaDoor.AM.D21
open Go Go.Proofs.YtjcgdcadflplcaaDoor.AM Go.Proofs.YtjcgdcadflplcaaDoor.AM.C02 Go.Proofs.YtjcgdcadflplcaaDoor.AM.C07 Go.Proofs.YtjcgdcadflplcaaDoor.AM.C21 Go.Proofs.YtjcgdcadflplcaaDoor.AM.P3
set_option maxHeartbeats 2000000
set_option maxRecDepth 100000
attribute [local go_sem] tn_add1 tn_sub1 put_all' nums_len sub_all sub02
attribute [local go_sem 2000] zc80_eq Z98_eq Z98_eq2 Z98_len
def nib:List Int:=[0x00000000,0x1db71064,0x3b6e20c8,0x26d930ac,0x76dc4190,0x6b6b51f4,0x4db26158,0x5005713c,0xedb88320,0xf00f9344,0xd6d6a3e8,0xcb61b38c,0x9b64c2b0,0x86d3d2d4,0xa00ae278,0xbdbdf21c]
theorem tab {H:Heap} (h:Begins (tabs [(0,.u32,nib)]) H):H[0]?=some nibB:=h 0 _ rfl
theorem steps_counts {ρ:Nat→V} {M:Nat} {H:Heap} {q r:Nat} {P:Pr} {R:Rp} {N:Cn} {B:Nat} (hB:Bo M H q r P R N B) (e6:ρ 6=.c (.ptr (some (q,0)))) (e8:ρ 8=.c (.ptr (some (r,0)))):
  W F none (.seq (.ops oX16_20) (.block 2 (.loop bX16_29))) ⟨L 154 ρ,[],H⟩ fun e st=>e=.normal∧∃ρ',st=⟨L 154 ρ',[],H⟩∧ρ' 6=.c (.ptr (some (q,0)))∧ρ' 8=.c (.ptr (some (r,0))):=by
 have hc1:=fun(n v:Int) (h1:i64 n) (h2:i64 v)=>s_Count (n:=n) (v:=v) hB.pm hB.po h1 h2
 have hc2:=fun(n v:Int) (h1:i64 n) (h2:i64 v)=>s_rCount (n:=n) (v:=v) hB.rm hB.ro h1 h2
 rw[hB.hn] at hc2
 have fin0:=zhd2 hc1 hc2
 clear hB hc1 hc2
 repeat (with_reducible first|(first|refine pI1 ?_|refine pS1 ?_);intros|refine pA1 ?_|refine pX1 ?_|refine pB1 ?_|exact True.intro)
 refine W_loop (fun mm st=>∃ρ,∃a:Nat,st=⟨L 154 ρ,[],H⟩∧mm=18-a∧a≤18∧ρ 6=.c (.ptr (some (q,0)))∧ρ 8=.c (.ptr (some (r,0)))∧ρ 18=.c (.int .i64 ((a:Int)-1))) 18 ⟨_,0,rfl,rfl,by omega,zf,zf,zf⟩ ?_
 clear e6 e8
 rintro mm st ⟨ρ,a,rfl,rfl,ha,e6,e8,e18⟩
 unfold bX16_29
 by_cases hin:a<18
 case neg=>
  have hxt:¬((a:Int)-1)≤16:=by omega
  repeat (with_reducible first|(first|refine pI1 ?_|refine pS1 ?_);intros|refine pA1 ?_|refine pX1 ?_|refine pB1 ?_|exact True.intro)
  exact⟨rfl,_,rfl,zf,zf⟩
 have hxt:((a:Int)-1)≤16:=by omega
 obtain⟨na,hna⟩:∃na,na=(a:Int)-1:=⟨_,rfl⟩
 have hia:i64 na:=by unfold i64;omega
 rw[←hna] at e18 hxt
 have hn1:na+1=((a+1:Nat):Int)-1:=by omega
 have hb:-1≤na∧na≤16:=by omega
 have fna:=zhd1 hn1
 clear hna hn1
 obtain⟨hb1,hb2⟩:=hb
 repeat (with_reducible first|(first|refine pI1 ?_|refine pS1 ?_);intros|refine pA1 ?_|refine pX1 ?_|refine pB1 ?_|exact True.intro)
 refine W_loop (fun mm st=>∃ρ,∃b:Nat,st=⟨L 154 ρ,[],H⟩∧mm=7-b∧b≤7∧ρ 6=.c (.ptr (some (q,0)))∧ρ 8=.c (.ptr (some (r,0)))∧ρ 18=.c (.int .i64 na)∧ρ 19=.c (.int .i64 ((b:Int)-1))) 7 ⟨_,0,rfl,rfl,by omega,zf,zf,zf,zf⟩ ?_
 clear e6 e8 e18
 rintro mm st ⟨ρ,b,rfl,rfl,hb,e6,e8,e18,e19⟩
 unfold bX16_27
 by_cases hbn:b<7
 case neg=>
  have hxt2:¬((b:Int)-1)≤5:=by omega
  repeat (with_reducible first|(first|refine pI1 ?_|refine pS1 ?_);intros|refine pA1 ?_|refine pX1 ?_|refine pB1 ?_|exact True.intro)
  refine loopQ_n (18-(a+1)) (by omega) ⟨_,a+1,rfl,rfl,by omega,zf,zf,?_⟩
  rw[←fna _ fun h=>h];exact zf
 have hxt2:((b:Int)-1)≤5:=by omega
 obtain⟨nb,hnb⟩:∃nb,nb=(b:Int)-1:=⟨_,rfl⟩
 have hib:i64 nb:=by unfold i64;omega
 rw[←hnb] at e19 hxt2
 have hn2:nb+1=((b+1:Nat):Int)-1:=by omega
 have hbb:-1≤nb∧nb≤5:=by omega
 obtain⟨hbb1,hbb2⟩:=hbb
 have hc1:=fin0 _ fun h _=>h na nb hia hib
 have hc2:=fin0 _ fun _ h=>h na nb hia hib
 have fnb:=zhd1 hn2
 clear hnb hn2 hia hib
 generalize (if 0≤na∧na<((P.n:Nat):Int)∧0≤nb∧nb≤4 then gn N.cnt (na.toNat * 5+nb.toNat) else 0)=w at *
 repeat (with_reducible first|(first|refine pI1 ?_|refine pS1 ?_);intros|refine pA1 ?_|refine pX1 ?_|refine pB1 ?_|exact True.intro)
 refine outM_call hc1 ?_
 rintro _ H ⟨rfl,rfl⟩
 repeat (with_reducible first|(first|refine pI1 ?_|refine pS1 ?_);intros|refine pA1 ?_|refine pX1 ?_|refine pB1 ?_|exact True.intro)
 refine outM_call hc2 ?_
 rintro _ H ⟨rfl,rfl⟩
 repeat (with_reducible first|(first|refine pI1 ?_|refine pS1 ?_);intros|refine pA1 ?_|refine pX1 ?_|refine pB1 ?_|exact True.intro)
 refine loopQ_n (7-(b+1)) (by omega) ⟨_,b+1,rfl,rfl,by omega,zf,zf,zf,?_⟩
 rw[←fnb _ fun h=>h];exact zf
theorem steps_law {H:Heap} {c:Cfg} {h:Hd} {a:Option Ad} {n cc:Nat} {oo:Bool} {l:List Op} (hT:H[0]?=some nibB) (hc:CfgM H.length H c h) (hf:Few c) (htw:TwinOk c) (ht:Tab 7 (OpR H.length) H.length H a l) (hn:l.length=n) (hnb:n≤1000000000) (hw:∀e∈l,wO e≤2000000):
  WC F fX16 [.agg (c.cells h),.c (.sl a n cc oo)] H fun v _=>v=.c (.bool true):=by
 refine WC_start eX16 (by simp) ?_
 unfold cX16
 have hgr:=fun(Hx:Heap) (hx:Xt H Hx)=>s_Great (hc.keep (H':=Hx) hx.2) hx.1 htw
 have hgl:=fun(Hx:Heap) (hx:Xt H Hx)=>s_great (c:=cc) (o:=oo) (ht.keep (H':=Hx) (fun e cs k=>by
  obtain⟨x0,d0,x1,d1,y0,f0,y1,f1,q1,q2,q3,q4,q5⟩:=k
  exact⟨x0,d0,x1,d1,y0,f0,y1,f1,q1,q2,q3,q4,q5.keep hx.2⟩) hx.2) hn hnb hw
 have htwin:=fun(Hx:Heap) (hx:Xt H Hx)=>s_Twin (hc.keep (H':=Hx) hx.2) hx.1 htw
 have h0:=lt_of_get hT
 obtain⟨C,hC⟩:∃C,C=c.cells h:=⟨_,rfl⟩
 have hsub:sub C 0 12=some C:=by rw[hC];rfl
 rw[←hC] at hgr htwin ⊢
 have fin0:=zhd5 hgr hgl htwin ht hn
 clear hgr hgl htwin ht hn hC hw hc
 repeat (with_reducible first|(first|refine pI1 ?_|refine pS1 ?_);intros|refine pA1 ?_|refine pX1 ?_|refine pB1 ?_|exact True.intro)
 rename_i b2 H2 p2 g2 x2
 have t2:Xt H H2:=⟨by omega,fun b hb=>x2 b (by omega)⟩
 have f2:=zhd1 t2
 clear x2 t2
 refine outM_call (fin0 _ fun h _ _ _ _=>f2 _ fun t=>h H2 t) ?_
 rintro _ H3 ⟨⟨bg,rfl⟩,t3⟩
 have g3:=(t3.2 b2 (by omega)).trans g2
 have l3:=t3.1
 have t3':Xt H H3:=f2 _ fun t=>⟨by have:=t.1;omega,fun b hb=>(t3.2 b (by have:=t.1;omega)).trans (t.2 b hb)⟩
 have f3:=zhd1 t3'
 clear t3 t3' g2 f2
 cases bg with
 |true=>
  repeat (with_reducible first|(first|refine pI1 ?_|refine pS1 ?_);intros|refine pA1 ?_|refine pX1 ?_|refine pB1 ?_|exact True.intro)
  exact rfl
 |false=>
 repeat (with_reducible first|(first|refine pI1 ?_|refine pS1 ?_);intros|refine pA1 ?_|refine pX1 ?_|refine pB1 ?_|exact True.intro)
 refine outM_call (fin0 _ fun _ h _ _ _=>f3 _ fun t=>h H3 t) ?_
 rintro _ H3' ⟨rfl,bl,rfl,hsm⟩
 cases bl with
 |true=>
  repeat (with_reducible first|(first|refine pI1 ?_|refine pS1 ?_);intros|refine pA1 ?_|refine pX1 ?_|refine pB1 ?_|exact True.intro)
  exact rfl
 |false=>
 obtain⟨n40,hsm⟩:=hsm rfl
 have fsm:=zhd1 hsm
 clear hsm
 repeat (with_reducible first|(first|refine pI1 ?_|refine pS1 ?_);intros|refine pA1 ?_|refine pX1 ?_|refine pB1 ?_|exact True.intro)
 refine outM_call (fin0 _ fun _ _ h _ _=>f3 _ fun t=>h H3' t) ?_
 rintro _ H4 ⟨t4,h1,rfl,hc1,-,-,-⟩
 have g4:=(t4.2 b2 (by omega)).trans g3
 have l4:=t4.1
 have t4':Xt H H4:=f3 _ fun t=>⟨by have:=t.1;omega,fun b hb=>(t4.2 b (by have:=t.1;omega)).trans (t.2 b hb)⟩
 have hdn:=fun(Hx:Heap) (hx:Xt H4 Hx)=>s_dNew (hc1.keep (H':=Hx) hx.2) hx.1
 obtain⟨C1,hC1⟩:∃C1,C1=c.cells h1:=⟨_,rfl⟩
 have hsub1:sub C1 0 12=some C1:=by rw[hC1];rfl
 have hlen1:C1.length=12:=by rw[hC1];rfl
 have hp12:put (Cell.int .i64 0 :: Cell.sl none 0 0 false :: (List.replicate 6 (Cell.int .i64 0)++List.replicate 4 (Cell.sl none 0 0 false))) 0 C1=C1:=put_all' (by rw[hlen1];rfl)
 rw[←hC1] at hdn ⊢
 have f4:=zhd2 t4' hdn
 clear t4 t4' g3 f3 hdn hC1 hc1
 repeat (with_reducible first|(first|refine pI1 ?_|refine pS1 ?_);intros|refine pA1 ?_|refine pX1 ?_|refine pB1 ?_|exact True.intro)
 rename_i b5 H5 p5 g5 x5 H6 l6 g6 x6
 have g26:=(x6 b2 (by omega)).trans ((x5 b2 (by omega)).trans g4)
 have t6:Xt H4 H6:=⟨by omega,fun b hb=>by rw[x6 b (by omega),x5 b (by omega)]⟩
 have hdn:=f4 _ fun _ h=>h H6 t6
 have t6':Xt H H6:=f4 _ fun t _=>⟨by have:=t.1;omega,fun b hb=>by rw[t6.2 b (by have:=t.1;omega)];exact t.2 b hb⟩
 have f6:=zhd2 t6' hdn
 clear x5 x6 g5 g4 t6 t6' f4 hdn
 repeat (with_reducible first|(first|refine pI1 ?_|refine pS1 ?_);intros|refine pA1 ?_|refine pX1 ?_|refine pB1 ?_|exact True.intro)
 refine outM_call (f6 _ fun _ h=>h) ?_
 rintro v H7 ⟨t7,hv⟩
 have g27:=(t7.2 b2 (by omega)).trans g26
 have l7:=t7.1
 have t7':Xt H H7:=f6 _ fun t _=>⟨by have:=t.1;omega,fun b hb=>(t7.2 b (by have:=t.1;omega)).trans (t.2 b hb)⟩
 have htw7:=fin0 _ fun _ _ h _ _=>h H7 t7'
 have f7:=zhd2 t7' htw7
 clear t7 t7' htw7 g26 f6 g6
 rcases hv with ⟨hk,rfl⟩|⟨hk,q,P,rfl,w1,w2,w3,w4,hpo,hpw,hpm⟩
 ·repeat (with_reducible first|(first|refine pI1 ?_|refine pS1 ?_);intros|refine pA1 ?_|refine pX1 ?_|refine pB1 ?_|exact True.intro)
  refine outM_call (f7 _ fun _ h=>h) ?_
  rintro _ H8 ⟨t8,h2,rfl,hc2,-,-,-⟩
  have hrn:=s_r21New hc2 (Nat.le_refl _) hf
  generalize c.check=k at *
  generalize c.cells h2=C2 at *
  have f8:=zhd1 hrn
  clear hrn hc2 t8 g27
  repeat (with_reducible first|(first|refine pI1 ?_|refine pS1 ?_);intros|refine pA1 ?_|refine pX1 ?_|refine pB1 ?_|exact True.intro)
  refine outM_call (f8 _ fun h=>h) ?_
  rintro _ H9 ⟨t9,⟨-,w,hw,rfl⟩|⟨h0,-⟩⟩
  case inr=>exact absurd h0 hk
  clear t9
  repeat (with_reducible first|(first|refine pI1 ?_|refine pS1 ?_);intros|refine pA1 ?_|refine pX1 ?_|refine pB1 ?_|exact True.intro)
  exact rfl
 have hcn:c.nodes=(c.owners.length:Nat):=by obtain⟨-,-,q3,-⟩:=(Cfg.check_ok.1 hk).nodes;omega
 have fp:=zhd3 hpo hpw hpm
 clear hpo hpw hpm
 repeat (with_reducible first|(first|refine pI1 ?_|refine pS1 ?_);intros|refine pA1 ?_|refine pX1 ?_|refine pB1 ?_|exact True.intro)
 refine outM_call (f7 _ fun _ h=>h) ?_
 rintro _ H8 ⟨t8,h2,rfl,hc2,-,-,ha1⟩
 have l8:=t8.1
 have hrn:=s_r21New hc2 (Nat.le_refl _) hf
 have hro:=rp0_c (h:=h2) hcn
 have hown:=hc2.owners
 obtain⟨C2,hC2⟩:∃C2,C2=c.cells h2:=⟨_,rfl⟩
 rw[hk] at hrn
 rw[←hC2] at hrn ⊢
 obtain⟨K98,hK98⟩:∃K,K=rp0 c h2:=⟨_,rfl⟩
 rw[←hK98] at hrn hro
 have hl98:=hro.len
 have f8:=zhd5 t8 hrn hro hown ha1
 clear t8 hrn hro hown ha1 hc2 hC2 hK98 hk g27
 repeat (with_reducible first|(first|refine pI1 ?_|refine pS1 ?_);intros|refine pA1 ?_|refine pX1 ?_|refine pB1 ?_|exact True.intro)
 refine outM_call (f8 _ fun _ h _ _ _=>h) ?_
 rintro _ H9 ⟨t9,⟨hne,-⟩|⟨-,rfl⟩⟩
 case inl=>exact absurd rfl hne
 have l9:=t9.1
 have f9:=zhd1 t9
 clear t9
 repeat (with_reducible first|(first|refine pI1 ?_|refine pS1 ?_);intros|refine pA1 ?_|refine pX1 ?_|refine pB1 ?_|exact True.intro)
 rename_i r H10 p10 g10 x10 H11 l11 g11 x11
 have hx11:∀b,b<H8.length→H11[b]?=H8[b]?:=fun b hb=>by rw[x11 b (by omega),x10 b (by omega)];exact f9 _ fun t=>t.2 b hb
 have hx117:∀b,b<H7.length→H11[b]?=H7[b]?:=fun b hb=>by rw[hx11 b (by omega)];exact f8 _ fun t _ _ _ _=>t.2 b hb
 have hxH:∀b,b<H.length→H11[b]?=H[b]?:=fun b hb=>by rw[hx117 b (by omega)];exact f7 _ fun t _=>t.2 b hb
 have g11':H11[r]?=some (.cells K98 false none):=by rw[g11,put_all' (by rw[hl98];rfl)]
 have hB0:Bo H.length H11 q r P ⟨c.owners.length,h2.a1,h2.c1,h2.o1,c.owners⟩ ⟨0,0,0,0,z80⟩ 0:=fp _ fun hpo hpw hpm=>f8 _ fun t8 _ hro hown ha1=>by
  obtain⟨q1,q2,q3,q4,q5,q6⟩:=hpm.lt
  have hPn:=hpo.hn
  rw[hpw] at hPn
  have ha8:∀b x,h2.a1=some (b,x)→b<H8.length:=fun b x e=>hown.lt e
  refine⟨hpm.keepX hx117,⟨⟨K98,g11',hro⟩,hown.to hx11,fun b x e=>by have:=ha8 b x e;show b≠r;omega⟩,hpo,⟨rfl,by show 4≤c.owners.length;rw[hPn];exact hpo.n4,by show c.owners.length≤16;rw[hPn];exact hpo.n16,by show ∀y∈c.owners,_;rw[hPn,←hpw];exact hpo.hw⟩,hPn,hpw.symm,by omega,by omega,by omega,by omega,by omega,by omega,by omega,by omega,by omega,fun b x e=>by have:=q6 b x e;omega,fun b x e=>by have:=ha1 b x e;omega,fun k hk=>?_⟩
  show 0≤gn z80 k∧gn z80 k≤_
  rw[z80_gn];exact⟨Int.le_refl _,Int.le_refl _⟩
 generalize (⟨c.owners.length,h2.a1,h2.c1,h2.o1,c.owners⟩:Rp)=R at *
 have hfr:r≠q:=hB0.s0
 have hinit:Hid ((∀b,b<H.length→H11[b]?=H[b]?)∧Bo H.length H11 q r P R ⟨0,0,0,0,z80⟩ 0):=⟨hxH,hB0⟩
 clear hx11 hx117 hxH hB0 x10 x11 g10 g11 g11' f7 f8 f9 fp
 refine W_loop (fun mm st=>∃ρ,∃i:Nat,∃N Hk,st=⟨L 154 ρ,[],Hk⟩∧mm=n-i∧i≤n∧ρ 1=.c (.sl a n cc oo)∧ρ 6=.c (.ptr (some (q,0)))∧ρ 8=.c (.ptr (some (r,0)))∧ρ 56=.c (.int .i64 (n:Nat))∧ρ 57=.c (.int .i64 (i:Nat))∧H.length≤Hk.length∧Hid ((∀b,b<H.length→Hk[b]?=H[b]?)∧Bo H.length Hk q r P R N (16 * i))) n
  ⟨_,0,⟨0,0,0,0,z80⟩,H11,rfl,rfl,by omega,zf,zf,zf,zf,zf,by omega,hinit⟩ ?_
 clear hinit
 rintro mm st ⟨ρ,i,N,Hk,rfl,rfl,hi,e1,e6,e8,e56,e57,lk,hall⟩
 unfold bX16_19
 have fz:=zhd1 hall
 clear hall
 by_cases hin:i<n
 ·have hxt:(i:Int)<(n:Int):=by omega
  have hlt:i<l.length:=fin0 _ fun _ _ _ _ h=>by omega
  obtain⟨⟨tb,ty⟩,cs,ea,ltb,hld,hrow⟩:=fin0 _ fun _ _ _ ht _=>ht.at hlt
  have hsmall:=fsm _ fun h=>h _ (List.getElem_mem hlt)
  generalize l[i]=e at *
  obtain⟨slot,x⟩:=e
  obtain⟨x0,d0,x1,d1,y0,f0,y1,f1,hcs,hsi,hsx,hmem,hsm⟩:=hrow
  dsimp only at hcs hsi hsx hmem hsm ltb hld
  have hld:ldnB Hk[tb]? (ty+i * 7) 7=some cs:=by rw[fz _ fun h=>h.1 tb ltb];exact hld
  have hcl:cs.length=7:=by rw[hcs];rfl
  have hz7:(List.replicate 2 (Cell.int .i64 0)++[Cell.int .u16 0]++List.replicate 4 (Cell.sl none 0 0 false)).length=7:=rfl
  have hp7:put (List.replicate 2 (Cell.int .i64 0)++[Cell.int .u16 0]++List.replicate 4 (Cell.sl none 0 0 false)) 0 cs=cs:=put_all' (by rw[hz7,hcl])
  obtain⟨Y,hY⟩:∃Y,Y=IC.seq (.ops oX16_14) (.seq (.ops oX16_15) (.seq (.ops oX16_16) (.cond (.t 105) (.seq (.ops oX16_17) .ret) .skip))):=⟨_,rfl⟩
  rw[←hY]
  have fY:=zhd1 hY
  have f1':=fun(A:Prop) (h:_→_→_→_→_→_→A)=>h hcs hsi hsx hmem hsm hsmall
  clear hY hcs hsi hsx hmem hsm hsmall
  subst ea
  repeat (with_reducible first|(first|refine pI1 ?_|refine pS1 ?_);intros|refine pA1 ?_|refine pX1 ?_|refine pB1 ?_|exact True.intro)
  rename_i b11 H12 p12 g12 x12 H13 l13 g13 x13
  have hx13:∀b,b<Hk.length→H13[b]?=Hk[b]?:=fun b hb=>by rw[x13 b (by omega),x12 b (by omega)]
  have hB13:Bo H.length H13 q r P R N (16 * i):=fz _ fun h=>h.2.xt hx13
  have hql:=hB13.pm.lt
  have hrl:=hB13.rm.lt
  have hlk:=fz _ fun h=>(⟨h.2.pm.lt.1,h.2.pm.lt.2.1,h.2.pm.lt.2.2.1,h.2.rm.lt⟩:q<Hk.length∧P.p0<Hk.length∧P.p1<Hk.length∧r<Hk.length)
  obtain⟨k1,k2,k3,k4⟩:=hlk
  have hxH13:∀b,b<H.length→H13[b]?=H[b]?:=fun b hb=>by rw[hx13 b (by omega)];exact fz _ fun h=>h.1 b hb
  rw[fY _ fun h=>h]
  refine W.mono (f1' _ fun hcs hsi hsx hmem hsm hsmall=>steps_turn (M:=H.length) (x:=x) (slot:=slot) (b11:=b11) (n:=n) (i:=i) (tb:=tb) (ty:=ty) hB13 (by omega) h0 (by omega) (by rw[hxH13 0 h0];exact hT) (hsm.keep hxH13)
   (fun hs0=>⟨by have:=hsi.2;omega,hmem,fun j hj=>by have:=hsmall.1.2.2 j hj;dsimp only at this;omega,fun j hj=>by have:=hsmall.2.2.2 j hj;dsimp only at this;omega,by have:=hsmall.1.1;dsimp only at this;omega,by have:=hsmall.2.1;dsimp only at this;omega,by have:=hsmall.1.2.1;dsimp only at this;omega,by have:=hsmall.2.2.1;dsimp only at this;omega⟩)
   (fun hs0=>by omega) (by rw[←hcs];exact g13) (by omega) (by omega) zf zf zf zf zf zf) ?_
  clear e1 e6 e8 e56 e57
  rintro _ _ ⟨rfl,ρ',H',N',rfl,e1,e6,e8,e56,e57,l',hB',x'⟩
  have f':=fun(A:Prop) (h:_→_→A)=>h hB' x'
  clear hB' x' hB13 g13 hld x12 x13 g12 hql
  repeat (with_reducible first|(first|refine pI1 ?_|refine pS1 ?_);intros|refine pA1 ?_|refine pX1 ?_|refine pB1 ?_|exact True.intro)
  exact loopQ_n (n-(i+1)) (by omega) ⟨_,i+1,N',H',rfl,rfl,by omega,zf,zf,zf,zf,zf,by omega,f' _ fun hB' x'=>⟨fun b hb=>by rw[x' b hb];exact hxH13 b hb,by rw[Nat.mul_succ];exact hB'⟩⟩
 ·obtain rfl:i=n:=by omega
  have hxt:¬(i:Int)<(i:Int):=by omega
  obtain⟨Y,hY⟩:∃Y,Y=IC.seq (.ops oX16_20) (.block 2 (.loop bX16_29)):=⟨_,rfl⟩
  rw[←hY]
  have fY:=zhd1 hY
  clear hY
  repeat (with_reducible first|(first|refine pI1 ?_|refine pS1 ?_);intros|refine pA1 ?_|refine pX1 ?_|refine pB1 ?_|exact True.intro)
  rw[fY _ fun h=>h]
  refine W_cut _ (fz _ fun h=>steps_counts h.2 zf zf) ?_
  clear e1 e6 e8 e56 e57
  rintro _ ⟨ρ',rfl,e6,e8⟩
  have hL1:=fz _ fun h=>s_Losses h.2.pm fun k hk=>by have:=h.2.cnt k hk;omega
  have hL2:=fz _ fun h=>fun(Hx:Heap) (x:∀b,b<Hk.length→Hx[b]?=Hk[b]?)=>s_rLosses (h.2.rm.keepX x) fun k hk=>by have:=h.2.cnt k hk;omega
  have hbl:=fz _ fun h=>fun(Hx:Heap) (x:∀b,b<Hk.length→Hx[b]?=Hk[b]?)=>s_dBlocked (h.2.pm.keepX x)
  obtain⟨CC,gC,hCC⟩:=fz _ fun h=>h.2.rm.cells
  have hc13:=hCC.c13
  have hc16:=hCC.c16
  have hlr:=lt_of_get gC
  have f1:=zhd3 hL1 hL2 hbl
  clear hL1 hL2 hbl hCC
  repeat (with_reducible first|(first|refine pI1 ?_|refine pS1 ?_);intros|refine pA1 ?_|refine pX1 ?_|refine pB1 ?_|exact True.intro)
  refine outM_call (f1 _ fun h _ _=>h) ?_
  rintro _ H12 ⟨rfl,l12,x12⟩
  have gC12:=(x12 r (by omega)).trans gC
  have hL2:=f1 _ fun _ h _=>h H12 x12
  have fx:=zhd2 x12 hL2
  clear x12 hL2 gC
  repeat (with_reducible first|(first|refine pI1 ?_|refine pS1 ?_);intros|refine pA1 ?_|refine pX1 ?_|refine pB1 ?_|exact True.intro)
  refine outM_call (fx _ fun _ h=>h) ?_
  rintro _ H13 ⟨rfl,l13,x13⟩
  have gC13:=(x13 r (by omega)).trans gC12
  have hbl:=f1 _ fun _ _ h=>h H13 fun b hb=>by rw[x13 b (by omega)];exact fx _ fun x _=>x b hb
  have fy:=zhd1 hbl
  clear x13 hbl gC12
  generalize colS N.cnt 2 16=w1 at *
  generalize colS N.cnt 1 16=w2 at *
  repeat (with_reducible first|(first|refine pI1 ?_|refine pS1 ?_);intros|refine pA1 ?_|refine pX1 ?_|refine pB1 ?_|exact True.intro)
  refine outM_call (fy _ fun h=>h) ?_
  rintro _ H13 ⟨rfl,rfl⟩
  repeat (with_reducible first|(first|refine pI1 ?_|refine pS1 ?_);intros|refine pA1 ?_|refine pX1 ?_|refine pB1 ?_|exact True.intro)
  exact rfl
theorem steps_wc (H:Heap) (hT:Begins (tabs [(0,.u32,nib)]) H) {x1:Cfg.T.D} {x2:List Op.T.D} {v1 v2:V} (h1:VwV Cfg.T H x1 v1) (h2:VwV (.sl Op.T) H x2 v2)
  (hk:wt Cfg.T x1+(wt (.sl Op.T) x2+0)≤1048576):WC F fX16 [v1,v2] H fun v _=>v=.c (.bool true):=by
 obtain⟨cs1,k1,⟨-,rfl⟩|⟨h,-⟩⟩:=h1
 case inr=>cases h
 obtain⟨cs2,k2,⟨h,-⟩|⟨-,w,rfl,rfl⟩⟩:=h2
 case inl=>cases h
 obtain⟨c,h,rfl,hc,hw1⟩:=cfg_rowX k1
 obtain⟨hf,htw⟩:=hw1 (by omega)
 obtain⟨a,cc,l,e,q1,q2,htab,hS⟩:=Vw.tabW (R:=OpR H.length) (S:=fun x e=>wO e≤wt Op.T x) (fun _ _=>op_row) k2
 cases e
 have hs:=all2_wt hS
 have hw2:wt (.sl Op.T) x2=1+(x2.map fun x=>wt Op.T x).sum:=rfl
 have hsum:∀l:List Op,(∀e∈l,wO e≤(l.map wO).sum)∧l.length≤(l.map wO).sum:=fun l=>by
  induction l with
  |nil=>exact⟨fun e he=>(by cases he),Nat.le_refl _⟩
  |cons y l ih=>
   rw[List.map_cons,List.sum_cons]
   have h1:1≤wO y:=by unfold wO;omega
   refine⟨fun e he=>?_,by rw[List.length_cons];have:=ih.2;omega⟩
   rcases List.mem_cons.1 he with rfl|he
   ·omega
   ·have:=ih.1 e he;omega
 have h3:=hsum l
 exact steps_law (tab hT) hc hf htw htab rfl (by have:=h3.2;omega) fun e he=>by have:=h3.1 e he;omega
end Go.Proofs.YtjcgdcadflplcaaDoor.AM.D21
