/- What the functions that this law reaches come to, each walked once, and the plain laws that stand behind them. -/
import Derived.Test.YtjcgdcadflplcaaDoorB3
import Derived.Test.YtjcgdcadflplcaaDoorB2
set_option linter.unusedVariables false
set_option linter.unusedSimpArgs false
set_option linter.unusedSectionVars false
namespace Go.Proofs.YtjcgdcadflplcaaDoor.AM.D21
open Go Go.Proofs.YtjcgdcadflplcaaDoor.AM Go.Proofs.YtjcgdcadflplcaaDoor.AM.C02 Go.Proofs.YtjcgdcadflplcaaDoor.AM.C07 Go.Proofs.YtjcgdcadflplcaaDoor.AM.C21 Go.Proofs.YtjcgdcadflplcaaDoor.AM.P3
set_option maxHeartbeats 2000000
set_option maxRecDepth 100000
attribute [local go_sem] tn_add1 tn_sub1 put_all' nums_len sub_all sub02
attribute [local go_sem 2000] zF_eq zF_len
structure Slt where
 slot:Nat
 ss:Int
 mem:Nat
 l0:List Snd
 l1:List Snd
 k0:List C07.Cpy
 k1:List C07.Cpy
def Slt.ow (x:Slt) (ws:List Int):Int:=gn ws (x.slot % ws.length)
def Slt.vf (x:Slt) (ws:List Int) (j:Nat):List Cell × Int:=chs (hr ((rcv (x.ow ws) x.l0 x.k0 j).getD []) (x.ow ws) x.ss x.mem) (hr ((rcv (x.ow ws) x.l1 x.k1 j).getD []) (x.ow ws) x.ss x.mem)
def Slt.vN (x:Slt) (ws:List Int) (j:Nat):Nat:=(x.vf ws j).2.toNat
def Slt.fr (x:Slt) (ws:List Int) (k:Nat):List Cell:=(List.range k).flatMap fun j=>(x.vf ws j).1
def Slt.vv (x:Slt) (ws:List Int) (k:Nat):List Int:=(List.range k).map fun j=>(x.vf ws j).2
def Cn.step (N:Cn) (x:Slt) (ws:List Int):Cn:=⟨blS (x.ow ws) x.l0 N.bl0,paS (x.ow ws) x.l0 N.pa0,blS (x.ow ws) x.l1 N.bl1,paS (x.ow ws) x.l1 N.pa1,cntS (x.ow ws).toNat (x.vN ws) N.cnt ws.length⟩
theorem chs_v (x y:List Cell × Int):0≤(chs x y).2∧(chs x y).2≤4:=by
 unfold chs
 repeat' split
 all_goals (dsimp only;omega)
theorem chs_sh {x y:List Cell × Int} (hx:ShF x.1) (hy:ShF y.1):ShF (chs x y).1:=by
 unfold chs
 repeat' split
 ·exact hx
 ·exact zF_sh
 ·exact hx
 ·exact hy
 ·exact zF_sh
theorem vf_sh (x:Slt) (ws:List Int) (j:Nat):ShF (x.vf ws j).1:=chs_sh hr_sh hr_sh
theorem vf_len (x:Slt) (ws:List Int) (j:Nat):(x.vf ws j).1.length=67:=(vf_sh x ws j).len
theorem vf_v (x:Slt) (ws:List Int) (j:Nat):(x.vf ws j).2=((x.vN ws j:Nat):Int)∧x.vN ws j≤4:=by
 have:=chs_v (hr ((rcv (x.ow ws) x.l0 x.k0 j).getD []) (x.ow ws) x.ss x.mem) (hr ((rcv (x.ow ws) x.l1 x.k1 j).getD []) (x.ow ws) x.ss x.mem)
 unfold Slt.vN
 unfold Slt.vf at *
 omega
theorem fr_s (x:Slt) (ws:List Int) (k:Nat):x.fr ws (k+1)=x.fr ws k++(x.vf ws k).1:=by
 unfold Slt.fr
 rw[List.range_succ,List.flatMap_append,List.flatMap_cons,List.flatMap_nil,List.append_nil]
theorem vv_s (x:Slt) (ws:List Int) (k:Nat):x.vv ws (k+1)=x.vv ws k++[((x.vN ws k:Nat):Int)]:=by
 unfold Slt.vv
 rw[List.range_succ,List.map_append,List.map_cons,List.map_nil,(vf_v x ws k).1]
theorem vv_len (x:Slt) (ws:List Int) (k:Nat):(x.vv ws k).length=k:=by simp[Slt.vv]
theorem ow_eq {ws:List Int} (x:Slt) (h:0<ws.length):ownF ws (x.slot:Nat)=x.ow ws:=by
 unfold ownF Slt.ow
 rw[if_neg (by omega),Int.toNat_natCast]
theorem slot_cpy {H:Heap} {lo bo:Nat} {x:Option Cell} {r:Option (List Nat)} (h:Slot H lo bo x r):∃a n c o,x=some (.sl a n c o)∧Cpy H a n c (r.getD []):=by
 cases r with
 |none=>exact⟨none,0,0,false,h,Sl.none _ _,Nat.le_refl _,fun i=>by simp[gx]⟩
 |some l=>
  obtain⟨e,c,o,g,h1,h2,h3,h4,h5,h6⟩:=h
  exact⟨_,_,_,_,h1,Sl.blk h4 (by rw[Option.getD_some,nats_len]),h6,fun i=>by
   rw[Option.getD_some]
   unfold gx
   rw[List.getD_eq_getElem?_getD]
   cases e:l[i]? with
   |none=>simp
   |some y=>exact h5 y (List.mem_of_getElem? e)⟩
theorem car_rcv {H H':Heap} {p:Nat} {a:Option Ad} {c:Nat} {o:Bool} {ws:List Int} {bl pa:Nat} {slot:Int} {l:List Snd} {cps:List C07.Cpy} {v:V} (h:CarQ H p a c o ws bl pa slot l cps v H'):
  ∃bo,v=.tup [.c (.sl (some (bo,0)) ws.length ws.length false),.c (.int .i64 0)]∧H.length≤bo∧bo<H'.length∧Outs H' H.length bo ws.length (rcv (ownF ws slot) l cps)∧BusM H' p a c o ws (blS (ownF ws slot) l bl) (paS (ownF ws slot) l pa):=by
 obtain⟨bo,f,h1,h2,h3,h4,⟨k1,k2,k3⟩|⟨i,k1,k2,k3⟩⟩:=h
 ·refine⟨bo,h1,h2,h3,h4.same fun j _=>by rw[k2,rcv_none k1],?_⟩
  unfold blS paS
  rw[fstB_none k1];exact k3
 ·refine⟨bo,h1,h2,h3,h4.same fun j hj=>by rw[k2 j hj,rcv_some k1],?_⟩
  unfold blS paS
  rw[fstB_some k1];exact k3
theorem PairM.keepQ {H H':Heap} {q:Nat} {P:Pr} {N:Cn} (h:PairM H q P N) {cnt:List Int} (hc:∃C,H'[q]?=some (.cells C false none)∧PrC P.K P.p0 P.p1 cnt C) (hx:∀b,b<H.length→b≠q→H'[b]?=H[b]?):PairM H' q P { N with cnt:=cnt } where
 cells:=hc
 owners:=h.owners.keep fun b x e=>hx b (h.owners.lt e) (h.q4 b x e)
 b0:=h.b0.keep fun b hb=>by
  rcases hb with rfl|⟨x,e⟩
  ·exact hx _ (lt_of_get h.b0.1) (fun e=>h.q0 e.symm)
  ·exact hx _ (h.b0.2.1.lt e) (fun e'=>by cases e;exact h.q2 e'.symm)
 b1:=h.b1.keep fun b hb=>by
  rcases hb with rfl|⟨x,e⟩
  ·exact hx _ (lt_of_get h.b1.1) (fun e=>h.q1 e.symm)
  ·exact hx _ (h.b1.2.1.lt e) (fun e'=>by cases e;exact h.q3 e'.symm)
 q0:=h.q0
 q1:=h.q1
 q2:=h.q2
 q3:=h.q3
 q4:=h.q4
theorem PairM.keepX {H H':Heap} {q:Nat} {P:Pr} {N:Cn} (h:PairM H q P N) (hx:∀b,b<H.length→H'[b]?=H[b]?):PairM H' q P N:=by
 obtain⟨C,g,hC⟩:=h.cells
 exact h.keepQ ⟨C,by rw[hx q (lt_of_get g)];exact g,hC⟩ fun b hb _=>hx b hb
theorem step_round {ρ:Nat→V} {H:Heap} {q b7 bh bo0 bo1 lo0 lo1:Nat} {P:Pr} {N:Cn} {x:Slt} {Q:Ex→St→Prop} (h:PairM H q P N) (ho:PrOk P) (hT:H[0]?=some nibB) (hq0:q≠0) (hB:∀k,k<80→0≤gn N.cnt k∧gn N.cnt k≤1000000) (hm:x.mem<65536)
  (g7:H[b7]?=some (.cells [.int .i64 x.ss,.int .u16 (x.mem:Nat)] false none)) (gh:H[bh]?=some (.cells [.sl (some (bo0,0)) P.n P.n false,.sl (some (bo1,0)) P.n P.n false] false none)) (hh:q≠b7∧q≠bh∧q<lo0∧q<lo1∧q<bo0∧q<bo1)
  (w0:Outs H lo0 bo0 P.n (rcv (x.ow P.ws) x.l0 x.k0)) (w1:Outs H lo1 bo1 P.n (rcv (x.ow P.ws) x.l1 x.k1))
  (e0:ρ 0=.c (.ptr (some (q,0)))) (e7:ρ 7=.c (.ptr (some (b7,0)))) (e13:ρ 13=.c (.ptr (some (bh,0)))) (e17:ρ 17=.c (.int .i64 (x.ow P.ws))) (e18:ρ 18=.c (.sl none 0 0 false)) (e19:ρ 19=.c (.sl none 0 0 false)) (e64:ρ 64=.c (.int .i64 (P.n:Nat))) (e65:ρ 65=.c (.int .i64 0))
  (hQ:∀ρ' H' fa fo va vo,ρ' 18=.c (.sl fa P.n P.n fo)→ρ' 19=.c (.sl va P.n P.n vo)→Gr H.length H' 67 fa P.n fo (x.fr P.ws P.n)→Gr H.length H' 1 va P.n vo (nums (x.vv P.ws P.n))→(∀y z,fa=some y→va=some z→y.1≠z.1)→PairM H' q P { N with cnt:=cntS (x.ow P.ws).toNat (x.vN P.ws) N.cnt P.n }→H.length≤H'.length→(∀b,b<H.length→b≠q→H'[b]?=H[b]?)→Q (.exit 2) ⟨L 111 ρ',[],H'⟩):
  W F none (.loop bXw_26) ⟨L 111 ρ,[],H⟩ Q:=by
 obtain⟨cl0,u1,u2,u3⟩:=w0
 obtain⟨cl1,v1,v2,v3⟩:=w1
 have hfr:=fr_s x P.ws
 have hvv:=vv_s x P.ws
 have hvf:=vf_v x P.ws
 have hvl:=vf_len x P.ws
 have hch:=fun(Hx:Heap) (j:Nat) (a1 a2:Option Ad) (n1 n2 c1 c2:Nat) (o1 o2:Bool) (k1:Hx[0]?=some nibB) (k2:Cpy Hx a1 n1 c1 ((rcv (x.ow P.ws) x.l0 x.k0 j).getD [])) (k3:Cpy Hx a2 n2 c2 ((rcv (x.ow P.ws) x.l1 x.k1 j).getD []))=>s_Choose (o1:=o1) (o2:=o2) (by_:=x.ow P.ws) (slot:=x.ss) k1 k2 k3 hm
 have hch':∀(Hx:Heap) (j:Nat) (a1 a2:Option Ad) (n1 n2 c1 c2:Nat) (o1 o2:Bool),Hx[0]?=some nibB→Cpy Hx a1 n1 c1 ((rcv (x.ow P.ws) x.l0 x.k0 j).getD [])→Cpy Hx a2 n2 c2 ((rcv (x.ow P.ws) x.l1 x.k1 j).getD [])→WC F fXq [.c (.int .i64 (x.ow P.ws)),.agg [.int .i64 x.ss,.int .u16 (x.mem:Nat)],.c (.sl a1 n1 c1 o1),.c (.sl a2 n2 c2 o2)] Hx fun v H'=>v=.tup [.agg (x.vf P.ws j).1,.c (.int .i64 (x.vf P.ws j).2)]∧X1 Hx H':=hch
 clear hch
 obtain⟨ow,how,hw16⟩:∃ow:Nat,x.ow P.ws=ow∧ow<P.n:=by
  have hn:=ho.hn
  have h4:=ho.n4
  have:=ho.hw (x.ow P.ws) (gn_mem (Nat.mod_lt _ (by omega)))
  exact⟨(x.ow P.ws).toNat,by omega,by omega⟩
 rw[how] at hQ hch' u3 v3 e17
 rw[Int.toNat_natCast] at hQ
 obtain⟨C,gC,hC⟩:=h.cells
 have hn16:=ho.n16
 have hcin:=fun(k j:Nat) (hk:k<80)=>cntS_in (ow:=ow) (v:=x.vN P.ws) (k:=k) (by rw[hC.cl];exact hk) (hB k hk) j
 have hcs:∀j,cntS ow (x.vN P.ws) N.cnt (j+1)=if j=ow then cntS ow (x.vN P.ws) N.cnt j else (cntS ow (x.vN P.ws) N.cnt j).set (ow * 5+x.vN P.ws j) (gn (cntS ow (x.vN P.ws) N.cnt j) (ow * 5+x.vN P.ws j)+1):=fun _=>rfl
 have hc0:cntS ow (x.vN P.ws) N.cnt 0=N.cnt:=rfl
 obtain⟨n,hn⟩:∃n,P.n=n:=⟨_,rfl⟩
 rw[hn] at hw16 hn16 u2 u3 v2 v3 gh e64 hQ
 have hf0:x.fr P.ws 0=[]:=rfl
 have hv0:x.vv P.ws 0=[]:=rfl
 generalize x.fr P.ws=FR at *
 generalize x.vv P.ws=VV at *
 generalize x.vf P.ws=VF at *
 generalize x.vN P.ws=VN at *
 generalize hr0:(fun j=>(rcv (ow:Int) x.l0 x.k0 j))=r0 at *
 generalize hr1:(fun j=>(rcv (ow:Int) x.l1 x.k1 j))=r1 at *
 have er0:∀j,rcv (ow:Int) x.l0 x.k0 j=r0 j:=fun j=>by rw[←hr0]
 have er1:∀j,rcv (ow:Int) x.l1 x.k1 j=r1 j:=fun j=>by rw[←hr1]
 simp only[er0,er1] at u3 v3 hch'
 have hend:=fun H' cnt (hc:∃C,H'[q]?=some (.cells C false none)∧PrC P.K P.p0 P.p1 cnt C) (hx:∀b,b<H.length→b≠q→H'[b]?=H[b]?)=>h.keepQ hc hx
 have lqH:q<H.length:=lt_of_get gC
 have fin0:=zhd11 hfr hvv hvf hvl hch' u3 v3 hcin hcs hQ hend
 have lt7:=lt_of_get g7
 have lth:=lt_of_get gh
 have lb0:=lt_of_get u1
 have lb1:=lt_of_get v1
 have ltT:=lt_of_get hT
 have hinit:Hid ((∀b,b<H.length→b≠q→H[b]?=H[b]?)∧Gr H.length H 67 none 0 false (FR 0)∧Gr H.length H 1 none 0 false (nums (VV 0))∧(∀y z:Ad,(none:Option Ad)=some y→(none:Option Ad)=some z→y.1≠z.1)∧∃C,H[q]?=some (.cells C false none)∧PrC P.K P.p0 P.p1 (cntS ow VN N.cnt 0) C):=⟨fun _ _ _=>rfl,by rw[hf0];exact Gr.none _ _ _,by rw[hv0];exact Gr.none _ _ _,fun y z e _=>(by cases e),C,gC,hC⟩
 have fH:=zhd5 hT g7 gh u1 v1
 clear hfr hvv hvf hvl hch' u3 v3 hcin hcs hQ hend hC gC hB hc0 hn how hr0 hr1 er0 er1 hf0 hv0 h ho hT g7 gh u1 v1
 obtain⟨hh1,hh2,hh3,hh4,hh5,hh6⟩:=hh
 refine W_loop (fun mm st=>∃ρ,∃j:Nat,∃fa fo va vo Hk,st=⟨L 111 ρ,[],Hk⟩∧mm=n-j∧j≤n∧ρ 0=.c (.ptr (some (q,0)))∧ρ 7=.c (.ptr (some (b7,0)))∧ρ 13=.c (.ptr (some (bh,0)))∧ρ 17=.c (.int .i64 (ow:Nat))∧ρ 18=.c (.sl fa j j fo)∧ρ 19=.c (.sl va j j vo)∧ρ 64=.c (.int .i64 (n:Nat))∧ρ 65=.c (.int .i64 (j:Nat))∧H.length≤Hk.length∧
  Hid ((∀b,b<H.length→b≠q→Hk[b]?=H[b]?)∧Gr H.length Hk 67 fa j fo (FR j)∧Gr H.length Hk 1 va j vo (nums (VV j))∧(∀y z,fa=some y→va=some z→y.1≠z.1)∧∃C,Hk[q]?=some (.cells C false none)∧PrC P.K P.p0 P.p1 (cntS ow VN N.cnt j) C)) n
  ⟨_,0,none,false,none,false,H,rfl,rfl,by omega,e0,e7,e13,e17,e18,e19,e64,e65,Nat.le_refl _,hinit⟩ ?_
 clear hinit e0 e7 e13 e17 e18 e19 e64 e65
 rintro mm st ⟨ρ,j,fa,fo,va,vo,Hk,rfl,rfl,hj,e0,e7,e13,e17,e18,e19,e64,e65,lk,hall⟩
 unfold bXw_26
 have fz:=zhd1 hall
 clear hall
 by_cases hjn:j<n
 case neg=>
  obtain rfl:j=n:=by omega
  have hxt:¬(j:Int)<(j:Int):=by omega
  repeat (with_reducible first|(first|refine pI1 ?_|refine pS1 ?_);intros|refine pA1 ?_|refine pX1 ?_|refine pB1 ?_|exact True.intro)
  refine fin0 _ fun _ _ _ _ _ _ _ _ _ hQ hend=>fz _ fun hz=>hQ _ Hk fa fo va vo zf zf hz.2.1 hz.2.2.1 hz.2.2.2.1 (hend Hk _ hz.2.2.2.2 hz.1) lk hz.1
 have hxt:(j:Int)<(n:Int):=by omega
 obtain⟨C,gC,hC⟩:=fz _ fun h=>h.2.2.2.2
 have ghk:Hk[bh]?=_:=(fz _ fun h=>h.1 bh lth (Ne.symm hh2)).trans (fH _ fun _ _ g _ _=>g)
 have g7k:Hk[b7]?=_:=(fz _ fun h=>h.1 b7 lt7 (Ne.symm hh1)).trans (fH _ fun _ g _ _ _=>g)
 have u1k:Hk[bo0]?=_:=(fz _ fun h=>h.1 bo0 lb0 (by omega)).trans (fH _ fun _ _ _ g _=>g)
 have v1k:Hk[bo1]?=_:=(fz _ fun h=>h.1 bo1 lb1 (by omega)).trans (fH _ fun _ _ _ _ g=>g)
 have hTk:Hk[0]?=_:=(fz _ fun h=>h.1 0 ltT (Ne.symm hq0)).trans (fH _ fun g _ _ _ _=>g)
 obtain⟨a1,n1,c1,o1,d1,cp1⟩:=slot_cpy ((fin0 _ fun _ _ _ _ _ u3 _ _ _ _ _=>u3 j hjn).keep (H':=Hk) fun b hb hb2 _=>fz _ fun h=>h.1 b hb2 (by omega))
 obtain⟨a2,n2,c2,o2,d2,cp2⟩:=slot_cpy ((fin0 _ fun _ _ _ _ _ _ v3 _ _ _ _=>v3 j hjn).keep (H':=Hk) fun b hb hb2 _=>fz _ fun h=>h.1 b hb2 (by omega))
 have hcc:=fin0 _ fun _ _ _ _ hch _ _ _ _ _ _=>hch Hk j a1 a2 n1 n2 c1 c2 o1 o2 hTk cp1 cp2
 have hFs:=fin0 _ fun h _ _ _ _ _ _ _ _ _ _=>h j
 have hVs:=fin0 _ fun _ h _ _ _ _ _ _ _ _ _=>h j
 obtain⟨ev,hv4⟩:=fin0 _ fun _ _ h _ _ _ _ _ _ _ _=>h j
 have hFl:=fin0 _ fun _ _ _ h _ _ _ _ _ _ _=>h j
 have hcs:=fin0 _ fun _ _ _ _ _ _ _ _ h _ _=>h j
 rw[ev] at hcc
 clear ev cp1 cp2 hTk
 generalize (VF j).1=FM at *
 generalize VN j=vd at *
 have hci:=fin0 _ fun _ _ _ _ _ _ _ h _ _ _=>h (ow * 5+vd) j (by omega)
 have hcg:=hC.cnt (ow * 5+vd) (by omega)
 have hcp:=hC.put (k:=ow * 5+vd) (by omega) (gn (cntS ow VN N.cnt j) (ow * 5+vd)+1)
 have hlC:=hC.len
 rw[←Nat.add_assoc] at hcg hcp
 obtain⟨w,hw⟩:∃w,w=gn (cntS ow VN N.cnt j) (ow * 5+vd):=⟨_,rfl⟩
 rw[←hw] at hci hcg hcp hcs
 have lqk:=lt_of_get gC
 have f1:=zhd6 hFs hVs hcs hcp hC hcc
 clear hFs hVs hcs hcp hC hcc hw
 have hz67:=zF_len
 repeat (with_reducible first|(first|refine pI1 ?_|refine pS1 ?_);intros|refine pA1 ?_|refine pX1 ?_|refine pB1 ?_|exact True.intro)
 refine outM_call (f1 _ fun _ _ _ _ _ h=>h) ?_
 rintro _ H2 ⟨rfl,l2,x2⟩
 have gC2:=(x2 q (by omega)).trans gC
 have fx2:=zhd1 x2
 clear x2 gC ghk u1k v1k g7k
 repeat (with_reducible first|(first|refine pI1 ?_|refine pS1 ?_);intros|refine pA1 ?_|refine pX1 ?_|refine pB1 ?_|exact True.intro)
 rename_i b3 H3 p3 g3 x3 H4 l4 g4 x4 b5 H5 p5 g5 x5
 have hx5:∀b,b<Hk.length→H5[b]?=Hk[b]?:=fun b hb=>by rw[x5 b (by omega),x4 b (by omega),x3 b (by omega)];exact fx2 _ fun x=>x b hb
 have gC5:=(x5 q (by omega)).trans ((x4 q (by omega)).trans ((x3 q (by omega)).trans gC2))
 have hg5:Gr H.length H5 67 fa j fo (FR j):=fz _ fun h=>h.2.1.keepX hx5
 have hv5:Gr H.length H5 1 va j vo (nums (VV j)):=fz _ fun h=>h.2.2.1.keepX hx5
 have f5:=zhd1 hx5
 clear hx5 x5 x4 x3 gC2 g3 g4
 refine outM_appG (ys:=FM) hg5 (by omega) (Sl.blk2 g5 (by rw[hFl])) (by omega) (by omega) ?_
 intro fa' H6 hg6 l6 x6 y6 z6
 have gC6:=(x6 q (by omega)).trans gC5
 have hv6:Gr H.length H6 1 va j vo (nums (VV j)):=hv5.keep fun b hb hb2 hna=>y6 b hb2 fun y e hby=>hna fun x ex hbx=>fz _ fun h=>h.2.2.2.1 y x e ex (by omega)
 have hva:∀x,va=some x→x.1<H5.length:=fun x e=>(hv5.lt x e).2
 have hx6:∀b,b<H.length→H6[b]?=Hk[b]?:=fun b hb=>by rw[x6 b hb];exact f5 _ fun x=>x b (by omega)
 rw[←f1 _ fun h _ _ _ _ _=>h] at hg6
 have f6:=zhd3 hg6 hv6 hx6
 have hz6:∀x y,fa'=some x→va=some y→x.1≠y.1:=fun x y e e' h=>z6 y.1 (hva y e') x e h.symm
 have fz6:=zhd1 hz6
 clear hg6 hv6 hx6 x6 y6 z6 gC5 hg5 hv5 g5 hz6 f5 fx2 hva
 repeat (with_reducible first|(first|refine pI1 ?_|refine pS1 ?_);intros|refine pA1 ?_|refine pX1 ?_|refine pB1 ?_|exact True.intro)
 rename_i b7' H7 p7 g7' x7
 have gC7:=(x7 q (by omega)).trans gC6
 have hv7:Gr H.length H7 1 va j vo (nums (VV j)):=f6 _ fun _ h _=>h.keepX fun b hb=>x7 b (by omega)
 have hg7:Gr H.length H7 67 fa' (j+1) true (FR (j+1)):=f6 _ fun h _ _=>h.keepX fun b hb=>x7 b (by omega)
 have hx7:∀b,b<H.length→H7[b]?=Hk[b]?:=fun b hb=>by rw[x7 b (by omega)];exact f6 _ fun _ _ x=>x b hb
 clear x7 gC6
 refine outM_appG (ys:=[.int .i64 (vd:Nat)]) hv7 (by omega) (Sl.blk g7' rfl) (by omega) (by omega) ?_
 intro va' H8 hv8 l8 x8 y8 z8
 have gC8:=(x8 q (by omega)).trans gC7
 have e8:nums (VV j)++[Cell.int .i64 (vd:Nat)]=nums (VV (j+1)):=by rw[f1 _ fun _ h _ _ _ _=>h];unfold nums;rw[List.map_append];rfl
 rw[e8] at hv8
 have hg8:Gr H.length H8 67 fa' (j+1) true (FR (j+1)):=hg7.keep fun b hb hb2 hna=>y8 b hb2 fun y e hby=>hna fun x ex hbx=>fz6 _ fun h=>h x y ex e (by omega)
 have hz8:∀x y,fa'=some x→va'=some y→x.1≠y.1:=fun x y e e' h=>z8 x.1 (hg7.lt x e).2 y e' h
 have hx8:∀b,b<H.length→H8[b]?=Hk[b]?:=fun b hb=>by rw[x8 b hb];exact hx7 b hb
 have f8:=zhd4 hg8 hv8 hz8 hx8
 clear hg8 hv8 hz8 hx8 x8 y8 z8 gC7 hg7 hv7 g7' hx7 e8 fz6 f6
 by_cases hjo:j=ow
 ·have hjo':(j:Int)=(ow:Nat):=by omega
  have hkeep:cntS ow VN N.cnt (j+1)=cntS ow VN N.cnt j:=f1 _ fun _ _ h _ _ _=>by rw[h,if_pos hjo]
  have fk:=zhd1 hkeep
  clear hkeep hcg hci
  repeat (with_reducible first|(first|refine pI1 ?_|refine pS1 ?_);intros|refine pA1 ?_|refine pX1 ?_|refine pB1 ?_|exact True.intro)
  exact loopQ_n (n-(j+1)) (by omega) ⟨_,j+1,fa',true,va',true,H8,rfl,rfl,by omega,zf,zf,zf,zf,zf,zf,zf,zf,by omega,f8 _ fun hg hv hz hx=>⟨fun b hb hb2=>by rw[hx b hb];exact fz _ fun h=>h.1 b hb hb2,hg,hv,hz,C,gC8,by rw[fk _ fun h=>h];exact f1 _ fun _ _ _ _ h _=>h⟩⟩
 ·have hjo':¬(j:Int)=(ow:Nat):=by omega
  have hkeep:cntS ow VN N.cnt (j+1)=(cntS ow VN N.cnt j).set (ow * 5+vd) (w+1):=f1 _ fun _ _ h _ _ _=>by rw[h,if_neg hjo]
  have fk:=zhd1 hkeep
  clear hkeep
  obtain⟨hw0,hw1⟩:=hci
  have lq8:=lt_of_get gC8
  repeat (with_reducible first|(first|refine pI1 ?_|refine pS1 ?_);intros|refine pA1 ?_|refine pX1 ?_|refine pB1 ?_|exact True.intro)
  rename_i H9 l9 g9 x9
  have x9':∀b,b≠q→H9[b]?=H8[b]?:=fun b hb=>x9 b hb
  have f9:=zhd2 x9' g9
  clear x9' x9 g9 gC8
  repeat (with_reducible first|(first|refine pI1 ?_|refine pS1 ?_);intros|refine pA1 ?_|refine pX1 ?_|refine pB1 ?_|exact True.intro)
  have lf8:Gr H.length H9 67 fa' (j+1) true (FR (j+1)):=f8 _ fun hg _ _ _=>hg.keep fun b hb _ _=>f9 _ fun x _=>x b (by omega)
  have lv8:Gr H.length H9 1 va' (j+1) true (nums (VV (j+1))):=f8 _ fun _ hv _ _=>hv.keep fun b hb _ _=>f9 _ fun x _=>x b (by omega)
  exact loopQ_n (n-(j+1)) (by omega) ⟨_,j+1,fa',true,va',true,H9,rfl,rfl,by omega,zf,zf,zf,zf,zf,zf,zf,zf,by omega,f8 _ fun _ _ hz hx=>⟨fun b hb hb2=>by rw[f9 _ fun x _=>x b hb2,hx b hb];exact fz _ fun h=>h.1 b hb hb2,lf8,lv8,hz,_,f9 _ fun _ g=>g,by rw[fk _ fun h=>h];exact f1 _ fun _ _ _ h _ _=>h⟩⟩
end Go.Proofs.YtjcgdcadflplcaaDoor.AM.D21
namespace Go.Proofs.YtjcgdcadflplcaaDoor.AM.D21
open Go Go.Proofs.YtjcgdcadflplcaaDoor.AM Go.Proofs.YtjcgdcadflplcaaDoor.AM.C02 Go.Proofs.YtjcgdcadflplcaaDoor.AM.C07 Go.Proofs.YtjcgdcadflplcaaDoor.AM.C21 Go.Proofs.YtjcgdcadflplcaaDoor.AM.P3
set_option maxHeartbeats 2000000
set_option maxRecDepth 100000
attribute [local go_sem] tn_add1 tn_sub1 put_all' nums_len sub_all sub02
structure SltM (M:Nat) (H:Heap) (x:Slt) (x0 x1 y0 y1:Option Ad):Prop where
 s0:∀p,M≤p→Snds M p H x0 x.l0
 s1:∀p,M≤p→Snds M p H x1 x.l1
 c0:Tab 3 CpR M H y0 x.k0
 c1:Tab 3 CpR M H y1 x.k1
 d0:∀b z,y0=some (b,z)→b<M
 d1:∀b z,y1=some (b,z)→b<M
structure SltOk (x:Slt):Prop where
 sl:x.slot≤9223372036854775807
 mem:x.mem<65536
 b0:∀i,i<x.l0.length→(gs x.l0 i).bytes.length≤100000
 b1:∀i,i<x.l1.length→(gs x.l1 i).bytes.length≤100000
 n0:x.l0.length≤100000
 n1:x.l1.length≤100000
 k0:x.k0.length≤100000
 k1:x.k1.length≤100000
theorem SltM.keep {M:Nat} {H H':Heap} {x:Slt} {x0 x1 y0 y1:Option Ad} (h:SltM M H x x0 x1 y0 y1) (hx:∀b,b<M→H'[b]?=H[b]?):SltM M H' x x0 x1 y0 y1:=
 ⟨fun p hp=>(h.s0 p hp).keep fun b hb _=>hx b hb,fun p hp=>(h.s1 p hp).keep fun b hb _=>hx b hb,h.c0.keep (fun _ _ k=>k) hx,h.c1.keep (fun _ _ k=>k) hx,h.d0,h.d1⟩
def StepQ (H:Heap) (q:Nat) (P:Pr) (N:Cn) (x:Slt) (v:V) (H':Heap):Prop:=
 (∃fa fo va vo lo,v=.tup [.c (.sl fa P.n P.n fo),.c (.sl va P.n P.n vo),.c (.int .i64 0)]∧H.length≤lo∧Gr lo H' 67 fa P.n fo (x.fr P.ws P.n)∧Gr lo H' 1 va P.n vo (nums (x.vv P.ws P.n))∧∀y z,fa=some y→va=some z→y.1≠z.1)∧
  PairM H' q P (N.step x P.ws)∧H.length≤H'.length∧∀b,b<H.length→b≠q→b≠P.p0→b≠P.p1→H'[b]?=H[b]?
theorem s_dStep {M:Nat} {H:Heap} {q:Nat} {P:Pr} {N:Cn} {x:Slt} {x0 x1 y0 y1:Option Ad} {d0 d1 f0 f1:Nat} {u0 u1 v0 v1:Bool} (hp:PairM H q P N) (ho:PrOk P) (hM:M≤q∧M≤P.p0∧M≤P.p1) (hML:M≤H.length) (hT:H[0]?=some nibB) (hM0:0<M) (hB:∀k,k<80→0≤gn N.cnt k∧gn N.cnt k≤1000000) (hx:SltM M H x x0 x1 y0 y1) (hk:SltOk x):
  WC F fXw [.c (.ptr (some (q,0))),.c (.int .i64 (x.slot:Nat)),.agg [.int .i64 x.ss,.int .u16 (x.mem:Nat)],.agg [.sl x0 x.l0.length d0 u0,.sl x1 x.l1.length d1 u1],.agg [.sl y0 x.k0.length f0 v0,.sl y1 x.k1.length f1 v1]] H fun v H'=>StepQ H q P N x v H':=by
 refine WC_start eXw (by simp) ?_
 unfold cXw
 have hn4:=ho.n4
 have hn16:=ho.n16
 have hwl:=ho.hn
 have how:=ow_eq (ws:=P.ws) x (by omega)
 have hno:=fun(Hx:Heap) (t:Xt H Hx)=>s_none (hp.keepX (H':=Hx) t.2)
 have hsi:i64 (x.slot:Nat):=by have:=hk.sl;unfold i64;omega
 have hcar0:=fun(Hx:Heap) (t:Xt H Hx) (hb:BusM Hx P.p0 (some (P.e0,0)) P.n true P.ws N.bl0 N.pa0)=>s_Carry (N:=M) (c2:=d0) (c3:=f0) (o2:=u0) (o3:=v0) hb (by omega) hsi (by omega) (((hx.keep fun b hb=>t.2 b (by omega)).s0 _ hM.2.1)) rfl hk.n0 hk.b0 ((hx.keep fun b hb=>t.2 b (by omega)).c0) (fun b z e=>by have:=hx.d0 b z e;omega) rfl hk.k0 (by have:=t.1;omega)
 have hcar1:=fun(Hx:Heap) (t:∀b,b<M→Hx[b]?=H[b]?) (tl:H.length≤Hx.length) (hb:BusM Hx P.p1 (some (P.e1,0)) P.n true P.ws N.bl1 N.pa1)=>s_Carry (N:=M) (c2:=d1) (c3:=f1) (o2:=u1) (o3:=v1) hb (by omega) hsi (by omega) (((hx.keep t).s1 _ hM.2.2)) rfl hk.n1 hk.b1 ((hx.keep t).c1) (fun b z e=>by have:=hx.d1 b z e;omega) rfl hk.k1 (by omega)
 obtain⟨C,gC,hC⟩:=hp.cells
 have lq:=lt_of_get gC
 have h12:=hC.c12
 have h13:=hC.c13
 have hsubK:=hC.hk
 have hKl:=hC.kl
 have hlC:=hC.len
 have h0n:C[0]?=some (.int .i64 (P.n:Nat)):=by rw[sub_get hC.hk (by omega)];exact ho.k0
 have lp0:=lt_of_get hp.b0.1
 have lp1:=lt_of_get hp.b1.1
 have hown:=fun(Hx:Heap) (hs:Sl Hx 1 P.a P.n (nums P.ws))=>s_Owner (H:=Hx) (K:=P.K) (s:=x.slot) hKl ho.k0 ho.k1 hs ho.hn (by omega)
 have how':gn P.ws (x.slot % P.n)=x.ow P.ws:=by unfold Slt.ow;rw[hwl]
 rw[how'] at hown
 have q0:=hp.q0
 have q1:=hp.q1
 have q2:=hp.q2
 have q3:=hp.q3
 have s1:=ho.s1
 have s2:=ho.s2
 have s3:=ho.s3
 have le0:P.e0<H.length:=hp.b0.2.1.lt (b:=P.e0) (x:=0) rfl
 have le1:P.e1<H.length:=hp.b1.2.1.lt (b:=P.e1) (x:=0) rfl
 have hmem:=hk.mem
 have fin0:=zhd10 hp ho hno hcar0 hcar1 hown how hB hC hwl
 clear hp ho hno hcar0 hcar1 hown how hB hC how' hx hk hsi hwl
 obtain⟨m0,m1,m2⟩:=hM
 have hs0:¬((x.slot:Nat):Int)<0:=by omega
 repeat (with_reducible first|(first|refine pI1 ?_|refine pS1 ?_);intros|refine pA1 ?_|refine pX1 ?_|refine pB1 ?_|exact True.intro)
 rename_i b7 H7 p7 g7 x7 b8 H8 p8 g8 x8 b9 H9 p9 g9 x9
 have t9:Xt H H9:=⟨by omega,fun b hb=>by rw[x9 b (by omega),x8 b (by omega),x7 b (by omega)]⟩
 have g7':=(x9 b7 (by omega)).trans ((x8 b7 (by omega)).trans g7)
 have g8':=(x9 b8 (by omega)).trans g8
 have ft:=zhd1 t9
 clear x7 x8 x9 g7 g8 t9
 refine outM_call (fin0 _ fun _ _ hno _ _ _ _ _ _ _=>ft _ fun t=>hno H9 t) ?_
 rintro _ H9 ⟨rfl,rfl⟩
 repeat (with_reducible first|(first|refine pI1 ?_|refine pS1 ?_);intros|refine pA1 ?_|refine pX1 ?_|refine pB1 ?_|exact True.intro)
 rename_i bh Hb pb gb xb
 have tb:Xt H Hb:=ft _ fun t=>⟨by have:=t.1;omega,fun b hb=>by rw[xb b (by have:=t.1;omega)];exact t.2 b hb⟩
 have g7b:=(xb b7 (by omega)).trans g7'
 have g8b:=(xb b8 (by omega)).trans g8'
 have g9b:=(xb b9 (by omega)).trans g9
 have gCb:=(tb.2 q lq).trans gC
 have hb0:=fin0 _ fun hp _ _ _ _ _ _ _ _ _=>(hp.keepX (H':=Hb) tb.2).b0
 have hc0:=fin0 _ fun _ _ _ h _ _ _ _ _ _=>h Hb tb hb0
 have fb:=zhd2 tb hc0
 have lHb:=tb.1
 clear xb tb hc0 hb0 g7' g8' g9 ft gC
 refine W_turn bXw_14.eq_1 ?_
 repeat (with_reducible first|(first|refine pI1 ?_|refine pS1 ?_);intros|refine pA1 ?_|refine pX1 ?_|refine pB1 ?_|exact True.intro)
 refine outM_call (fb _ fun _ h=>h) ?_
 rintro v H11 ⟨hq,l11,x11⟩
 obtain⟨bo0,rfl,w1,w2,ho0,hbus0⟩:=car_rcv hq
 rw[fin0 _ fun _ _ _ _ _ _ h _ _ _=>h] at ho0 hbus0
 rw[fin0 _ fun _ _ _ _ _ _ _ _ _ h=>h] at ho0 ⊢
 have g711:=(x11 b7 (by omega) (by omega)).trans g7b
 have g811:=(x11 b8 (by omega) (by omega)).trans g8b
 have g911:=(x11 b9 (by omega) (by omega)).trans g9b
 have gb11:=(x11 bh (by omega) (by omega)).trans gb
 have gC11:=(x11 q (by omega) q0).trans gCb
 have hx11:∀b,b<H.length→b≠P.p0→H11[b]?=H[b]?:=fun b hb hb2=>by rw[x11 b (by omega) hb2];exact fb _ fun t _=>t.2 b hb
 have f11:=zhd3 hx11 ho0 hbus0
 clear hx11 ho0 hbus0 x11 g7b g8b g9b gb gCb hq fb
 repeat (with_reducible first|(first|refine pI1 ?_|refine pS1 ?_);intros|refine pA1 ?_|refine pX1 ?_|refine pB1 ?_|exact True.intro)
 rename_i H12 l12 g12 x12
 have g712:=(x12 b7 (by omega)).trans g711
 have g812:=(x12 b8 (by omega)).trans g811
 have g912:=(x12 b9 (by omega)).trans g911
 have gC12:=(x12 q (by omega)).trans gC11
 have hx12:∀b,b<H.length→b≠P.p0→H12[b]?=H[b]?:=fun b hb hb2=>by rw[x12 b (by omega)];exact f11 _ fun h _ _=>h b hb hb2
 have ho12:Outs H12 Hb.length bo0 P.n (rcv (x.ow P.ws) x.l0 x.k0):=f11 _ fun _ h _=>h.keep w1 fun b hb hb2=>x12 b (by omega)
 have hb12:=f11 _ fun _ _ h=>h.keep (H':=H12) fun b hb=>x12 b (by rcases hb with rfl|⟨z,e⟩;omega;cases e;omega)
 have hb112:BusM H12 P.p1 (some (P.e1,0)) P.n true P.ws N.bl1 N.pa1:=fin0 _ fun hp _ _ _ _ _ _ _ _ _=>hp.b1.keep fun b hb=>hx12 b (by rcases hb with rfl|⟨z,e⟩;omega;cases e;omega) (by rcases hb with rfl|⟨z,e⟩;exact s1.symm;cases e;exact s3)
 have hc1:=fin0 _ fun _ _ _ _ h _ _ _ _ _=>h H12 (fun b hb=>hx12 b (by omega) (by omega)) (by omega) hb112
 have f12:=zhd4 hx12 ho12 hb12 hc1
 clear hx12 ho12 hb12 hc1 hb112 x12 g711 g811 g911 gC11 f11 gb11
 refine W_turn bXw_14.eq_1 ?_
 repeat (with_reducible first|(first|refine pI1 ?_|refine pS1 ?_);intros|refine pA1 ?_|refine pX1 ?_|refine pB1 ?_|exact True.intro)
 refine outM_call (f12 _ fun _ _ _ h=>h) ?_
 rintro v H13 ⟨hq,l13,x13⟩
 obtain⟨bo1,rfl,w3,w4,ho1,hbus1⟩:=car_rcv hq
 rw[fin0 _ fun _ _ _ _ _ _ h _ _ _=>h] at ho1 hbus1
 rw[fin0 _ fun _ _ _ _ _ _ _ _ _ h=>h] at ho1 ⊢
 have g713:=(x13 b7 (by omega) (by omega)).trans g712
 have gb13:=(x13 bh (by omega) (by omega)).trans g12
 have gC13:=(x13 q (by omega) q1).trans gC12
 have hx13:∀b,b<H.length→b≠P.p0→b≠P.p1→H13[b]?=H[b]?:=fun b hb hb2 hb3=>by rw[x13 b (by omega) hb3];exact f12 _ fun h _ _ _=>h b hb hb2
 have ho013:Outs H13 Hb.length bo0 P.n (rcv (x.ow P.ws) x.l0 x.k0):=f12 _ fun _ h _ _=>h.keep w1 fun b hb hb2=>x13 b (by omega) (by omega)
 have hb013:=f12 _ fun _ _ h _=>h.keep (H':=H13) fun b hb=>x13 b (by rcases hb with rfl|⟨z,e⟩;omega;cases e;omega) (by rcases hb with rfl|⟨z,e⟩;exact s1;cases e;exact s2)
 have f13:=zhd5 hx13 ho013 hb013 ho1 hbus1
 clear hx13 ho013 hb013 ho1 hbus1 x13 g712 g812 g912 gC12 hq f12 g12
 repeat (with_reducible first|(first|refine pI1 ?_|refine pS1 ?_);intros|refine pA1 ?_|refine pX1 ?_|refine pB1 ?_|exact True.intro)
 rename_i H14 l14 g14 x14
 have g714:=(x14 b7 (by omega)).trans g713
 have gC14:=(x14 q (by omega)).trans gC13
 have hx14:∀b,b<H.length→b≠P.p0→b≠P.p1→H14[b]?=H[b]?:=fun b hb hb2 hb3=>by rw[x14 b (by omega)];exact f13 _ fun h _ _ _ _=>h b hb hb2 hb3
 have ho014:Outs H14 Hb.length bo0 P.n (rcv (x.ow P.ws) x.l0 x.k0):=f13 _ fun _ h _ _ _=>h.keep w1 fun b hb hb2=>x14 b (by omega)
 have ho114:Outs H14 H12.length bo1 P.n (rcv (x.ow P.ws) x.l1 x.k1):=f13 _ fun _ _ _ h _=>h.keep w3 fun b hb hb2=>x14 b (by omega)
 have hb014:=f13 _ fun _ _ h _ _=>h.keep (H':=H14) fun b hb=>x14 b (by rcases hb with rfl|⟨z,e⟩;omega;cases e;omega)
 have hb114:=f13 _ fun _ _ _ _ h=>h.keep (H':=H14) fun b hb=>x14 b (by rcases hb with rfl|⟨z,e⟩;omega;cases e;omega)
 have hown14:Sl H14 1 P.a P.n (nums P.ws):=fin0 _ fun hp ho _ _ _ _ _ _ _ _=>hp.owners.keep fun b z e=>hx14 b (hp.owners.lt e) (ho.s4 b z e).1 (ho.s4 b z e).2
 have hpair14:PairM H14 q P ⟨blS (x.ow P.ws) x.l0 N.bl0,paS (x.ow P.ws) x.l0 N.pa0,blS (x.ow P.ws) x.l1 N.bl1,paS (x.ow P.ws) x.l1 N.pa1,N.cnt⟩:=fin0 _ fun hp _ _ _ _ _ _ _ hC _=>⟨⟨C,gC14,hC⟩,hown14,hb014,hb114,q0,q1,q2,q3,hp.q4⟩
 have hcow:=fin0 _ fun _ _ _ _ _ h _ _ _ _=>h H14 hown14
 have f14:=zhd5 hx14 ho014 ho114 hpair14 hcow
 clear hx14 ho014 ho114 hb014 hb114 hown14 hpair14 hcow x14 g713 gC13 gb13 f13
 refine W_turn bXw_14.eq_1 ?_
 repeat (with_reducible first|(first|refine pI1 ?_|refine pS1 ?_);intros|refine pA1 ?_|refine pX1 ?_|refine pB1 ?_|exact True.intro)
 refine outM_call (f14 _ fun _ _ _ _ h=>h) ?_
 rintro _ H15 ⟨rfl,l15,x15⟩
 have g715:=(x15 b7 (by omega)).trans g714
 have gb15:=(x15 bh (by omega)).trans g14
 have gC15:=(x15 q (by omega)).trans gC14
 have f15:=zhd1 x15
 clear x15 g714 g14 gC14
 repeat (with_reducible first|(first|refine pI1 ?_|refine pS1 ?_);intros|refine pA1 ?_|refine pX1 ?_|refine pB1 ?_|exact True.intro)
 refine step_round (x:=x) (P:=P) (N:=⟨blS (x.ow P.ws) x.l0 N.bl0,paS (x.ow P.ws) x.l0 N.pa0,blS (x.ow P.ws) x.l1 N.bl1,paS (x.ow P.ws) x.l1 N.pa1,N.cnt⟩) (q:=q) (b7:=b7) (bh:=bh) (bo0:=bo0) (bo1:=bo1) (lo0:=Hb.length) (lo1:=H12.length) (f14 _ fun _ _ _ h _=>h.keepX (f15 _ fun x=>x)) (fin0 _ fun _ ho _ _ _ _ _ _ _ _=>ho)
  (by rw[f15 _ fun x=>x 0 (by omega)];exact f14 _ fun h _ _ _ _=>(h 0 (by omega) (by omega) (by omega)).trans hT) (by omega) (fin0 _ fun _ _ _ _ _ _ _ h _ _=>h) hmem g715 gb15 (by omega)
  (f14 _ fun _ h _ _ _=>h.keep w1 fun b hb hb2=>f15 _ fun x=>x b hb2) (f14 _ fun _ _ h _ _=>h.keep w3 fun b hb hb2=>f15 _ fun x=>x b hb2) zf zf zf zf zf zf zf zf ?_
 intro ρ' H' fa fo va vo z18 z19 hg hv hz hP l16 x16
 have f16:=zhd5 hg hv hz hP x16
 clear hg hv hz hP x16 g715 gb15 gC15
 repeat (with_reducible first|(first|refine pI1 ?_|refine pS1 ?_);intros|refine pA1 ?_|refine pX1 ?_|refine pB1 ?_|exact True.intro)
 refine f16 _ fun hg hv hz hP x16=>⟨⟨fa,fo,va,vo,H15.length,rfl,by omega,hg,hv,hz⟩,?_,by omega,fun b hb a1 a2 a3=>?_⟩
 ·have e:N.step x P.ws=⟨blS (x.ow P.ws) x.l0 N.bl0,paS (x.ow P.ws) x.l0 N.pa0,blS (x.ow P.ws) x.l1 N.bl1,paS (x.ow P.ws) x.l1 N.pa1,cntS (x.ow P.ws).toNat (x.vN P.ws) N.cnt P.n⟩:=by unfold Cn.step;rw[fin0 _ fun _ _ _ _ _ _ _ _ _ h=>h]
  rw[e];exact hP
 ·rw[x16 b (by omega) a1,f15 _ fun x=>x b (by omega)];exact f14 _ fun h _ _ _ _=>h b hb a2 a3
end Go.Proofs.YtjcgdcadflplcaaDoor.AM.D21
namespace Go.Proofs.YtjcgdcadflplcaaDoor.AM.D21
open Go Go.Proofs.YtjcgdcadflplcaaDoor.AM Go.Proofs.YtjcgdcadflplcaaDoor.AM.C02 Go.Proofs.YtjcgdcadflplcaaDoor.AM.C07 Go.Proofs.YtjcgdcadflplcaaDoor.AM.C21 Go.Proofs.YtjcgdcadflplcaaDoor.AM.P3
set_option maxHeartbeats 2000000
set_option maxRecDepth 100000
attribute [local go_sem] tn_add1 tn_sub1 put_all' nums_len sub_all sub02
structure Rp where
 n:Nat
 a:Option Ad
 c:Nat
 o:Bool
 ws:List Int
structure RpC (R:Rp) (N:Cn) (C:List Cell):Prop where
 len:C.length=98
 c0:C[0]?=some (.int .i64 (R.n:Nat))
 c1:C[1]?=some (.sl R.a R.n R.c R.o)
 c12:C[12]?=some (.sl R.a R.n R.c R.o)
 c13:C[13]?=some (.int .u64 (N.bl0:Nat))
 c14:C[14]?=some (.int .u64 (N.pa0:Nat))
 c15:C[15]?=some (.sl R.a R.n R.c R.o)
 c16:C[16]?=some (.int .u64 (N.bl1:Nat))
 c17:C[17]?=some (.int .u64 (N.pa1:Nat))
 cl:N.cnt.length=80
 cnt:∀k,k<80→C[18+k]?=some (.int .i64 (gn N.cnt k))
theorem RpC.put {R:Rp} {N:Cn} {C:List Cell} (h:RpC R N C) {k:Nat} (hk:k<80) (x:Int):RpC R { N with cnt:=N.cnt.set k x } (C.set (18+k) (.int .i64 x)) where
 len:=by rw[List.length_set];exact h.len
 c0:=by rw[List.getElem?_set_ne (by omega)];exact h.c0
 c1:=by rw[List.getElem?_set_ne (by omega)];exact h.c1
 c12:=by rw[List.getElem?_set_ne (by omega)];exact h.c12
 c13:=by rw[List.getElem?_set_ne (by omega)];exact h.c13
 c14:=by rw[List.getElem?_set_ne (by omega)];exact h.c14
 c15:=by rw[List.getElem?_set_ne (by omega)];exact h.c15
 c16:=by rw[List.getElem?_set_ne (by omega)];exact h.c16
 c17:=by rw[List.getElem?_set_ne (by omega)];exact h.c17
 cl:=by rw[List.length_set];exact h.cl
 cnt:=fun j hj=>by
  have hl:=h.len
  show _=some (Cell.int .i64 (gn (N.cnt.set k x) j))
  rw[gn_set]
  by_cases e:k=j
  ·subst e
   rw[List.getElem?_set_self (by omega),if_pos ⟨rfl,by have:=h.cl;omega⟩]
  ·rw[List.getElem?_set_ne (by omega),if_neg fun h'=>e h'.1];exact h.cnt j hj
structure RpM (H:Heap) (r:Nat) (R:Rp) (N:Cn):Prop where
 cells:∃C,H[r]?=some (.cells C false none)∧RpC R N C
 owners:Sl H 1 R.a R.n (nums R.ws)
 sep:∀b x,R.a=some (b,x)→b≠r
structure RpOk (R:Rp):Prop where
 hn:R.ws.length=R.n
 n4:4≤R.n
 n16:R.n≤16
 hw:∀y∈R.ws,0≤y∧y<(R.n:Int)
theorem RpM.keepX {H H':Heap} {r:Nat} {R:Rp} {N:Cn} (h:RpM H r R N) (hx:∀b,b<H.length→H'[b]?=H[b]?):RpM H' r R N:=by
 obtain⟨C,g,hC⟩:=h.cells
 exact⟨⟨C,by rw[hx r (lt_of_get g)];exact g,hC⟩,h.owners.keep fun b x e=>hx b (h.owners.lt e),h.sep⟩
theorem RpM.lt {H:Heap} {r:Nat} {R:Rp} {N:Cn} (h:RpM H r R N):r<H.length:=by
 obtain⟨C,g,hC⟩:=h.cells
 exact lt_of_get g
def six (a b c d e f:Cell):List Cell:=[a,b,c,d,e,f]
def hdr:List Cell:=[Cell.int .i64 0,.sl none 0 0 false,.int .i64 0,.int .i64 0,.int .i64 0,.int .i64 0,.int .i64 0,.int .i64 0,.sl none 0 0 false,.sl none 0 0 false,.sl none 0 0 false,.sl none 0 0 false]
def Z98:List Cell:=hdr++(six (.sl none 0 0 false) (.int .u64 0) (.int .u64 0) (.sl none 0 0 false) (.int .u64 0) (.int .u64 0)++zc80)
theorem Z98_eq:([(Cell.int .i64 0)]++[(.sl none 0 0 false)]++List.replicate 6 (.int .i64 0)++List.replicate 5 (.sl none 0 0 false)++List.replicate 2 (.int .u64 0)++[(.sl none 0 0 false)]++List.replicate 2 (.int .u64 0)++zc80)=Z98:=rfl
theorem Z98_eq2:(Cell.int .i64 0 :: Cell.sl none 0 0 false :: (List.replicate 6 (Cell.int .i64 0)++List.replicate 5 (Cell.sl none 0 0 false)++List.replicate 2 (Cell.int .u64 0)++[Cell.sl none 0 0 false]++List.replicate 2 (Cell.int .u64 0)++zc80))=Z98:=rfl
theorem sub3l (a b c:Cell):sub [a,b,c] 0 3=some [a,b,c]:=rfl
attribute [local go_sem] sub3l
theorem Z98_len:Z98.length=98:=rfl
attribute [local go_sem 2000] zc80_eq Z98_eq Z98_eq2 Z98_len
end Go.Proofs.YtjcgdcadflplcaaDoor.AM.D21
namespace Go.Proofs.YtjcgdcadflplcaaDoor.AM.D21
open Go Go.Proofs.YtjcgdcadflplcaaDoor.AM Go.Proofs.YtjcgdcadflplcaaDoor.AM.C02 Go.Proofs.YtjcgdcadflplcaaDoor.AM.C07 Go.Proofs.YtjcgdcadflplcaaDoor.AM.C21 Go.Proofs.YtjcgdcadflplcaaDoor.AM.P3
set_option maxHeartbeats 2000000
set_option maxRecDepth 100000
attribute [local go_sem] tn_add1 tn_sub1 put_all' nums_len sub_all sub02
attribute [local go_sem 2000] zF_eq zF_len
def ROuts (H:Heap) (r:Nat) (oa:Option Ad) (n:Nat) (f:Nat→Option (List Nat)):Prop:=
 ∃cs,Sl H 1 oa n cs∧(∀b z,oa=some (b,z)→b≠r)∧∀j,j<n→∃a' n' c' o',cs[j]?=some (.sl a' n' c' o')∧Cpy H a' n' c' ((f j).getD [])∧∀b z,a'=some (b,z)→b≠r
theorem ROuts.keep {H H':Heap} {r:Nat} {oa:Option Ad} {n:Nat} {f:Nat→Option (List Nat)} (h:ROuts H r oa n f) (hx:∀b,b<H.length→b≠r→H'[b]?=H[b]?):ROuts H' r oa n f:=by
 obtain⟨cs,h1,h2,h3⟩:=h
 refine⟨cs,h1.keep fun b z e=>hx b (h1.lt e) (h2 b z e),h2,fun j hj=>?_⟩
 obtain⟨a',n',c',o',k1,k2,k3⟩:=h3 j hj
 exact⟨a',n',c',o',k1,⟨k2.sl.keep fun b z e=>hx b (k2.sl.lt e) (k3 b z e),k2.le,k2.by_⟩,k3⟩
theorem RpM.keepQ {H H':Heap} {r:Nat} {R:Rp} {N:Cn} (h:RpM H r R N) {cnt:List Int} (hc:∃C,H'[r]?=some (.cells C false none)∧RpC R { N with cnt:=cnt } C) (hx:∀b,b<H.length→b≠r→H'[b]?=H[b]?):RpM H' r R { N with cnt:=cnt }:=
 ⟨hc,h.owners.keep fun b x e=>hx b (h.owners.lt e) (h.sep b x e),h.sep⟩
end Go.Proofs.YtjcgdcadflplcaaDoor.AM.D21
namespace Go.Proofs.YtjcgdcadflplcaaDoor.AM.D21
open Go Go.Proofs.YtjcgdcadflplcaaDoor.AM Go.Proofs.YtjcgdcadflplcaaDoor.AM.C02 Go.Proofs.YtjcgdcadflplcaaDoor.AM.C07 Go.Proofs.YtjcgdcadflplcaaDoor.AM.C21 Go.Proofs.YtjcgdcadflplcaaDoor.AM.P3
set_option maxHeartbeats 2000000
set_option maxRecDepth 100000
attribute [local go_sem] tn_add1 tn_sub1 put_all' nums_len sub_all sub02
theorem s_dStepN {H:Heap} {q:Nat} {P:Pr} {N:Cn} {slot:Int} {S:List Cell} {X Y:List Cell} (h:PairM H q P N) (hs:slot<0):WC F fXw [.c (.ptr (some (q,0))),.c (.int .i64 slot),.agg S,.agg X,.agg Y] H fun v H'=>v=.tup [.c (.sl none 0 0 false),.c (.sl none 0 0 false),.c (.int .i64 2)]∧Xt H H':=by
 refine WC_start eXw (by simp) ?_
 unfold cXw
 have hno:=fun(Hx:Heap) (t:Xt H Hx)=>s_none (h.keepX (H':=Hx) t.2)
 have fin0:=zhd1 hno
 clear hno h
 repeat (with_reducible first|(first|refine pI1 ?_|refine pS1 ?_);intros|refine pA1 ?_|refine pX1 ?_|refine pB1 ?_|exact True.intro)
 rename_i b7 H7 p7 g7 x7 b8 H8 p8 g8 x8 b9 H9 p9 g9 x9
 have t9:Xt H H9:=⟨by omega,fun b hb=>by rw[x9 b (by omega),x8 b (by omega),x7 b (by omega)]⟩
 have ft:=zhd1 t9
 clear x7 x8 x9 g7 g8 t9
 refine outM_call (fin0 _ fun hno=>ft _ fun t=>hno H9 t) ?_
 rintro _ H9 ⟨rfl,rfl⟩
 repeat (with_reducible first|(first|refine pI1 ?_|refine pS1 ?_);intros|refine pA1 ?_|refine pX1 ?_|refine pB1 ?_|exact True.intro)
 exact⟨rfl,ft _ fun t=>t⟩
end Go.Proofs.YtjcgdcadflplcaaDoor.AM.D21
namespace Go.Proofs.YtjcgdcadflplcaaDoor.AM.D21
open Go Go.Proofs.YtjcgdcadflplcaaDoor.AM Go.Proofs.YtjcgdcadflplcaaDoor.AM.C02 Go.Proofs.YtjcgdcadflplcaaDoor.AM.C07 Go.Proofs.YtjcgdcadflplcaaDoor.AM.C21 Go.Proofs.YtjcgdcadflplcaaDoor.AM.P3
set_option maxHeartbeats 2000000
set_option maxRecDepth 100000
attribute [local go_sem] tn_add1 tn_sub1 put_all' nums_len sub_all sub02
structure Op where
 slot:Int
 x:Slt
abbrev Op.T:Ty:=.pair I (.pair (.pair I (.pair (.int .u16) .unit)) (.pair (.arr 2 (.sl Snd.T)) (.pair (.arr 2 (.sl C07.Cpy.T)) .unit)))
def OpR (N:Nat) (H:Heap) (e:Op) (cs:List Cell):Prop:=
 ∃x0 d0 x1 d1 y0 f0 y1 f1,cs=[.int .i64 e.slot,.int .i64 e.x.ss,.int .u16 (e.x.mem:Nat),.sl x0 e.x.l0.length d0 false,.sl x1 e.x.l1.length d1 false,.sl y0 e.x.k0.length f0 false,.sl y1 e.x.k1.length f1 false]∧
  i64 e.slot∧e.x.slot=e.slot.toNat∧e.x.mem<65536∧SltM N H e.x x0 x1 y0 y1
def wO (e:Op):Nat:=1+(e.x.l0.map wS).sum+(e.x.l1.map wS).sum+e.x.k0.length+e.x.k1.length
theorem sl_lt {T:Ty} {H:Heap} {x:(Ty.sl T).D} {a:Option Ad} {n c:Nat} {o:Bool} (h:Vw (.sl T) H x [.sl a n c o]):∀b y,a=some (b,y)→b<H.length:=fun b y e=>vw_sl_lt h e
theorem snds_of {H:Heap} {x:List Snd.T.D} {cs:List Cell} (h:Vw (.sl Snd.T) H x cs):∃a c l,cs=[.sl a (List.length l) c false]∧(∀p,H.length≤p→Snds H.length p H a l)∧(l.map wS).sum≤wt (.sl Snd.T) x:=by
 obtain⟨a,c,l,rfl,k1,k2,k3,k4⟩:=Vw.tabW (R:=SnR H.length H.length) (S:=fun x e=>wS e≤wt Snd.T x) (fun _ _=>snd_row) h
 have s1:=all2_wt k4
 refine⟨a,c,l,rfl,fun p hp=>⟨tab_imp k3 fun e cs h=>h.to hp,fun b y e=>?_⟩,?_⟩
 ·have:=vw_sl_lt h e;omega
 ·show _≤1+(x.map fun x=>wt Snd.T x).sum
  omega
theorem cpys_of {H:Heap} {x:List C07.Cpy.T.D} {cs:List Cell} (h:Vw (.sl C07.Cpy.T) H x cs):∃a c l,cs=[.sl a (List.length l) c false]∧Tab 3 CpR H.length H a l∧(∀b y,a=some (b,y)→b<H.length)∧l.length≤wt (.sl C07.Cpy.T) x:=by
 obtain⟨a,c,l,rfl,k1,k2,k3,k4⟩:=Vw.tabW (R:=CpR) (S:=fun x _=>1≤wt C07.Cpy.T x) (fun _ _=>cpy_row) h
 have s2:=all2_wt (f:=fun _=>1) k4
 rw[len_sum] at s2
 refine⟨a,c,l,rfl,k3,sl_lt h,?_⟩
 show _≤1+(x.map fun x=>wt C07.Cpy.T x).sum
 omega
theorem arr2 {T:Ty} {H:Heap} {x:List T.D} {cs:List Cell} (h:Vw (.arr 2 T) H x cs):∃u v r1 r2,x=[u,v]∧cs=r1++r2∧Vw T H u r1∧Vw T H v r2:=by
 obtain⟨hl,rows,rfl,-,hr⟩:=h
 match x,rows,hr,hl with
 |_,_,.cons h1 (.cons h2 .nil),_=>exact⟨_,_,_,_,rfl,by simp,h1,h2⟩
 |_,_,.nil,hl=>simp at hl
 |_,_,.cons h1 .nil,hl=>simp at hl
 |_,_,.cons h1 (.cons h2 (.cons h3 h4)),hl=>simp at hl
theorem op_row {H:Heap} {x:Op.T.D} {cs:List Cell} (h:Vw Op.T H x cs):∃e,OpR H.length H e cs∧wO e≤wt Op.T x:=by
 obtain⟨x1,⟨x2,x3,u⟩,x4,x5,u'⟩:=x
 obtain⟨_,_,rfl,⟨rfl,w1⟩,_,_,rfl,⟨_,_,rfl,⟨rfl,w2⟩,_,_,rfl,⟨rfl,w3⟩,rfl⟩,_,_,rfl,h2,_,_,rfl,h3,rfl⟩:=h
 obtain⟨s0,s1,_,_,e4,rfl,h20,h21⟩:=arr2 h2
 obtain⟨c0,c1,_,_,e5,rfl,h30,h31⟩:=arr2 h3
 have e4:x4=[s0,s1]:=e4
 have e5:x5=[c0,c1]:=e5
 subst e4 e5
 obtain⟨ax0,d0,l0,rfl,q0,z0⟩:=snds_of h20
 obtain⟨ax1,d1,l1,rfl,q1,z1⟩:=snds_of h21
 obtain⟨ay0,f0,k0,rfl,p0,v0,y0⟩:=cpys_of h30
 obtain⟨ay1,f1,k1,rfl,p1,v1,y1⟩:=cpys_of h31
 obtain⟨m,hm,hmb⟩:=wf_u rfl w3
 refine⟨⟨x1,⟨Int.toNat x1,x2,m,l0,l1,k0,k1⟩⟩,⟨ax0,d0,ax1,d1,ay0,f0,ay1,f1,?_,wf_i64 w1,rfl,hmb,⟨q0,q1,p0,p1,v0,v1⟩⟩,?_⟩
 ·have hm:x3=(m:Int):=hm
  subst hm
  rfl
 ·have e:wt Op.T (x1,(x2,x3,u),[s0,s1],[c0,c1],u')=1+((1+(1+0))+(([s0,s1].map fun d=>wt (.sl Snd.T) d).sum+(([c0,c1].map fun d=>wt (.sl C07.Cpy.T) d).sum+0))):=rfl
  rw[e]
  show 1+(l0.map wS).sum+(l1.map wS).sum+k0.length+k1.length≤_
  simp only[List.map_cons,List.map_nil,List.sum_cons,List.sum_nil]
  omega
end Go.Proofs.YtjcgdcadflplcaaDoor.AM.D21
namespace Go.Proofs.YtjcgdcadflplcaaDoor.AM.D21
open Go Go.Proofs.YtjcgdcadflplcaaDoor.AM Go.Proofs.YtjcgdcadflplcaaDoor.AM.C02 Go.Proofs.YtjcgdcadflplcaaDoor.AM.C07 Go.Proofs.YtjcgdcadflplcaaDoor.AM.C21 Go.Proofs.YtjcgdcadflplcaaDoor.AM.P3
set_option maxHeartbeats 2000000
set_option maxRecDepth 100000
attribute [local go_sem] tn_add1 tn_sub1 put_all' nums_len sub_all sub02
attribute [local go_sem 2000] zF_eq eqF neF zF_len
theorem fr_row {x:Slt} {ws:List Int} {i k:Nat} (h:i<k):sub (x.fr ws k) (i * 67) 67=some (x.vf ws i).1:=by
 have e:x.fr ws k=((List.range k).map fun j=>(x.vf ws j).1).flatten:=by unfold Slt.fr;rw[List.flatMap_def]
 obtain⟨q1,q2⟩:=sub_rows (rows:=(List.range k).map fun j=>(x.vf ws j).1) (sz:=67) (i:=i) (r:=(x.vf ws i).1) (fun r hr=>by obtain⟨j,-,rfl⟩:=List.mem_map.1 hr;exact vf_len x ws j) (by rw[List.getElem?_map,List.getElem?_range h];rfl)
 rw[←e] at q1 q2
 unfold sub
 rw[if_pos q1,q2]
theorem Sl.row {H:Heap} {sz n i:Nat} {a:Ad} {xs r:List Cell} (h:Sl H sz (some a) n xs) (hi:i<n) (hr:sub xs (i * sz) sz=some r):ldnB H[a.1]? (a.2+i * sz) sz=some r:=by
 have hrd:=h.rd a rfl
 unfold Heap.ldn Heap.cells at hrd
 generalize H[a.1]?=k at *
 match k,hrd with
 |some (.cells cs ro g),hrd=>
  have hrd:sub cs a.2 (n * sz)=some xs:=hrd
  show sub cs (a.2+i * sz) sz=some r
  have hle:i * sz+sz≤n * sz:=by rw[←Nat.succ_mul];exact Nat.mul_le_mul_right _ hi
  unfold sub at hrd hr ⊢
  split at hrd
  ·rename_i hc
   have e1:=Option.some.inj hrd
   split at hr
   ·have e2:=Option.some.inj hr
    rw[if_pos (by omega),←e2,←e1,List.drop_take,List.take_take,List.drop_drop,Nat.min_eq_left (by omega)]
   ·cases hr
  ·cases hrd
end Go.Proofs.YtjcgdcadflplcaaDoor.AM.D21
namespace Go.Proofs.YtjcgdcadflplcaaDoor.AM.D21
open Go Go.Proofs.YtjcgdcadflplcaaDoor.AM Go.Proofs.YtjcgdcadflplcaaDoor.AM.C02 Go.Proofs.YtjcgdcadflplcaaDoor.AM.C07 Go.Proofs.YtjcgdcadflplcaaDoor.AM.C21 Go.Proofs.YtjcgdcadflplcaaDoor.AM.P3
set_option maxHeartbeats 2000000
set_option maxRecDepth 100000
attribute [local go_sem] tn_add1 tn_sub1 put_all' nums_len sub_all sub02
def smallL (L:List Snd) (nK:Nat):Prop:=L.length≤20∧nK≤40∧∀j,j<L.length→(gs L j).bytes.length≤200
def smallO (e:Op):Prop:=smallL e.x.l0 e.x.k0.length∧smallL e.x.l1 e.x.k1.length
theorem great_ch {ρ:Nat→V} {H:Heap} {N p n tb ty i k nL dL nK dK c:Nat} {o oL oK:Bool} {xa ya:Option Ad} {L_:List Snd} {m:Nat} (e0:ρ 0=.c (.sl (some (tb,ty)) n c o)) (e3:ρ 3=.c (.int .i64 (i:Nat))) (e4:ρ 4=.c (.int .i64 (k:Nat))) (e10:ρ 10=.c (.int .i64 (m:Nat))) (e11:ρ 11=.c (.int .i64 (i:Nat))) (hi:i<n) (hk:k<2)
  (hS:ldB H[tb]? (ty+i * 7+3+k)=some (.sl xa nL dL oL)) (hC:ldB H[tb]? (ty+i * 7+5+k)=some (.sl ya nK dK oK)) (hs:Snds N p H xa L_) (hL:L_.length=nL) (hb:nL≤1000000000) (hbb:∀j,j<nL→(gs L_ j).bytes.length≤1000000000):
  W F none (.seq (.seq (.ops oX19_8) (.cond (.t 37) (.seq (.ops oX19_9) .ret) .skip)) (.seq (.ops oX19_10) (.block 4 (.loop bX19_16)))) ⟨L 64 ρ,[],H⟩ fun e st=>
   (e=.ret∧∃ρ',st=⟨L 64 ρ',[],H⟩∧ρ' 2=.c (.bool true))∨(e=.normal∧smallL L_ nK∧∃ρ',st=⟨L 64 ρ',[],H⟩∧ρ' 0=.c (.sl (some (tb,ty)) n c o)∧ρ' 3=.c (.int .i64 (i:Nat))∧ρ' 4=.c (.int .i64 (k:Nat))∧ρ' 10=.c (.int .i64 (m:Nat))∧ρ' 11=.c (.int .i64 (i:Nat))):=by
 have f0:=zhd3 hs hL hbb
 clear hs hL hbb
 by_cases c1:(nL:Int) > 20
 ·repeat (with_reducible first|(first|refine pI1 ?_|refine pS1 ?_);intros|refine pA1 ?_|refine pX1 ?_|refine pB1 ?_|exact True.intro)
  exact .inl ⟨rfl,_,rfl,zf⟩
 by_cases c2:(nK:Int) > 40
 ·repeat (with_reducible first|(first|refine pI1 ?_|refine pS1 ?_);intros|refine pA1 ?_|refine pX1 ?_|refine pB1 ?_|exact True.intro)
  exact .inl ⟨rfl,_,rfl,zf⟩
 repeat (with_reducible first|(first|refine pI1 ?_|refine pS1 ?_);intros|refine pA1 ?_|refine pX1 ?_|refine pB1 ?_|exact True.intro)
 refine W_loop (fun mm st=>∃ρ,∃j:Nat,st=⟨L 64 ρ,[],H⟩∧mm=nL-j∧j≤nL∧ρ 0=.c (.sl (some (tb,ty)) n c o)∧ρ 3=.c (.int .i64 (i:Nat))∧ρ 4=.c (.int .i64 (k:Nat))∧ρ 10=.c (.int .i64 (m:Nat))∧ρ 11=.c (.int .i64 (i:Nat))∧ρ 45=.c (.int .i64 (nL:Nat))∧ρ 46=.c (.int .i64 (j:Nat))∧Hid (∀t,t<j→(gs L_ t).bytes.length≤200)) nL ⟨_,0,rfl,rfl,by omega,zf,zf,zf,zf,zf,zf,zf,fun t ht=>absurd ht (by omega)⟩ ?_
 clear e0 e3 e4 e10 e11
 rintro mm st ⟨ρ,j,rfl,rfl,hj,e0,e3,e4,e10,e11,e45,e46,hall⟩
 unfold bX19_16
 have fz:=zhd1 hall
 clear hall
 by_cases hjn:j<nL
 ·have hxt:(j:Int)<(nL:Int):=by omega
  obtain⟨b,y,a',c',o',ea,-,-,hld,-,-,-,-⟩:=f0 _ fun hs hL _=>send_at hs (i:=j) (by omega)
  obtain⟨-,hd1⟩:=ldB_two hld
  have hbl:=f0 _ fun _ _ h=>h j hjn
  obtain⟨nb,hnb⟩:∃nb,(gs L_ j).bytes.length=nb:=⟨_,rfl⟩
  rw[hnb] at hd1 hbl
  have fn:=zhd1 hnb
  clear hnb hld
  rw[ea] at hS
  by_cases c3:(nb:Int) > 200
  ·repeat (with_reducible first|(first|refine pI1 ?_|refine pS1 ?_);intros|refine pA1 ?_|refine pX1 ?_|refine pB1 ?_|exact True.intro)
   exact .inl ⟨rfl,_,rfl,zf⟩
  ·have hnext:Hid (∀t,t<j+1→(gs L_ t).bytes.length≤200):=fun t ht=>by
    by_cases e:t=j
    ·subst e;rw[fn _ fun h=>h];omega
    ·exact fz _ fun h=>h t (by omega)
   have fx:=zhd1 hnext
   clear hnext
   repeat (with_reducible first|(first|refine pI1 ?_|refine pS1 ?_);intros|refine pA1 ?_|refine pX1 ?_|refine pB1 ?_|exact True.intro)
   exact loopQ_n (nL-(j+1)) (by omega) ⟨_,j+1,rfl,rfl,by omega,zf,zf,zf,zf,zf,zf,zf,fx _ fun h=>h⟩
 ·obtain rfl:j=nL:=by omega
  have hxt:¬(j:Int)<(j:Int):=by omega
  repeat (with_reducible first|(first|refine pI1 ?_|refine pS1 ?_);intros|refine pA1 ?_|refine pX1 ?_|refine pB1 ?_|exact True.intro)
  exact .inr ⟨rfl,f0 _ fun _ hL _=>⟨by omega,by omega,fun t ht=>fz _ fun h=>h t (by omega)⟩,_,rfl,zf,zf,zf,zf,zf⟩
theorem cells_at {H:Heap} {b o n:Nat} {cs:List Cell} (h:ldnB H[b]? o n=some cs) {j:Nat} (hj:j<n):ldB H[b]? (o+j)=cs[j]?:=by
 generalize H[b]?=k at *
 match k,h with
 |some (.cells C ro g),h=>exact sub_at (i:=j) h hj
theorem s_great {N:Nat} {H:Heap} {a:Option Ad} {n c:Nat} {o:Bool} {l:List Op} (ht:Tab 7 (OpR N) N H a l) (hn:l.length=n) (hb:n≤1000000000) (hw:∀e∈l,wO e≤2000000):
  WC F fX19 [.c (.sl a n c o)] H fun v H'=>H'=H∧∃b,v=.c (.bool b)∧(b=false→n≤40∧∀e∈l,smallO e):=by
 refine WC_start eX19 (by simp) ?_
 unfold cX19
 have f0:=zhd3 ht hn hw
 clear ht hn hw
 by_cases c1:(n:Int) > 40
 ·repeat (with_reducible first|(first|refine pI1 ?_|refine pS1 ?_);intros|refine pA1 ?_|refine pX1 ?_|refine pB1 ?_|exact True.intro)
  exact⟨rfl,true,rfl,fun h=>by cases h⟩
 repeat (with_reducible first|(first|refine pI1 ?_|refine pS1 ?_);intros|refine pA1 ?_|refine pX1 ?_|refine pB1 ?_|exact True.intro)
 refine W_loop (fun mm st=>∃ρ,∃i:Nat,st=⟨L 64 ρ,[],H⟩∧mm=n-i∧i≤n∧ρ 0=.c (.sl a n c o)∧ρ 10=.c (.int .i64 (n:Nat))∧ρ 11=.c (.int .i64 (i:Nat))∧Hid (∀t e,t<i→l[t]?=some e→smallO e)) n ⟨_,0,rfl,rfl,by omega,zf,zf,zf,fun t e ht=>absurd ht (by omega)⟩ ?_
 rintro mm st ⟨ρ,i,rfl,rfl,hi,e0,e10,e11,hall⟩
 unfold bX19_20
 have fz:=zhd1 hall
 clear hall
 by_cases hin:i<n
 case neg=>
  obtain rfl:i=n:=by omega
  have hxt:¬(i:Int)<(i:Int):=by omega
  repeat (with_reducible first|(first|refine pI1 ?_|refine pS1 ?_);intros|refine pA1 ?_|refine pX1 ?_|refine pB1 ?_|exact True.intro)
  exact⟨rfl,false,rfl,fun _=>⟨by omega,fun e he=>by
   obtain⟨t,ht,rfl⟩:=List.mem_iff_getElem.1 he
   exact fz _ fun h=>h t _ (f0 _ fun _ hn _=>by omega) (List.getElem?_eq_getElem ht)⟩⟩
 have hxt:(i:Int)<(n:Int):=by omega
 have hlt:i<l.length:=f0 _ fun _ h _=>by omega
 obtain⟨⟨tb,ty⟩,cs,ea,ltb,hld,x0,d0,x1,d1,y0,f0',y1,f1',rfl,hsl,hsx,hmem,hm⟩:=f0 _ fun ht _ _=>ht.at hlt
 have hwl:=f0 _ fun _ _ h=>h _ (List.getElem_mem hlt)
 have hq3:=cells_at hld (j:=3) (by omega)
 have hq4:=cells_at hld (j:=4) (by omega)
 have hq5:=cells_at hld (j:=5) (by omega)
 have hq6:=cells_at hld (j:=6) (by omega)
 dsimp only at hq3 hq4 hq5 hq6
 have hnext:smallO l[i]→Hid (∀t e,t<i+1→l[t]?=some e→smallO e):=fun h t e ht he=>by
  by_cases et:t=i
  ·subst et;rw[List.getElem?_eq_getElem hlt] at he;cases he;exact h
  ·exact fz _ fun hz=>hz t e (by omega) he
 obtain⟨⟨slot,x⟩,hx⟩:∃e,e=l[i]:=⟨_,rfl⟩
 rw[←hx] at hq3 hq4 hq5 hq6 hm hwl hnext
 dsimp only at hq3 hq4 hq5 hq6 hm
 have hwb:∀L_:List Snd,(L_.map wS).sum≤2000000→L_.length≤2000000∧∀j,j<L_.length→(gs L_ j).bytes.length≤2000000:=fun L_ hL=>by
  have key:∀L_:List Snd,L_.length≤(L_.map wS).sum∧∀j,j<L_.length→(gs L_ j).bytes.length≤(L_.map wS).sum:=fun L_=>by
   induction L_ with
   |nil=>exact⟨Nat.le_refl _,fun j hj=>absurd hj (by simp)⟩
   |cons s L_ ih=>
    rw[List.map_cons,List.sum_cons]
    have hs:wS s=1+s.bytes.length:=rfl
    refine⟨by rw[List.length_cons];omega,fun j hj=>?_⟩
    cases j with
    |zero=>show s.bytes.length≤_;omega
    |succ j=>have:=ih.2 j (by simpa using hj);show (gs L_ j).bytes.length≤_;omega
  exact⟨by have:=(key L_).1;omega,fun j hj=>by have:=(key L_).2 j hj;omega⟩
 have hw1:wO ⟨slot,x⟩=1+(x.l0.map wS).sum+(x.l1.map wS).sum+x.k0.length+x.k1.length:=rfl
 have hb0:=hwb x.l0 (by omega)
 have hb1:=hwb x.l1 (by omega)
 have f1:=zhd4 hm hnext hb0 hb1
 clear hm hnext hwb hwl hx hld hw1 hsl hsx hmem hb0 hb1
 subst ea
 obtain⟨Y,hY⟩:∃Y,Y=IC.seq (.seq (.ops oX19_8) (.cond (.t 37) (.seq (.ops oX19_9) .ret) .skip)) (.seq (.ops oX19_10) (.block 4 (.loop bX19_16))):=⟨_,rfl⟩
 have hb18:bX19_18=.seq (.seq (.ops oX19_7) (.cond (.t 15) .skip (.exit 2))) (.seq (.block 3 Y) (.ops oX19_17)):=by rw[hY];rfl
 have fY:=zhd2 hY hb18
 clear hY hb18
 repeat (with_reducible first|(first|refine pI1 ?_|refine pS1 ?_);intros|refine pA1 ?_|refine pX1 ?_|refine pB1 ?_|exact True.intro)
 refine W_turn (fY _ fun _ h=>h) ?_
 repeat (with_reducible first|(first|refine pI1 ?_|refine pS1 ?_);intros|refine pA1 ?_|refine pX1 ?_|refine pB1 ?_|exact True.intro)
 rw[fY _ fun h _=>h]
 refine W.mono (f1 _ fun hm _ hb0 _=>great_ch (k:=0) (m:=n) (n:=n) (i:=i) (tb:=tb) (ty:=ty) (L_:=x.l0) zf zf zf zf zf hin (by omega) hq3 hq5 (hm.s0 N (Nat.le_refl _)) rfl (by have:=hb0.1;omega) fun j hj=>by have:=hb0.2 j hj;omega) ?_
 rintro _ _ (⟨rfl,ρ',rfl,e2⟩|⟨rfl,hs0,ρ',rfl,z0,z3,z4,z10,z11⟩)
 ·repeat (with_reducible first|(first|refine pI1 ?_|refine pS1 ?_);intros|refine pA1 ?_|refine pX1 ?_|refine pB1 ?_|exact True.intro)
  exact⟨rfl,true,rfl,fun h=>by cases h⟩
 have g0:=zhd1 hs0
 clear hs0 e0 e10 e11
 repeat (with_reducible first|(first|refine pI1 ?_|refine pS1 ?_);intros|refine pA1 ?_|refine pX1 ?_|refine pB1 ?_|exact True.intro)
 refine W_turn (fY _ fun _ h=>h) ?_
 repeat (with_reducible first|(first|refine pI1 ?_|refine pS1 ?_);intros|refine pA1 ?_|refine pX1 ?_|refine pB1 ?_|exact True.intro)
 rw[fY _ fun h _=>h]
 refine W.mono (f1 _ fun hm _ _ hb0=>great_ch (k:=1) (m:=n) (n:=n) (i:=i) (tb:=tb) (ty:=ty) (L_:=x.l1) zf zf zf zf zf hin (by omega) hq4 hq6 (hm.s1 N (Nat.le_refl _)) rfl (by have:=hb0.1;omega) fun j hj=>by have:=hb0.2 j hj;omega) ?_
 clear z0 z3 z4 z10 z11
 rintro _ _ (⟨rfl,ρ',rfl,e2⟩|⟨rfl,hs1,ρ',rfl,z0,z3,z4,z10,z11⟩)
 ·repeat (with_reducible first|(first|refine pI1 ?_|refine pS1 ?_);intros|refine pA1 ?_|refine pX1 ?_|refine pB1 ?_|exact True.intro)
  exact⟨rfl,true,rfl,fun h=>by cases h⟩
 have g1:=zhd1 hs1
 clear hs1
 repeat (with_reducible first|(first|refine pI1 ?_|refine pS1 ?_);intros|refine pA1 ?_|refine pX1 ?_|refine pB1 ?_|exact True.intro)
 refine W_turn (fY _ fun _ h=>h) ?_
 repeat (with_reducible first|(first|refine pI1 ?_|refine pS1 ?_);intros|refine pA1 ?_|refine pX1 ?_|refine pB1 ?_|exact True.intro)
 exact loopQ_n (n-(i+1)) (by omega) ⟨_,i+1,rfl,rfl,by omega,zf,zf,zf,f1 _ fun _ hnext _ _=>hnext ⟨g0 _ fun h=>h,g1 _ fun h=>h⟩⟩
end Go.Proofs.YtjcgdcadflplcaaDoor.AM.D21
namespace Go.Proofs.YtjcgdcadflplcaaDoor.AM.D21
open Go Go.Proofs.YtjcgdcadflplcaaDoor.AM Go.Proofs.YtjcgdcadflplcaaDoor.AM.C02 Go.Proofs.YtjcgdcadflplcaaDoor.AM.C07 Go.Proofs.YtjcgdcadflplcaaDoor.AM.C21 Go.Proofs.YtjcgdcadflplcaaDoor.AM.P3
set_option maxHeartbeats 2000000
set_option maxRecDepth 100000
attribute [local go_sem] tn_add1 tn_sub1 put_all' nums_len sub_all sub02
attribute [local go_sem 2000] zF_eq eqF neF zF_len
def oth (v:Nat):Nat:=if v=1 then 2 else if v=2 then 1 else v
def Slt.tn (x:Slt):Slt:=⟨x.slot,x.ss,x.mem,x.l1,x.l0,x.k1,x.k0⟩
theorem chs_tn (x y:List Cell × Int):(chs y x).1=(chs x y).1∧(chs y x).2.toNat=oth (chs x y).2.toNat:=by
 unfold chs
 by_cases h1:x.2=0
 ·by_cases h2:y.2=0
  ·rw[if_pos h1,if_pos h2,if_pos h2,if_pos h1]
   by_cases h3:x.1=y.1
   ·rw[if_pos h3,if_pos h3.symm];exact⟨h3.symm,rfl⟩
   ·rw[if_neg h3,if_neg fun h=>h3 h.symm];exact⟨rfl,rfl⟩
  ·rw[if_neg h2,if_pos h1,if_pos h1,if_neg h2];exact⟨rfl,rfl⟩
 ·by_cases h2:y.2=0
  ·rw[if_pos h2,if_neg h1,if_neg h1,if_pos h2];exact⟨rfl,rfl⟩
  ·rw[if_neg h2,if_neg h1,if_neg h1,if_neg h2];exact⟨rfl,rfl⟩
theorem tn_vf (x:Slt) (ws:List Int) (j:Nat):(x.tn.vf ws j).1=(x.vf ws j).1:=(chs_tn _ _).1
theorem tn_vN (x:Slt) (ws:List Int) (j:Nat):x.tn.vN ws j=oth (x.vN ws j):=(chs_tn _ _).2
theorem tn_fr (x:Slt) (ws:List Int) (k:Nat):x.tn.fr ws k=x.fr ws k:=by
 unfold Slt.fr
 congr 1
 funext j
 exact tn_vf x ws j
theorem oth_lt {v:Nat} (h:v≤4):oth v≤4:=by unfold oth;split<;>(try split)<;>omega
theorem oth_iff {v w:Nat}:oth v=oth w↔v=w:=by unfold oth;split<;>split<;>(try split)<;>(try split)<;>omega
structure TnR (N K:Cn):Prop where
 b0:K.bl0=N.bl1
 b1:K.bl1=N.bl0
 l0:N.cnt.length=80
 l1:K.cnt.length=80
 cnt:∀k v,k<16→v≤4→gn K.cnt (k * 5+oth v)=gn N.cnt (k * 5+v)
theorem TnR.step {N K:Cn} (h:TnR N K) (x:Slt) (ws:List Int):TnR (N.step x ws) (K.step x.tn ws):=by
 refine⟨?_,?_,?_,?_,fun k v hk hv=>?_⟩
 ·show blS (x.ow ws) x.l1 K.bl0=blS (x.ow ws) x.l1 N.bl1
  rw[h.b0]
 ·show blS (x.ow ws) x.l0 K.bl1=blS (x.ow ws) x.l0 N.bl0
  rw[h.b1]
 ·show (cntS _ _ _ _).length=80
  rw[cntS_len];exact h.l0
 ·show (cntS _ _ _ _).length=80
  rw[cntS_len];exact h.l1
 ·show gn (cntS (x.ow ws).toNat (x.tn.vN ws) K.cnt ws.length) _=gn (cntS (x.ow ws).toNat (x.vN ws) N.cnt ws.length) _
  have h4:=oth_lt hv
  rw[cntS_gn _ _ _ _ (by rw[h.l1];omega),cntS_gn _ _ _ _ (by rw[h.l0];omega),h.cnt k v hk hv]
  congr 2
  apply List.countP_congr
  intro j _
  have e1:=(vf_v x ws j).2
  have e2:=oth_lt e1
  have e3:=oth_iff (v:=x.vN ws j) (w:=v)
  rw[tn_vN]
  simp only[decide_eq_true_eq]
  omega
theorem colS_tn {N K:Cn} (h:TnR N K) {v:Nat} (hv:v≤4):∀n,n≤16→colS K.cnt (oth v) n=colS N.cnt v n
 |0,_=>rfl
 |n+1,hn=>by
  show colS K.cnt (oth v) n+gn K.cnt (n * 5+oth v)=colS N.cnt v n+gn N.cnt (n * 5+v)
  rw[colS_tn h hv n (by omega),h.cnt n v (by omega) hv]
def p7:List Nat:=7 :: List.replicate 63 0
def fm7:Fm:=⟨2,0,15,p7⟩
theorem fm7_wf:fm7.wf:=⟨by decide,rfl,lt_gx (by decide)⟩
theorem fm7_ok:encOk fm7:=by unfold encOk fm7;decide
theorem fm7_hr:hr (enc fm7) 2 0 15=(frC fm7,0):=by
 have h:=acc_enc fm7_wf fm7_ok (o:=2) (s:=0) (m:=15) (by decide)
 unfold hr
 rcases h with h|h
 ·rw[h.1]
 ·exact absurd ⟨rfl,rfl,rfl⟩ h.2
def F7:List Cell:=frC fm7
theorem F7_sh:ShF F7:=ShF.of rfl
theorem F7_len:F7.length=67:=F7_sh.len
theorem F7_at:F7[3]?=some (.int .u8 7):=rfl
theorem F7_ne:¬F7=zF:=fun h=>by
 have:F7[3]?=zF[3]?:=by rw[h]
 rw[F7_at] at this
 have e:zF[3]?=some (.int .u8 0):=rfl
 rw[e] at this
 cases this
def F15:List Cell:=frC ⟨2,0,15,List.replicate 64 0⟩
theorem F15_eq:put zF 0 (((zF.set 0 (Cell.int .i64 2)).set 1 (.int .i64 0)).set 2 (.int .u16 15))=F15:=rfl
theorem F15_len:F15.length=67:=rfl
theorem F15_set:F15.set 3 (.int .u8 7)=F7:=rfl
theorem F7_sub:sub F7 0 67=some F7:=rfl
theorem F7_put:put zF 0 F7=F7:=rfl
attribute [local go_sem 2000] F7_put F15_eq F15_len F15_set F7_len F7_sub
theorem s_sent {H:Heap} (hT:H[0]?=some nibB):WC F fX1a [.c (.int .u8 7)] H fun v H'=>∃b,v=.c (.sl (some (b,0)) 75 75 true)∧Cpy H' (some (b,0)) 75 75 (enc fm7)∧X1 H H':=by
 refine WC_start eX1a (by simp) ?_
 unfold cX1a
 have h0:=lt_of_get hT
 repeat (with_reducible first|(first|refine pI1 ?_|refine pS1 ?_);intros|refine pA1 ?_|refine pX1 ?_|refine pB1 ?_|exact True.intro)
 rename_i b3 H3 p3 g3 x3 H4 l4 g4 x4 H5 l5 g5 x5
 have hT5:H5[0]?=some nibB:=by rw[x5 0 (by omega),x4 0 (by omega),x3 0 (by omega)];exact hT
 have hx5:∀b,b<H.length→H5[b]?=H[b]?:=fun b hb=>by rw[x5 b (by omega),x4 b (by omega),x3 b (by omega)]
 have fx:=zhd1 hx5
 clear x3 x4 x5 hx5
 refine outM_call (s_Encode (H:=H5) (f:=fm7) fm7_wf hT5 fm7_ok) ?_
 rintro _ H6 ⟨b6,rfl,hb,hb',g6,l6,x6⟩
 have fx6:=zhd1 x6
 clear x6
 have hl:=enc_len fm7_wf
 have hby:=lt_gx (enc_by fm7_wf fm7_ok)
 generalize enc fm7=e at *
 repeat (with_reducible first|(first|refine pI1 ?_|refine pS1 ?_);intros|refine pA1 ?_|refine pX1 ?_|refine pB1 ?_|exact True.intro)
 exact⟨b6,rfl,⟨Sl.blk g6 (by rw[nats_len,hl]),Nat.le_refl _,hby⟩,by omega,fun b hb=>by rw[fx6 _ fun x=>x b (by omega)];exact fx _ fun x=>x b hb⟩
theorem s_took {H:Heap} {a b:Option Ad} {n m c d:Nat} {o p:Bool} {la lb:List Nat} {w:Int} (hT:H[0]?=some nibB) (h1:Cpy H a n c la) (h2:Cpy H b m d lb) (hc:chs (hr la 2 0 15) (hr lb 2 0 15)=(F7,w)) (hw:1≤w∧w≤3):
  WC F fX1b [.c (.int .i64 0),.c (.sl a n c o),.c (.sl b m d p),.c (.int .i64 w),.c (.int .u8 7)] H fun v H'=>v=.c (.bool true)∧X1 H H':=by
 refine WC_start eX1b (by simp) ?_
 unfold cX1b
 have hch:=s_Choose (o1:=o) (o2:=p) (by_:=2) (slot:=0) (mem:=15) hT h1 h2 (by decide)
 rw[hc] at hch
 obtain⟨w1,w2⟩:=hw
 have h0:=lt_of_get hT
 have hq:=eqF F7_sh zF_sh
 rw[decide_eq_false F7_ne] at hq
 have fin0:=zhd1 hch
 clear hch h1 h2 hc
 have h7:=F7_at
 repeat (with_reducible first|(first|refine pI1 ?_|refine pS1 ?_);intros|refine pA1 ?_|refine pX1 ?_|refine pB1 ?_|exact True.intro)
 refine outM_call (fin0 _ fun h=>h) ?_
 rintro _ H2 ⟨rfl,l2,x2⟩
 have fx:=zhd1 x2
 clear x2
 repeat (with_reducible first|(first|refine pI1 ?_|refine pS1 ?_);intros|refine pA1 ?_|refine pX1 ?_|refine pB1 ?_|exact True.intro)
 rename_i b3 H3 p3 g3 x3 H4 l4 g4 x4
 exact⟨rfl,by omega,fun b hb=>by rw[x4 b (by omega),x3 b (by omega)];exact fx _ fun x=>x b hb⟩
theorem s_alive {H:Heap} (hT:H[0]?=some nibB):WC F fX18 [] H fun v H'=>v=.c (.bool true)∧X1 H H':=by
 refine WC_start eX18 (by simp) ?_
 unfold cX18
 have h0:=lt_of_get hT
 have hs:=s_sent hT
 have fin0:=zhd1 hs
 clear hs
 have hn:∀Hx,Cpy Hx none 0 0 []:=fun Hx=>⟨Sl.none _ _,Nat.le_refl _,fun i=>by simp[gx]⟩
 have c3:chs (hr (enc fm7) 2 0 15) (hr (enc fm7) 2 0 15)=(F7,3):=by rw[fm7_hr];rfl
 have c1:chs (hr (enc fm7) 2 0 15) (hr [] 2 0 15)=(F7,1):=by rw[fm7_hr,hr_nil];rfl
 have c2:chs (hr [] 2 0 15) (hr (enc fm7) 2 0 15)=(F7,2):=by rw[fm7_hr,hr_nil];rfl
 have fin1:=zhd4 hn c3 c1 c2
 clear hn c3 c1 c2
 repeat (with_reducible first|(first|refine pI1 ?_|refine pS1 ?_);intros|refine pA1 ?_|refine pX1 ?_|refine pB1 ?_|exact True.intro)
 refine outM_call (fin0 _ fun h=>h) ?_
 rintro _ H1 ⟨b,rfl,cp,l1,x1⟩
 have hT1:H1[0]?=some nibB:=by rw[x1 0 h0];exact hT
 have t1:=zhd3 cp x1 hT1
 clear cp x1 hT1
 repeat (with_reducible first|(first|refine pI1 ?_|refine pS1 ?_);intros|refine pA1 ?_|refine pX1 ?_|refine pB1 ?_|exact True.intro)
 refine outM_call (t1 _ fun cp _ hT1=>fin1 _ fun _ c3 _ _=>s_took (H:=H1) hT1 cp cp c3 (by omega)) ?_
 rintro _ H2 ⟨rfl,l2,x2⟩
 have hT2:H2[0]?=some nibB:=by rw[x2 0 (by omega)];exact t1 _ fun _ _ h=>h
 have cp2:=t1 _ fun cp _ _=>cp.to x2
 have t2:=zhd3 cp2 x2 hT2
 clear cp2 x2 hT2
 repeat (with_reducible first|(first|refine pI1 ?_|refine pS1 ?_);intros|refine pA1 ?_|refine pX1 ?_|refine pB1 ?_|exact True.intro)
 refine outM_call (t2 _ fun cp _ hT1=>fin1 _ fun hn _ c1 _=>s_took (H:=H2) hT1 cp (hn H2) c1 (by omega)) ?_
 rintro _ H3 ⟨rfl,l3,x3⟩
 have hT3:H3[0]?=some nibB:=by rw[x3 0 (by omega)];exact t2 _ fun _ _ h=>h
 have cp3:=t2 _ fun cp _ _=>cp.to x3
 have t3:=zhd3 cp3 x3 hT3
 clear cp3 x3 hT3
 repeat (with_reducible first|(first|refine pI1 ?_|refine pS1 ?_);intros|refine pA1 ?_|refine pX1 ?_|refine pB1 ?_|exact True.intro)
 refine outM_call (t3 _ fun cp _ hT1=>fin1 _ fun hn _ _ c2=>s_took (H:=H3) hT1 (hn H3) cp c2 (by omega)) ?_
 rintro _ H4 ⟨rfl,l4,x4⟩
 have t4:=zhd1 x4
 clear x4
 repeat (with_reducible first|(first|refine pI1 ?_|refine pS1 ?_);intros|refine pA1 ?_|refine pX1 ?_|refine pB1 ?_|exact True.intro)
 exact⟨rfl,by omega,fun b hb=>by rw[t4 _ fun x=>x b (by omega),t3 _ fun _ x _=>x b (by omega),t2 _ fun _ x _=>x b (by omega)];exact t1 _ fun _ x _=>x b hb⟩
end Go.Proofs.YtjcgdcadflplcaaDoor.AM.D21
namespace Go.Proofs.YtjcgdcadflplcaaDoor.AM.D21
open Go Go.Proofs.YtjcgdcadflplcaaDoor.AM Go.Proofs.YtjcgdcadflplcaaDoor.AM.C02 Go.Proofs.YtjcgdcadflplcaaDoor.AM.C07 Go.Proofs.YtjcgdcadflplcaaDoor.AM.C21 Go.Proofs.YtjcgdcadflplcaaDoor.AM.P3
set_option maxHeartbeats 2000000
set_option maxRecDepth 100000
attribute [local go_sem] tn_add1 tn_sub1 put_all' nums_len
attribute [local go_sem] rep5
attribute [local go_sem 2000] zc80_eq Z94_eq Z94_len
def BlkP (q:Nat) (P:Pr) (b:Nat):Prop:=b=q∨b=P.p0∨b=P.p1∨b=P.e0∨b=P.e1∨∃x,P.a=some (b,x)
theorem s_dNewA {N:Nat} {H:Heap} {c:Cfg} {h:Hd} (hc:CfgM N H c h) (hN:N≤H.length):WC F fXs [.agg (c.cells h)] H fun v H'=>Xt H H'∧
  ((c.check≠0∧v=.tup [.c (.ptr none),.c (.int .i64 c.check)])∨(c.check=0∧∃q P,v=.tup [.c (.ptr (some (q,0))),.c (.int .i64 0)]∧(∀b,BlkP q P b→H.length≤b)∧PrOk P∧P.ws=c.owners∧PairM H' q P ⟨0,0,0,0,z80⟩)):=by
 refine WC_start eXs (by simp) ?_
 unfold cXs
 have hnew:=fun(Hx:Heap) (hx:Xt H Hx)=>s_New (hc.keep (H':=Hx) fun b hb=>hx.2 b (by omega)) (by have:=hx.1;omega)
 have hown:=hc.owners
 have hownN:=hc.ownersN
 have hok:c.check=0→c.nodes=(c.owners.length:Nat)∧4≤c.owners.length∧c.owners.length≤16∧∀y∈c.owners,0≤y∧y<(c.owners.length:Int):=fun h0=>by
  obtain⟨q1,q2,q3,q4⟩:=(Cfg.check_ok.1 h0).nodes
  exact⟨by omega,by omega,by omega,own_in rfl fun k hk=>q4 k (by omega)⟩
 obtain⟨C,hC⟩:∃C,C=c.cells h:=⟨_,rfl⟩
 have hsub:sub C 0 12=some C:=by rw[hC];rfl
 have hf0:C[0]?=some (.int .i64 c.nodes):=by rw[hC];rfl
 have hf1:C[1]?=some (.sl h.a1 c.owners.length h.c1 h.o1):=by rw[hC];rfl
 rw[←hC] at hnew ⊢
 generalize c.nodes=nd at *
 generalize c.owners=ws at *
 obtain⟨n,hn⟩:∃n,ws.length=n:=⟨_,rfl⟩
 rw[hn] at hown hf1 hok
 have hnew':∀Hx,Xt H Hx→WC F fXa [.agg C] Hx fun v H'=>Xt Hx H'∧((c.check≠0∧v=.tup [.c (.ptr none),.c (.int .i64 c.check)])∨(c.check=0∧∃p e,v=.tup [.c (.ptr (some (p,0))),.c (.int .i64 0)]∧Hx.length≤p∧p<H'.length∧Hx.length≤e∧e<H'.length∧BusM H' p (some (e,0)) n true ws 0 0)):=fun Hx hx=>by
  have:=hnew Hx hx
  rw[hn] at this;exact this
 obtain⟨k,hk⟩:∃k,k=c.check:=⟨_,rfl⟩
 rw[←hk] at hnew' hok ⊢
 have fin0:=zhd5 hnew' hok hown hownN hn
 clear hnew hnew' hok hown hownN hk hC hc hn
 repeat (with_reducible first|(first|refine pI1 ?_|refine pS1 ?_);intros|refine pA1 ?_|refine pX1 ?_|refine pB1 ?_|exact True.intro)
 rename_i b1 H1 p1 g1 x1 bq Hq pq gq xq
 have tq:Xt H Hq:=⟨by omega,fun b hb=>by rw[xq b (by omega),x1 b (by omega)]⟩
 have g1q:=(xq b1 (by omega)).trans g1
 have fq:=zhd1 tq
 clear x1 xq g1 tq
 refine W_turn bXs_10.eq_1 ?_
 repeat (with_reducible first|(first|refine pI1 ?_|refine pS1 ?_);intros|refine pA1 ?_|refine pX1 ?_|refine pB1 ?_|exact True.intro)
 refine outM_call (fin0 _ fun h _ _ _ _=>fq _ fun t=>h Hq t) ?_
 rintro v H2 ⟨⟨l2,x2⟩,hv⟩
 have g12:=(x2 b1 (by omega)).trans g1q
 have gq2:=(x2 bq (by omega)).trans gq
 have t2:Xt H H2:=fq _ fun t=>⟨by have:=t.1;omega,fun b hb=>by rw[x2 b (by have:=t.1;omega)];exact t.2 b hb⟩
 have f2:=zhd1 t2
 clear x2 t2 g1q gq fq
 rcases hv with ⟨hne,rfl⟩|⟨rfl,p0,e0,rfl,w1,w2,w3,w4,hb0⟩
 ·repeat (with_reducible first|(first|refine pI1 ?_|refine pS1 ?_);intros|refine pA1 ?_|refine pX1 ?_|refine pB1 ?_|exact True.intro)
  exact⟨f2 _ fun t=>t,.inl ⟨hne,rfl⟩⟩
 have fb0:=zhd1 hb0
 clear hb0
 repeat (with_reducible first|(first|refine pI1 ?_|refine pS1 ?_);intros|refine pA1 ?_|refine pX1 ?_|refine pB1 ?_|exact True.intro)
 rename_i H3 l3 g3 x3
 have g13:=(x3 b1 (by omega)).trans g12
 have t3:Xt H H3:=f2 _ fun t=>⟨by have:=t.1;omega,fun b hb=>by rw[x3 b (by have:=t.1;omega)];exact t.2 b hb⟩
 have hb3:BusM H3 p0 (some (e0,0)) n true ws 0 0:=fb0 _ fun h=>h.keep fun b hb=>x3 b (by rcases hb with rfl|⟨x,e⟩;omega;cases e;omega)
 have f3:=zhd2 t3 hb3
 clear x3 t3 g12 gq2 f2 hb3 fb0
 refine W_turn bXs_10.eq_1 ?_
 repeat (with_reducible first|(first|refine pI1 ?_|refine pS1 ?_);intros|refine pA1 ?_|refine pX1 ?_|refine pB1 ?_|exact True.intro)
 refine outM_call (fin0 _ fun h _ _ _ _=>f3 _ fun t _=>h H3 t) ?_
 rintro v H4 ⟨⟨l4,x4⟩,⟨hne,-⟩|⟨-,p1,e1,rfl,w5,w6,w7,w8,hb1⟩⟩
 ·exact absurd rfl hne
 have g14:=(x4 b1 (by omega)).trans g13
 have gq4:=(x4 bq (by omega)).trans g3
 have hb4:BusM H4 p0 (some (e0,0)) n true ws 0 0:=f3 _ fun _ h=>h.keep fun b hb=>x4 b (by rcases hb with rfl|⟨x,e⟩;omega;cases e;omega)
 have t4:Xt H H4:=f3 _ fun t _=>⟨by have:=t.1;omega,fun b hb=>by rw[x4 b (by have:=t.1;omega)];exact t.2 b hb⟩
 have f4:=zhd3 t4 hb4 hb1
 clear x4 t4 hb4 hb1 g13 g3 f3
 repeat (with_reducible first|(first|refine pI1 ?_|refine pS1 ?_);intros|refine pA1 ?_|refine pX1 ?_|refine pB1 ?_|exact True.intro)
 rename_i H5 l5 g5 x5
 have g15:=(x5 b1 (by omega)).trans g14
 have t5:Xt H H5:=f4 _ fun t _ _=>⟨by have:=t.1;omega,fun b hb=>by rw[x5 b (by have:=t.1;omega)];exact t.2 b hb⟩
 have hb05:BusM H5 p0 (some (e0,0)) n true ws 0 0:=f4 _ fun _ h _=>h.keep fun b hb=>x5 b (by rcases hb with rfl|⟨x,e⟩;omega;cases e;omega)
 have hb15:BusM H5 p1 (some (e1,0)) n true ws 0 0:=f4 _ fun _ _ h=>h.keep fun b hb=>x5 b (by rcases hb with rfl|⟨x,e⟩;omega;cases e;omega)
 obtain⟨hnd,n4,n16,hws⟩:=fin0 _ fun _ h _ _ _=>h rfl
 rw[hnd] at hf0
 have hown5:Sl H5 1 h.a1 n (nums ws):=fin0 _ fun _ _ hown hownN _=>hown.keep fun b x e=>t5.2 b (by have:=hownN b x e;omega)
 have f5:=zhd5 t5 hb05 hb15 hown5 hws
 clear x5 t5 hb05 hb15 hown5 hws g14 gq4 f4 hnd
 refine W_turn bXs_10.eq_1 ?_
 repeat (with_reducible first|(first|refine pI1 ?_|refine pS1 ?_);intros|refine pA1 ?_|refine pX1 ?_|refine pB1 ?_|exact True.intro)
 rename_i b6 H6 p6 g6 x6
 have g16:=(x6 b1 (by omega)).trans g15
 have gq6:=(x6 bq (by omega)).trans g5
 have hown6:Sl H6 1 h.a1 n (nums ws):=f5 _ fun _ _ _ h _=>h.to fun b hb=>x6 b (by omega)
 have fx6:=zhd1 x6
 clear x6 g15 g5
 refine outM_appA (Gr.empty g6 (Nat.le_refl b6)) (by omega) hown6 (by omega) ?_
 intro a7 o7 H7 hg7 l7 x7 y7
 rw[Nat.zero_add,List.nil_append] at hg7
 have x7':∀b,b<H5.length→H7[b]?=H5[b]?:=fun b hb=>by rw[x7 b (by omega)];exact fx6 _ fun x=>x b (by omega)
 have g17:=(x7 b1 (by omega)).trans g16
 have gq7:=(x7 bq (by omega)).trans gq6
 have f7:=zhd2 x7' hg7
 have ha7:∀b x,a7=some (b,x)→H5.length≤b:=fun b x e=>by have:=hg7.lt _ e;omega
 clear x7 y7 hg7 x7' g16 gq6 hown6
 repeat (with_reducible first|(first|refine pI1 ?_|refine pS1 ?_);intros|refine pA1 ?_|refine pX1 ?_|refine pB1 ?_|exact True.intro)
 rename_i H8 l8 g8 x8
 obtain⟨K,hK⟩:∃K,K=[Cell.int .i64 (n:Nat),.sl a7 n n o7,.int .i64 0,.int .i64 0,.int .i64 0,.int .i64 0,.int .i64 0,.int .i64 0,.sl none 0 0 false,.sl none 0 0 false,.sl none 0 0 false,.sl none 0 0 false]:=⟨_,rfl⟩
 have x8':∀b,b≠bq→H8[b]?=H7[b]?:=fun b hb=>x8 b hb
 have g8':H8[bq]?=some (.cells (put ((Z94.set 12 (.ptr (some (p0,0)))).set 13 (.ptr (some (p1,0)))) 0 K) false none):=by rw[hK];exact g8
 have f8:=zhd2 x8' g8'
 clear x8 x8' g8 g8' g17 gq7
 repeat (with_reducible first|(first|refine pI1 ?_|refine pS1 ?_);intros|refine pA1 ?_|refine pX1 ?_|refine pB1 ?_|exact True.intro)
 have hl94:((Z94.set 12 (.ptr (some (p0,0)))).set 13 (.ptr (some (p1,0)))).length=94:=by rw[List.length_set,List.length_set];rfl
 have hKl:K.length=12:=by rw[hK];rfl
 have hat:=put_at (C:=((Z94.set 12 (.ptr (some (p0,0)))).set 13 (.ptr (some (p1,0))))) hKl (by omega)
 have hx85:∀b,b<H5.length→b≠bq→H8[b]?=H5[b]?:=fun b hb hb2=>by rw[f8 _ fun x _=>x b hb2];exact f7 _ fun x _=>x b hb
 have hpr:PrC K p0 p1 z80 (put ((Z94.set 12 (.ptr (some (p0,0)))).set 13 (.ptr (some (p1,0)))) 0 K):=by
  refine⟨by rw[put_length];exact hl94,?_,hKl,?_,?_,rfl,fun k hk=>?_⟩
  ·unfold sub
   rw[if_pos (by rw[put_length,hl94];omega)]
   congr 1
   apply List.ext_getElem?
   intro i
   rw[List.getElem?_take,List.drop_zero]
   by_cases hi:i<12
   ·rw[if_pos hi,hat,if_pos hi]
   ·rw[if_neg hi,List.getElem?_eq_none (by omega)]
  ·rw[hat,if_neg (by omega),List.getElem?_set_ne (by omega),List.getElem?_set_self (by rw[Z94_len];omega)]
  ·rw[hat,if_neg (by omega),List.getElem?_set_self (by rw[List.length_set,Z94_len];omega)]
  ·rw[hat,if_neg (by omega),List.getElem?_set_ne (by omega),List.getElem?_set_ne (by omega)];exact Z94_at hk
 have hlen5:H.length≤Hq.length∧H.length≤bq:=by omega
 have hbk:∀b,BlkP bq ⟨K,n,a7,n,o7,ws,p0,e0,p1,e1⟩ b→H.length≤b:=fun b hb=>by
  rcases hb with e|e|e|e|e|⟨x,e⟩
  ·omega
  ·have e:b=p0:=e
   omega
  ·have e:b=p1:=e
   omega
  ·have e:b=e0:=e
   omega
  ·have e:b=e1:=e
   omega
  ·have:=ha7 b x e
   omega
 refine⟨⟨by omega,fun b hb=>by rw[hx85 b (by omega) (by omega)];exact f5 _ fun t _ _ _ _=>t.2 b hb⟩,.inr ⟨rfl,bq,⟨K,n,a7,n,o7,ws,p0,e0,p1,e1⟩,rfl,hbk,?_,rfl,?_⟩⟩
 ·exact⟨by rw[hK];rfl,by rw[hK];rfl,fin0 _ fun _ _ _ _ h=>h,n4,n16,f5 _ fun _ _ _ _ h=>h,by show p0≠p1;omega,by show e0≠p1;omega,by show e1≠p0;omega,fun b x e=>by have:=ha7 b x e;show b≠p0∧b≠p1;omega⟩
 ·refine⟨⟨_,f8 _ fun _ g=>g,hpr⟩,?_,?_,?_,by show bq≠p0;omega,by show bq≠p1;omega,by show bq≠e0;omega,by show bq≠e1;omega,fun b x e=>by have:=ha7 b x e;omega⟩
  ·exact f7 _ fun _ hg=>hg.sl.keep fun b x e=>f8 _ fun x8 _=>x8 b (by have:=ha7 b x e;omega)
  ·exact f5 _ fun _ h _ _ _=>h.keep fun b hb=>hx85 b (by rcases hb with rfl|⟨x,e⟩;omega;cases e;omega) (by rcases hb with rfl|⟨x,e⟩;omega;cases e;omega)
  ·exact f5 _ fun _ _ h _ _=>h.keep fun b hb=>hx85 b (by rcases hb with rfl|⟨x,e⟩;omega;cases e;omega) (by rcases hb with rfl|⟨x,e⟩;omega;cases e;omega)
theorem PairM.subT {H H':Heap} {q:Nat} {P:Pr} {N:Cn} (h:PairM H q P N) (hx:∀b,BlkP q P b→H'[b]?=H[b]?):PairM H' q P N:=by
 obtain⟨C,g,hC⟩:=h.cells
 exact⟨⟨C,by rw[hx q (.inl rfl)];exact g,hC⟩,h.owners.keep fun b x e=>hx b (.inr (.inr (.inr (.inr (.inr ⟨x,e⟩))))),
  h.b0.keep fun b hb=>hx b (by rcases hb with rfl|⟨x,e⟩;exact .inr (.inl rfl);cases e;exact .inr (.inr (.inr (.inl rfl)))),
  h.b1.keep fun b hb=>hx b (by rcases hb with rfl|⟨x,e⟩;exact .inr (.inr (.inl rfl));cases e;exact .inr (.inr (.inr (.inr (.inl rfl))))),h.q0,h.q1,h.q2,h.q3,h.q4⟩
theorem PairM.ltT {H:Heap} {q:Nat} {P:Pr} {N:Cn} (h:PairM H q P N):∀b,BlkP q P b→b<H.length:=by
 obtain⟨C,g,hC⟩:=h.cells
 rintro b (rfl|rfl|rfl|rfl|rfl|⟨x,e⟩)
 ·exact lt_of_get g
 ·exact lt_of_get h.b0.1
 ·exact lt_of_get h.b1.1
 ·exact h.b0.2.1.lt (b:=P.e0) (x:=0) rfl
 ·exact h.b1.2.1.lt (b:=P.e1) (x:=0) rfl
 ·exact h.owners.lt e
structure Tw (M:Nat) (H:Heap) (q r:Nat) (P R:Pr) (N K:Cn) (B:Nat):Prop where
 pm:PairM H q P N
 rm:PairM H r R K
 po:PrOk P
 ro:PrOk R
 hw:R.ws=P.ws
 mp:∀b,BlkP q P b→M≤b
 mr:∀b,BlkP r R b→M≤b
 sp:∀b,BlkP q P b→¬BlkP r R b
 tn:TnR N K
 c0:∀k,k<80→0≤gn N.cnt k∧gn N.cnt k≤(B:Int)
 c1:∀k,k<80→0≤gn K.cnt k∧gn K.cnt k≤(B:Int)
theorem Tw.xt {M:Nat} {H H':Heap} {q r:Nat} {P R:Pr} {N K:Cn} {B:Nat} (h:Tw M H q r P R N K B) (x:∀b,b<H.length→H'[b]?=H[b]?):Tw M H' q r P R N K B:=
 { h with pm:=h.pm.keepX x,rm:=h.rm.keepX x }
theorem BlkP.q (q:Nat) (P:Pr):BlkP q P q:=.inl rfl
theorem BlkP.p0 (q:Nat) (P:Pr):BlkP q P P.p0:=.inr (.inl rfl)
theorem BlkP.p1 (q:Nat) (P:Pr):BlkP q P P.p1:=.inr (.inr (.inl rfl))
theorem Tw.nn {M:Nat} {H:Heap} {q r:Nat} {P R:Pr} {N K:Cn} {B:Nat} (h:Tw M H q r P R N K B):R.n=P.n:=by rw[←h.po.hn,←h.ro.hn,h.hw]
theorem cnt_step {N:Cn} {P:Pr} {x:Slt} {B:Nat} (ho:PrOk P) (hl:N.cnt.length=80) (h:∀k,k<80→0≤gn N.cnt k∧gn N.cnt k≤(B:Int)) (k:Nat) (hk:k<80):0≤gn (N.step x P.ws).cnt k∧gn (N.step x P.ws).cnt k≤((B+16:Nat):Int):=by
 have:=cntS_in (ow:=(x.ow P.ws).toNat) (v:=x.vN P.ws) (by rw[hl];exact hk) (h k hk) P.ws.length
 have hn:=ho.hn
 have h16:=ho.n16
 show 0≤gn (cntS (x.ow P.ws).toNat (x.vN P.ws) N.cnt P.ws.length) k∧gn (cntS (x.ow P.ws).toNat (x.vN P.ws) N.cnt P.ws.length) k≤((B+16:Nat):Int)
 omega
theorem Tw.step {M:Nat} {H H1 H2:Heap} {q r:Nat} {P R:Pr} {N K:Cn} {B:Nat} {x:Slt} (h:Tw M H q r P R N K B) (h1:PairM H1 q P (N.step x P.ws)) (l1:H.length≤H1.length)
  (h2:PairM H2 r R (K.step x.tn P.ws)) (x2:∀b,b<H1.length→b≠r→b≠R.p0→b≠R.p1→H2[b]?=H1[b]?):Tw M H2 q r P R (N.step x P.ws) (K.step x.tn P.ws) (B+16):=
 { h with
  pm:=h1.subT fun b hb=>x2 b (by have:=h.pm.ltT b hb;omega) (fun e=>h.sp b hb (e ▸ BlkP.q r R)) (fun e=>h.sp b hb (e ▸ BlkP.p0 r R)) (fun e=>h.sp b hb (e ▸ BlkP.p1 r R))
  rm:=h2
  tn:=h.tn.step x P.ws
  c0:=cnt_step h.po h.tn.l0 h.c0
  c1:=by rw[←h.hw];exact cnt_step h.ro h.tn.l1 h.c1 }
def othC:List Cell:=[.int .i64 0,.int .i64 2,.int .i64 1,.int .i64 3,.int .i64 4]
theorem othC_at {v:Nat} (h:v≤4):othC[v]?=some (.int .i64 (oth v:Nat)):=by
 have:v=0∨v=1∨v=2∨v=3∨v=4:=by omega
 rcases this with rfl|rfl|rfl|rfl|rfl<;>rfl
theorem othC_len:othC.length=5:=rfl
theorem turned_counts {ρ:Nat→V} {M:Nat} {H:Heap} {q r b2 b10:Nat} {P R:Pr} {N K:Cn} {B:Nat} {C:List Cell} (hB:Tw M H q r P R N K B) (e2:ρ 2=.c (.ptr (some (b2,0)))) (e5:ρ 5=.c (.bool true)) (e6:ρ 6=.c (.ptr (some (q,0)))) (e8:ρ 8=.c (.ptr (some (r,0)))) (e10:ρ 10=.c (.ptr (some (b10,0))))
  (g2:H[b2]?=some (.cells C false none)) (h2:C[0]?=some (.int .i64 (P.n:Nat))) (g10:H[b10]?=some (.cells othC false none)):
  W F none (.seq (.ops oX17_26) (.block 4 (.loop bX17_35))) ⟨L 224 ρ,[],H⟩ fun e st=>e=.normal∧∃ρ',st=⟨L 224 ρ',[],H⟩∧ρ' 5=.c (.bool true)∧ρ' 6=.c (.ptr (some (q,0)))∧ρ' 8=.c (.ptr (some (r,0))):=by
 have n16:=hB.po.n16
 have hc1:=fun(n v:Nat) (h1:n<P.n) (h2:v≤4)=>by
  have:=s_Count (n:=(n:Nat)) (v:=(v:Nat)) hB.pm hB.po (by unfold i64;omega) (by unfold i64;omega)
  rw[if_pos (by omega),Int.toNat_natCast,Int.toNat_natCast] at this
  exact this
 have hc2:=fun(n v:Nat) (h1:n<P.n) (h2:v≤4)=>by
  have h3:=oth_lt h2
  have hn:=hB.nn
  have:=s_Count (n:=(n:Nat)) (v:=(oth v:Nat)) hB.rm hB.ro (by unfold i64;omega) (by unfold i64;omega)
  rw[if_pos (by omega),Int.toNat_natCast,Int.toNat_natCast,hB.tn.cnt n v (by omega) h2] at this
  exact this
 have fin0:=zhd2 hc1 hc2
 clear hB hc1 hc2
 generalize P.n=m at *
 have ho:=fun(v:Nat) (h:v≤4)=>othC_at h
 have fo:=zhd1 ho
 clear ho
 have hol:=othC_len
 generalize othC=OC at *
 repeat (with_reducible first|(first|refine pI1 ?_|refine pS1 ?_);intros|refine pA1 ?_|refine pX1 ?_|refine pB1 ?_|exact True.intro)
 refine W_loop (fun mm st=>∃ρ,∃a:Nat,st=⟨L 224 ρ,[],H⟩∧mm=m-a∧a≤m∧ρ 2=.c (.ptr (some (b2,0)))∧ρ 5=.c (.bool true)∧ρ 6=.c (.ptr (some (q,0)))∧ρ 8=.c (.ptr (some (r,0)))∧ρ 10=.c (.ptr (some (b10,0)))∧ρ 20=.c (.int .i64 (a:Nat))) m ⟨_,0,rfl,rfl,by omega,zf,zf,zf,zf,zf,zf⟩ ?_
 clear e2 e5 e6 e8 e10
 rintro mm st ⟨ρ,a,rfl,rfl,ha,e2,e5,e6,e8,e10,e20⟩
 unfold bX17_35
 by_cases hin:a<m
 case neg=>
  obtain rfl:a=m:=by omega
  have hxt:¬(a:Int)<(a:Int):=by omega
  repeat (with_reducible first|(first|refine pI1 ?_|refine pS1 ?_);intros|refine pA1 ?_|refine pX1 ?_|refine pB1 ?_|exact True.intro)
  exact⟨rfl,_,rfl,zf,zf,zf⟩
 have hxt:(a:Int)<(m:Int):=by omega
 repeat (with_reducible first|(first|refine pI1 ?_|refine pS1 ?_);intros|refine pA1 ?_|refine pX1 ?_|refine pB1 ?_|exact True.intro)
 refine W_loop (fun mm st=>∃ρ,∃b:Nat,st=⟨L 224 ρ,[],H⟩∧mm=5-b∧b≤5∧ρ 2=.c (.ptr (some (b2,0)))∧ρ 5=.c (.bool true)∧ρ 6=.c (.ptr (some (q,0)))∧ρ 8=.c (.ptr (some (r,0)))∧ρ 10=.c (.ptr (some (b10,0)))∧ρ 20=.c (.int .i64 (a:Nat))∧ρ 21=.c (.int .i64 (b:Nat))) 5 ⟨_,0,rfl,rfl,by omega,zf,zf,zf,zf,zf,zf,zf⟩ ?_
 clear e2 e5 e6 e8 e10 e20
 rintro mm st ⟨ρ,b,rfl,rfl,hb,e2,e5,e6,e8,e10,e20,e21⟩
 unfold bX17_33
 by_cases hbn:b<5
 case neg=>
  have hxt2:¬(b:Int)≤4:=by omega
  repeat (with_reducible first|(first|refine pI1 ?_|refine pS1 ?_);intros|refine pA1 ?_|refine pX1 ?_|refine pB1 ?_|exact True.intro)
  exact loopQ_n (m-(a+1)) (by omega) ⟨_,a+1,rfl,rfl,by omega,zf,zf,zf,zf,zf,zf⟩
 have hxt2:(b:Int)≤4:=by omega
 have hob:=fo _ fun h=>h b (by omega)
 have hc1:=fin0 _ fun h _=>h a b hin (by omega)
 have hc2:=fin0 _ fun _ h=>h a b hin (by omega)
 generalize oth b=ob at *
 generalize gn N.cnt (a * 5+b)=w at *
 repeat (with_reducible first|(first|refine pI1 ?_|refine pS1 ?_);intros|refine pA1 ?_|refine pX1 ?_|refine pB1 ?_|exact True.intro)
 refine outM_call hc1 ?_
 rintro _ H ⟨rfl,rfl⟩
 repeat (with_reducible first|(first|refine pI1 ?_|refine pS1 ?_);intros|refine pA1 ?_|refine pX1 ?_|refine pB1 ?_|exact True.intro)
 refine outM_call hc2 ?_
 rintro _ H ⟨rfl,rfl⟩
 repeat (with_reducible first|(first|refine pI1 ?_|refine pS1 ?_);intros|refine pA1 ?_|refine pX1 ?_|refine pB1 ?_|exact True.intro)
 exact loopQ_n (5-(b+1)) (by omega) ⟨_,b+1,rfl,rfl,by omega,zf,zf,zf,zf,zf,zf,zf⟩
end Go.Proofs.YtjcgdcadflplcaaDoor.AM.D21
namespace Go.Proofs.YtjcgdcadflplcaaDoor.AM.D21
open Go Go.Proofs.YtjcgdcadflplcaaDoor.AM Go.Proofs.YtjcgdcadflplcaaDoor.AM.C02 Go.Proofs.YtjcgdcadflplcaaDoor.AM.C07 Go.Proofs.YtjcgdcadflplcaaDoor.AM.C21 Go.Proofs.YtjcgdcadflplcaaDoor.AM.P3
set_option maxHeartbeats 2000000
set_option maxRecDepth 100000
attribute [local go_sem] tn_add1 tn_sub1 put_all' nums_len sub_all sub02
attribute [local go_sem 2000] zF_eq eqF neF zF_len
theorem vv_gn (x:Slt) (ws:List Int) {j n:Nat} (h:j<n):gn (x.vv ws n) j=((x.vN ws j:Nat):Int):=by
 unfold gn Slt.vv
 rw[List.getD_eq_getElem?_getD,List.getElem?_map,List.getElem?_range h]
 exact(vf_v x ws j).1
theorem turned_frames {ρ:Nat→V} {H:Heap} {x:Slt} {ws:List Int} {n m i q r b2 b10 tb ty cc:Nat} {oo fo vo go wo:Bool} {fa va ga wa:Option Ad} (s13:Sl H 67 fa n (x.fr ws n)) (s14:Sl H 1 va n (nums (x.vv ws n))) (s16:Sl H 67 ga n (x.fr ws n)) (s17:Sl H 1 wa n (nums (x.tn.vv ws n))) (hn:n≤100000)
  (g10:H[b10]?=some (.cells othC false none))
  (e1:ρ 1=.c (.sl (some (tb,ty)) m cc oo)) (e2:ρ 2=.c (.ptr (some (b2,0)))) (e5:ρ 5=.c (.bool true)) (e6:ρ 6=.c (.ptr (some (q,0)))) (e8:ρ 8=.c (.ptr (some (r,0)))) (e10:ρ 10=.c (.ptr (some (b10,0)))) (e62:ρ 62=.c (.int .i64 (m:Nat))) (e63:ρ 63=.c (.int .i64 (i:Nat)))
  (e13:ρ 13=.c (.sl fa n n fo)) (e14:ρ 14=.c (.sl va n n vo)) (e16:ρ 16=.c (.sl ga n n go)) (e17:ρ 17=.c (.sl wa n n wo)):
  W F none (.seq (.ops oX17_17) (.block 2 (.loop bX17_23))) ⟨L 224 ρ,[],H⟩ fun e st=>e=.normal∧∃ρ',st=⟨L 224 ρ',[],H⟩∧ρ' 1=.c (.sl (some (tb,ty)) m cc oo)∧ρ' 2=.c (.ptr (some (b2,0)))∧ρ' 5=.c (.bool true)∧ρ' 6=.c (.ptr (some (q,0)))∧ρ' 8=.c (.ptr (some (r,0)))∧ρ' 10=.c (.ptr (some (b10,0)))∧ρ' 62=.c (.int .i64 (m:Nat))∧ρ' 63=.c (.int .i64 (i:Nat)):=by
 have hrow:=fun(i:Nat) (hi:i<n)=>fr_row (x:=x) (ws:=ws) hi
 have hsh:=vf_sh x ws
 have hv:=fun(j:Nat) (hj:j<n)=>vv_gn x ws hj
 have hw:=fun(j:Nat) (hj:j<n)=>vv_gn x.tn ws hj
 have hv4:=fun j=>(vf_v x ws j).2
 have ho:=fun(j:Nat)=>othC_at (hv4 j)
 have hwt:=tn_vN x ws
 have lv:=vv_len x ws n
 have lw:=vv_len x.tn ws n
 have fin0:=zhd13 s13 s14 s16 s17 hrow hsh hv hw hv4 ho hwt lv lw
 clear s13 s14 s16 s17 hrow hsh hv hw hv4 ho hwt lv lw
 have hol:=othC_len
 generalize othC=OC at *
 repeat (with_reducible first|(first|refine pI1 ?_|refine pS1 ?_);intros|refine pA1 ?_|refine pX1 ?_|refine pB1 ?_|exact True.intro)
 refine W_loop (fun mm st=>∃ρ,∃j:Nat,st=⟨L 224 ρ,[],H⟩∧mm=n-j∧j≤n∧ρ 1=.c (.sl (some (tb,ty)) m cc oo)∧ρ 2=.c (.ptr (some (b2,0)))∧ρ 5=.c (.bool true)∧ρ 6=.c (.ptr (some (q,0)))∧ρ 8=.c (.ptr (some (r,0)))∧ρ 10=.c (.ptr (some (b10,0)))∧ρ 62=.c (.int .i64 (m:Nat))∧ρ 63=.c (.int .i64 (i:Nat))∧ρ 13=.c (.sl fa n n fo)∧ρ 14=.c (.sl va n n vo)∧ρ 16=.c (.sl ga n n go)∧ρ 17=.c (.sl wa n n wo)∧ρ 133=.c (.int .i64 (n:Nat))∧ρ 134=.c (.int .i64 (j:Nat))) n
  ⟨_,0,rfl,rfl,by omega,zf,zf,zf,zf,zf,zf,zf,zf,zf,zf,zf,zf,zf,zf⟩ ?_
 clear e1 e2 e5 e6 e8 e10 e62 e63 e13 e14 e16 e17
 rintro mm st ⟨ρ,j,rfl,rfl,hj,e1,e2,e5,e6,e8,e10,e62,e63,e13,e14,e16,e17,e133,e134⟩
 unfold bX17_23
 by_cases hin:j<n
 case neg=>
  obtain rfl:j=n:=by omega
  have hxt:¬(j:Int)<(j:Int):=by omega
  repeat (with_reducible first|(first|refine pI1 ?_|refine pS1 ?_);intros|refine pA1 ?_|refine pX1 ?_|refine pB1 ?_|exact True.intro)
  exact⟨rfl,_,rfl,zf,zf,zf,zf,zf,zf,zf,zf⟩
 have hxt:(j:Int)<(n:Int):=by omega
 obtain⟨⟨fb,fy⟩,rfl⟩:=fin0 _ fun h _ _ _ _ _ _ _ _ _ _ _ _=>h.is_some (by omega)
 obtain⟨⟨vb,vy⟩,rfl⟩:=fin0 _ fun _ h _ _ _ _ _ _ _ _ _ _ _=>h.is_some (by omega)
 obtain⟨⟨gb,gy⟩,rfl⟩:=fin0 _ fun _ _ h _ _ _ _ _ _ _ _ _ _=>h.is_some (by omega)
 obtain⟨⟨wb,wy⟩,rfl⟩:=fin0 _ fun _ _ _ h _ _ _ _ _ _ _ _ _=>h.is_some (by omega)
 have d1:=fin0 _ fun s13 _ _ _ hr _ _ _ _ _ _ _ _=>Sl.row s13 hin (hr j hin)
 have d2:=fin0 _ fun _ s14 _ _ _ _ _ _ _ _ _ l _=>s14.gn l hin
 have d3:=fin0 _ fun _ _ s16 _ hr _ _ _ _ _ _ _ _=>Sl.row s16 hin (hr j hin)
 have d4:=fin0 _ fun _ _ _ s17 _ _ _ _ _ _ _ _ l=>s17.gn l hin
 rw[fin0 _ fun _ _ _ _ _ _ hv _ _ _ _ _ _=>hv j hin] at d2
 rw[fin0 _ fun _ _ _ _ _ _ _ hw _ _ _ _ _=>hw j hin,fin0 _ fun _ _ _ _ _ _ _ _ _ _ h _ _=>h j] at d4
 have h4:=fin0 _ fun _ _ _ _ _ _ _ _ h _ _ _ _=>h j
 have ho:=fin0 _ fun _ _ _ _ _ _ _ _ _ h _ _ _=>h j
 have hs:=fin0 _ fun _ _ _ _ _ h _ _ _ _ _ _ _=>h j
 dsimp only at d1 d2 d3 d4
 generalize x.vN ws j=w at *
 generalize oth w=ow at *
 generalize (x.vf ws j).1=FM at *
 have hq:=neF hs hs
 rw[decide_eq_false (fun h=>h rfl)] at hq
 clear hs
 repeat (with_reducible first|(first|refine pI1 ?_|refine pS1 ?_);intros|refine pA1 ?_|refine pX1 ?_|refine pB1 ?_|exact True.intro)
 exact loopQ_n (n-(j+1)) (by omega) ⟨_,j+1,rfl,rfl,by omega,zf,zf,zf,zf,zf,zf,zf,zf,zf,zf,zf,zf,zf,zf⟩
end Go.Proofs.YtjcgdcadflplcaaDoor.AM.D21
namespace Go.Proofs.YtjcgdcadflplcaaDoor.AM.D21
open Go Go.Proofs.YtjcgdcadflplcaaDoor.AM Go.Proofs.YtjcgdcadflplcaaDoor.AM.C02 Go.Proofs.YtjcgdcadflplcaaDoor.AM.C07 Go.Proofs.YtjcgdcadflplcaaDoor.AM.C21 Go.Proofs.YtjcgdcadflplcaaDoor.AM.P3
set_option maxHeartbeats 2000000
set_option maxRecDepth 100000
attribute [local go_sem] tn_add1 tn_sub1 put_all' nums_len sub_all sub02
theorem s7t_1 (a b c d e f g:Cell):sub [a,b,c,d,e,f,g] 1 2=some [b,c]:=rfl
theorem s7t_3 (a b c d e f g:Cell):sub [a,b,c,d,e,f,g] 3 2=some [d,e]:=rfl
theorem s7t_5 (a b c d e f g:Cell):sub [a,b,c,d,e,f,g] 5 2=some [f,g]:=rfl
attribute [local go_sem] s7t_1 s7t_3 s7t_5
theorem SltM.tn {M:Nat} {H:Heap} {x:Slt} {x0 x1 y0 y1:Option Ad} (h:SltM M H x x0 x1 y0 y1):SltM M H x.tn x1 x0 y1 y0:=⟨h.s1,h.s0,h.c1,h.c0,h.d1,h.d0⟩
theorem SltOk.tn {x:Slt} (h:SltOk x):SltOk x.tn:=⟨h.sl,h.mem,h.b1,h.b0,h.n1,h.n0,h.k1,h.k0⟩
def FzT (H H':Heap) (q r:Nat) (P R:Pr):Prop:=∀b,b<H.length→¬BlkP q P b→¬BlkP r R b→H'[b]?=H[b]?
theorem turned_turn {ρ:Nat→V} {M:Nat} {H:Heap} {q r b2 b10 b12:Nat} {P R:Pr} {N K:Cn} {B:Nat} {x:Slt} {slot:Int} {x0 x1 y0 y1:Option Ad} {d0 d1 f0 f1 n i tb ty cc:Nat} {oo:Bool} (hB:Tw M H q r P R N K B) (hBB:B≤900000) (hM0:0<M) (hML:M≤H.length) (hT:H[0]?=some nibB) (hx:SltM M H x x0 x1 y0 y1) (hk:0≤slot→SltOk x) (hsl:0≤slot→slot=(x.slot:Nat))
  (g12:H[b12]?=some (.cells [.int .i64 slot,.int .i64 x.ss,.int .u16 (x.mem:Nat),.sl x0 x.l0.length d0 false,.sl x1 x.l1.length d1 false,.sl y0 x.k0.length f0 false,.sl y1 x.k1.length f1 false] false none)) (hs:¬BlkP q P b12∧¬BlkP r R b12)
  (g10:H[b10]?=some (.cells othC false none)) (hs10:¬BlkP q P b10∧¬BlkP r R b10)
  (e1:ρ 1=.c (.sl (some (tb,ty)) n cc oo)) (e2:ρ 2=.c (.ptr (some (b2,0)))) (e5:ρ 5=.c (.bool true)) (e6:ρ 6=.c (.ptr (some (q,0)))) (e8:ρ 8=.c (.ptr (some (r,0)))) (e10:ρ 10=.c (.ptr (some (b10,0)))) (e12:ρ 12=.c (.ptr (some (b12,0)))) (e62:ρ 62=.c (.int .i64 (n:Nat))) (e63:ρ 63=.c (.int .i64 (i:Nat))):
  W F none (.seq (.ops oX17_13) (.seq (.ops oX17_14) (.seq (.seq (.ops oX17_15) (.cond (.t 131) (.seq (.ops oX17_16) .ret) .skip)) (.seq (.ops oX17_17) (.block 2 (.loop bX17_23)))))) ⟨L 224 ρ,[],H⟩ fun e st=>e=.normal∧∃ρ' H' N' K',st=⟨L 224 ρ',[],H'⟩∧(ρ' 1=.c (.sl (some (tb,ty)) n cc oo)∧ρ' 2=.c (.ptr (some (b2,0)))∧ρ' 5=.c (.bool true)∧ρ' 6=.c (.ptr (some (q,0)))∧ρ' 8=.c (.ptr (some (r,0)))∧ρ' 10=.c (.ptr (some (b10,0)))∧ρ' 62=.c (.int .i64 (n:Nat))∧ρ' 63=.c (.int .i64 (i:Nat)))∧H.length≤H'.length∧Tw M H' q r P R N' K' (B+16)∧FzT H H' q r P R:=by
 obtain⟨Y,hY⟩:∃Y,Y=IC.seq (.ops oX17_17) (.block 2 (.loop bX17_23)):=⟨_,rfl⟩
 rw[←hY]
 have fY:=zhd1 hY
 clear hY
 have hlt:=lt_of_get g12
 have hlt10:=lt_of_get g10
 by_cases h0:slot<0
 ·have hc1:=s_dStepN (S:=[.int .i64 x.ss,.int .u16 (x.mem:Nat)]) (X:=[.sl x0 x.l0.length d0 false,.sl x1 x.l1.length d1 false]) (Y:=[.sl y0 x.k0.length f0 false,.sl y1 x.k1.length f1 false]) hB.pm h0
  have hc2:=fun Hx (hx:∀b,b<H.length→Hx[b]?=H[b]?)=>s_dStepN (S:=[.int .i64 x.ss,.int .u16 (x.mem:Nat)]) (X:=[.sl x1 x.l1.length d1 false,.sl x0 x.l0.length d0 false]) (Y:=[.sl y1 x.k1.length f1 false,.sl y0 x.k0.length f0 false]) (hB.rm.keepX (H':=Hx) hx) h0
  have fin0:=zhd4 hB hc1 hc2 g10
  clear hB hc1 hc2 hk hsl hx hT g10
  repeat (with_reducible first|(first|refine pI1 ?_|refine pS1 ?_);intros|refine pA1 ?_|refine pX1 ?_|refine pB1 ?_|exact True.intro)
  refine outM_call (fin0 _ fun _ h _ _=>h) ?_
  rintro _ H1 ⟨rfl,l1,k1⟩
  have g111:=(k1 b12 (by omega)).trans g12
  have hc2:=fin0 _ fun _ _ h _=>h H1 k1
  have f1:=zhd2 k1 hc2
  clear k1 g12 hc2
  repeat (with_reducible first|(first|refine pI1 ?_|refine pS1 ?_);intros|refine pA1 ?_|refine pX1 ?_|refine pB1 ?_|exact True.intro)
  refine outM_call (f1 _ fun _ h=>h) ?_
  rintro _ H2 ⟨rfl,l2,k2⟩
  have f2:=zhd1 k2
  clear k2 g111
  repeat (with_reducible first|(first|refine pI1 ?_|refine pS1 ?_);intros|refine pA1 ?_|refine pX1 ?_|refine pB1 ?_|exact True.intro)
  have hx2:∀b,b<H.length→H2[b]?=H[b]?:=fun b hb=>by rw[f2 _ fun x=>x b (by omega)];exact f1 _ fun x _=>x b hb
  rw[fY _ fun h=>h]
  refine W.mono (turned_frames (x:=x) (ws:=P.ws) (fa:=none) (va:=none) (ga:=none) (wa:=none) (n:=0) (Sl.none _ _) (Sl.none _ _) (Sl.none _ _) (Sl.none _ _) (by omega) ((hx2 b10 hlt10).trans (fin0 _ fun _ _ _ g=>g)) zf zf zf zf zf zf zf zf zf zf zf zf) ?_
  rintro _ _ ⟨rfl,ρ',rfl,hr⟩
  have h':=fin0 _ fun hB _ _ _=>hB.xt (H':=H2) hx2
  exact⟨rfl,ρ',H2,N,K,rfl,hr,by omega,{ h' with c0:=fun k hk=>by have:=h'.c0 k hk;omega,c1:=fun k hk=>by have:=h'.c1 k hk;omega },fun b hb _ _=>hx2 b hb⟩
 have hk':=hk (by omega)
 clear hk
 have hsl':=hsl (by omega)
 clear hsl
 subst hsl'
 have hc1:=s_dStep (M:=M) (d0:=d0) (d1:=d1) (f0:=f0) (f1:=f1) (u0:=false) (u1:=false) (v0:=false) (v1:=false) hB.pm hB.po ⟨hB.mp _ (BlkP.q _ _),hB.mp _ (BlkP.p0 _ _),hB.mp _ (BlkP.p1 _ _)⟩ hML hT hM0 (fun k hk=>by have:=hB.c0 k hk;omega) hx hk'
 have hc2:∀(Hx:Heap),(∀b,b<M→Hx[b]?=H[b]?)→H.length≤Hx.length→PairM Hx r R K→WC F fXw [.c (.ptr (some (r,0))),.c (.int .i64 (x.slot:Nat)),.agg [.int .i64 x.ss,.int .u16 (x.mem:Nat)],.agg [.sl x1 x.l1.length d1 false,.sl x0 x.l0.length d0 false],.agg [.sl y1 x.k1.length f1 false,.sl y0 x.k0.length f0 false]] Hx fun v H'=>StepQ Hx r R K x.tn v H':=fun Hx h1 hl hr=>s_dStep (M:=M) (x:=x.tn) hr hB.ro ⟨hB.mr _ (BlkP.q _ _),hB.mr _ (BlkP.p0 _ _),hB.mr _ (BlkP.p1 _ _)⟩ (by omega) (by rw[h1 0 hM0];exact hT) hM0 (fun k hk=>by have:=hB.c1 k hk;omega) (hx.tn.keep h1) hk'.tn
 have hn:=hB.nn
 have hw:=hB.hw
 have h16:=hB.po.n16
 have fin0:=zhd6 hB hc1 hc2 hs hs10 g10
 obtain⟨hs,-⟩:=hs
 have k12:b12≠q∧b12≠P.p0∧b12≠P.p1:=⟨fun e=>hs (e ▸ BlkP.q _ _),fun e=>hs (e ▸ BlkP.p0 _ _),fun e=>hs (e ▸ BlkP.p1 _ _)⟩
 obtain⟨n12,m12,o12⟩:=k12
 have kM:M≤q∧M≤P.p0∧M≤P.p1:=⟨hB.mp _ (BlkP.q _ _),hB.mp _ (BlkP.p0 _ _),hB.mp _ (BlkP.p1 _ _)⟩
 obtain⟨kM0,kM1,kM2⟩:=kM
 clear hB hc1 hc2 hk' hx hT hs hs10 g10
 repeat (with_reducible first|(first|refine pI1 ?_|refine pS1 ?_);intros|refine pA1 ?_|refine pX1 ?_|refine pB1 ?_|exact True.intro)
 refine outM_call (fin0 _ fun _ h _ _ _ _=>h) ?_
 rintro _ H1 ⟨⟨fa,fo,va,vo,lo,rfl,k1,k2,k3,k4⟩,k5,k6,k7⟩
 have g111:=(k7 b12 (by omega) n12 m12 o12).trans g12
 have hr1:PairM H1 r R K:=fin0 _ fun hB _ _ _ _ _=>hB.rm.subT fun b hb=>k7 b (hB.rm.ltT b hb) (fun e=>hB.sp b (e ▸ BlkP.q _ _) hb) (fun e=>hB.sp b (e ▸ BlkP.p0 _ _) hb) (fun e=>hB.sp b (e ▸ BlkP.p1 _ _) hb)
 have hc2:=fin0 _ fun _ _ h _ _ _=>h H1 (fun b hb=>k7 b (by omega) (by omega) (by omega) (by omega)) k6 hr1
 have f1:=zhd5 k2 k3 k5 k7 hc2
 clear k2 k3 k4 k5 k7 hc2 hr1 g12
 repeat (with_reducible first|(first|refine pI1 ?_|refine pS1 ?_);intros|refine pA1 ?_|refine pX1 ?_|refine pB1 ?_|exact True.intro)
 refine outM_call (f1 _ fun _ _ _ _ h=>h) ?_
 rintro v H2 hq
 unfold StepQ at hq
 rw[hn,hw] at hq
 obtain⟨⟨ga,go,wa,wo,lo2,rfl,j1,j2,j3,j4⟩,j5,j6,j7⟩:=hq
 rw[tn_fr] at j2
 have hlr:=fin0 _ fun hB _ _ _ _ _=>(⟨hB.rm.ltT _ (BlkP.q _ _),hB.rm.ltT _ (BlkP.p0 _ _),hB.rm.ltT _ (BlkP.p1 _ _)⟩:r<H.length∧R.p0<H.length∧R.p1<H.length)
 have hsf:Sl H2 67 fa P.n (x.fr P.ws P.n):=f1 _ fun h _ _ _ _=>h.sl.keep fun b z e=>j7 b (h.lt _ e).2 (by have:=(h.lt _ e).1;omega) (by have:=(h.lt _ e).1;omega) (by have:=(h.lt _ e).1;omega)
 have hsv:Sl H2 1 va P.n (nums (x.vv P.ws P.n)):=f1 _ fun _ h _ _ _=>h.sl.keep fun b z e=>j7 b (h.lt _ e).2 (by have:=(h.lt _ e).1;omega) (by have:=(h.lt _ e).1;omega) (by have:=(h.lt _ e).1;omega)
 have hB2:Tw M H2 q r P R (N.step x P.ws) (K.step x.tn P.ws) (B+16):=fin0 _ fun hB _ _ _ _ _=>f1 _ fun _ _ h _ _=>hB.step h k6 j5 j7
 have hfz:FzT H H2 q r P R:=fun b hb n1 n2=>by
  rw[j7 b (by omega) (fun e=>n2 (e ▸ BlkP.q _ _)) (fun e=>n2 (e ▸ BlkP.p0 _ _)) (fun e=>n2 (e ▸ BlkP.p1 _ _))]
  exact f1 _ fun _ _ _ k7 _=>k7 b hb (fun e=>n1 (e ▸ BlkP.q _ _)) (fun e=>n1 (e ▸ BlkP.p0 _ _)) (fun e=>n1 (e ▸ BlkP.p1 _ _))
 have f2:=zhd6 hsf hsv j2.sl j3.sl hB2 hfz
 clear j2 j3 j4 j5 j7 hsf hsv g111 hB2 hfz
 repeat (with_reducible first|(first|refine pI1 ?_|refine pS1 ?_);intros|refine pA1 ?_|refine pX1 ?_|refine pB1 ?_|exact True.intro)
 rw[fY _ fun h=>h]
 refine W.mono (f2 _ fun s1 s2 s3 s4 _ hfz=>turned_frames (x:=x) (ws:=P.ws) (fa:=fa) (va:=va) (ga:=ga) (wa:=wa) (n:=P.n) s1 s2 s3 s4 (by omega) (fin0 _ fun _ _ _ _ h g=>(hfz b10 hlt10 h.1 h.2).trans g) zf zf zf zf zf zf zf zf zf zf zf zf) ?_
 rintro _ _ ⟨rfl,ρ',rfl,hr⟩
 exact⟨rfl,ρ',H2,_,_,rfl,hr,by omega,f2 _ fun _ _ _ _ h _=>h,f2 _ fun _ _ _ _ _ h=>h⟩
end Go.Proofs.YtjcgdcadflplcaaDoor.AM.D21
namespace Go.Proofs.YtjcgdcadflplcaaDoor.AM.D21
open Go Go.Proofs.YtjcgdcadflplcaaDoor.AM Go.Proofs.YtjcgdcadflplcaaDoor.AM.C02 Go.Proofs.YtjcgdcadflplcaaDoor.AM.C07 Go.Proofs.YtjcgdcadflplcaaDoor.AM.C21 Go.Proofs.YtjcgdcadflplcaaDoor.AM.P3
set_option maxHeartbeats 2000000
set_option maxRecDepth 100000
attribute [local go_sem] tn_add1 tn_sub1 put_all' nums_len sub_all sub02
def nib:List Int:=[0x00000000,0x1db71064,0x3b6e20c8,0x26d930ac,0x76dc4190,0x6b6b51f4,0x4db26158,0x5005713c,0xedb88320,0xf00f9344,0xd6d6a3e8,0xcb61b38c,0x9b64c2b0,0x86d3d2d4,0xa00ae278,0xbdbdf21c]
theorem tab {H:Heap} (h:Begins (tabs [(0,.u32,nib)]) H):H[0]?=some nibB:=h 0 _ rfl
theorem turned_law {H:Heap} {c:Cfg} {h:Hd} {a:Option Ad} {n cc:Nat} {oo:Bool} {l:List Op} (hT:H[0]?=some nibB) (hc:CfgM H.length H c h) (htw:TwinOk c) (ht:Tab 7 (OpR H.length) H.length H a l) (hn:l.length=n) (hnb:n≤1000000000) (hw:∀e∈l,wO e≤2000000):
  WC F fX17 [.agg (c.cells h),.c (.sl a n cc oo)] H fun v _=>v=.c (.bool true):=by
 refine WC_start eX17 (by simp) ?_
 unfold cX17
 have hgr:=fun(Hx:Heap) (hx:Xt H Hx)=>s_Great (hc.keep (H':=Hx) hx.2) hx.1 htw
 have hgl:=fun(Hx:Heap) (hx:Xt H Hx)=>s_great (c:=cc) (o:=oo) (ht.keep (H':=Hx) (fun e cs k=>by
  obtain⟨x0,d0,x1,d1,y0,f0,y1,f1,q1,q2,q3,q4,q5⟩:=k
  exact⟨x0,d0,x1,d1,y0,f0,y1,f1,q1,q2,q3,q4,q5.keep hx.2⟩) hx.2) hn hnb hw
 have hdn:=fun(Hx:Heap) (hx:Xt H Hx)=>s_dNewA (hc.keep (H':=Hx) hx.2) hx.1
 have hal:=fun(Hx:Heap) (hx:Xt H Hx)=>s_alive (H:=Hx) ((hx.2 0 (lt_of_get hT)).trans hT)
 have h0:=lt_of_get hT
 obtain⟨C,hC⟩:∃C,C=c.cells h:=⟨_,rfl⟩
 have hsub:sub C 0 12=some C:=by rw[hC];rfl
 have hC0:C[0]?=some (.int .i64 c.nodes):=by rw[hC];rfl
 have hlen:C.length=12:=by rw[hC];rfl
 have hp12:put (Cell.int .i64 0 :: Cell.sl none 0 0 false :: (List.replicate 6 (Cell.int .i64 0)++List.replicate 4 (Cell.sl none 0 0 false))) 0 C=C:=put_all' (by rw[hlen];rfl)
 rw[←hC] at hgr hdn ⊢
 have fin0:=zhd6 hgr hgl hdn hal ht hn
 clear hgr hgl hdn hal ht hn hC hw hc
 repeat (with_reducible first|(first|refine pI1 ?_|refine pS1 ?_);intros|refine pA1 ?_|refine pX1 ?_|refine pB1 ?_|exact True.intro)
 rename_i b2 H2 p2 g2 x2
 have t2:Xt H H2:=⟨by omega,fun b hb=>x2 b (by omega)⟩
 have f2:=zhd1 t2
 clear x2 t2
 refine outM_call (fin0 _ fun _ _ _ h _ _=>f2 _ fun t=>h H2 t) ?_
 rintro _ H3 ⟨rfl,l3,x3⟩
 have g3:=(x3 b2 (by omega)).trans g2
 have t3:Xt H H3:=f2 _ fun t=>⟨by have:=t.1;omega,fun b hb=>(x3 b (by have:=t.1;omega)).trans (t.2 b hb)⟩
 have f3:=zhd1 t3
 clear x3 t3 g2 f2
 repeat (with_reducible first|(first|refine pI1 ?_|refine pS1 ?_);intros|refine pA1 ?_|refine pX1 ?_|refine pB1 ?_|exact True.intro)
 refine outM_call (fin0 _ fun h _ _ _ _ _=>f3 _ fun t=>h H3 t) ?_
 rintro _ H4 ⟨⟨bg,rfl⟩,t4⟩
 have g4:=(t4.2 b2 (by omega)).trans g3
 have l4:=t4.1
 have t4':Xt H H4:=f3 _ fun t=>⟨by have:=t.1;omega,fun b hb=>(t4.2 b (by have:=t.1;omega)).trans (t.2 b hb)⟩
 have f4:=zhd1 t4'
 clear t4 t4' g3 f3
 cases bg with
 |true=>
  repeat (with_reducible first|(first|refine pI1 ?_|refine pS1 ?_);intros|refine pA1 ?_|refine pX1 ?_|refine pB1 ?_|exact True.intro)
  exact rfl
 |false=>
 repeat (with_reducible first|(first|refine pI1 ?_|refine pS1 ?_);intros|refine pA1 ?_|refine pX1 ?_|refine pB1 ?_|exact True.intro)
 refine outM_call (fin0 _ fun _ h _ _ _ _=>f4 _ fun t=>h H4 t) ?_
 rintro _ H4' ⟨rfl,bl,rfl,hsm⟩
 cases bl with
 |true=>
  repeat (with_reducible first|(first|refine pI1 ?_|refine pS1 ?_);intros|refine pA1 ?_|refine pX1 ?_|refine pB1 ?_|exact True.intro)
  exact rfl
 |false=>
 obtain⟨n40,hsm⟩:=hsm rfl
 have fsm:=zhd1 hsm
 clear hsm
 repeat (with_reducible first|(first|refine pI1 ?_|refine pS1 ?_);intros|refine pA1 ?_|refine pX1 ?_|refine pB1 ?_|exact True.intro)
 refine outM_call (fin0 _ fun _ _ h _ _ _=>f4 _ fun t=>h H4' t) ?_
 rintro v H5 ⟨t5,hv⟩
 have g5:=(t5.2 b2 (by omega)).trans g4
 have l5:=t5.1
 have t5':Xt H H5:=f4 _ fun t=>⟨by have:=t.1;omega,fun b hb=>(t5.2 b (by have:=t.1;omega)).trans (t.2 b hb)⟩
 have f5:=zhd2 t5' t5
 clear t5 t5' g4 f4
 rcases hv with ⟨hk,rfl⟩|⟨hk,q,P,rfl,hb1,hpo,hpw,hpm⟩
 ·repeat (with_reducible first|(first|refine pI1 ?_|refine pS1 ?_);intros|refine pA1 ?_|refine pX1 ?_|refine pB1 ?_|exact True.intro)
  refine outM_call (fin0 _ fun _ _ h _ _ _=>f5 _ fun t _=>h H5 t) ?_
  rintro _ H6 ⟨t6,⟨-,rfl⟩|⟨h0',-⟩⟩
  case inr=>exact absurd h0' hk
  clear t6 g5
  generalize c.check=k at *
  repeat (with_reducible first|(first|refine pI1 ?_|refine pS1 ?_);intros|refine pA1 ?_|refine pX1 ?_|refine pB1 ?_|exact True.intro)
  exact rfl
 have hcn:c.nodes=(c.owners.length:Nat):=by obtain⟨-,-,q3,-⟩:=(Cfg.check_ok.1 hk).nodes;omega
 have hPn:P.n=c.owners.length:=by rw[←hpo.hn,hpw]
 rw[hcn,←hPn] at hC0
 have fp:=zhd4 hb1 hpo hpw hpm
 clear hb1 hpo hpw hpm hcn hPn
 repeat (with_reducible first|(first|refine pI1 ?_|refine pS1 ?_);intros|refine pA1 ?_|refine pX1 ?_|refine pB1 ?_|exact True.intro)
 refine outM_call (fin0 _ fun _ _ h _ _ _=>f5 _ fun t _=>h H5 t) ?_
 rintro v H6 ⟨t6,⟨hk',-⟩|⟨-,r,R,rfl,hb2,hro,hrw,hrm⟩⟩
 case inl=>exact absurd hk hk'
 have g6:=(t6.2 b2 (by omega)).trans g5
 have l6:=t6.1
 have f6:=zhd5 t6 hb2 hro hrw hrm
 clear t6 hb2 hro hrw hrm g5 hk
 repeat (with_reducible first|(first|refine pI1 ?_|refine pS1 ?_);intros|refine pA1 ?_|refine pX1 ?_|refine pB1 ?_|exact True.intro)
 rename_i b10 H7 p7 g7 x7 H8 l8 g8 x8
 have hx8:∀b,b<H6.length→H8[b]?=H6[b]?:=fun b hb=>by rw[x8 b (by omega),x7 b (by omega)]
 have g28:=(hx8 b2 (by omega)).trans g6
 have g8':H8[b10]?=some (.cells othC false none):=g8
 have hxH:∀b,b<H.length→H8[b]?=H[b]?:=fun b hb=>by rw[hx8 b (by omega),f6 _ fun t _ _ _ _=>t.2 b (by omega)];exact f5 _ fun t _=>t.2 b hb
 have hB0:Tw H.length H8 q r P R ⟨0,0,0,0,z80⟩ ⟨0,0,0,0,z80⟩ 0:=fp _ fun hb1 hpo hpw hpm=>f6 _ fun t6 hb2 hro hrw hrm=>by
  refine⟨(hpm.keepX t6.2).keepX hx8,hrm.keepX hx8,hpo,hro,hrw.trans hpw.symm,fun b hb=>?_,fun b hb=>?_,fun b hb hb'=>?_,⟨rfl,rfl,rfl,rfl,fun k v _ _=>by show gn z80 _=gn z80 _;rw[z80_gn,z80_gn]⟩,fun k hk=>?_,fun k hk=>?_⟩
  ·have:=hb1 b hb;omega
  ·have:=hb2 b hb;omega
  ·have h1:=hpm.ltT b hb
   have h2:=hb2 b hb'
   omega
  ·show 0≤gn z80 k∧gn z80 k≤_
   rw[z80_gn];exact⟨Int.le_refl _,Int.le_refl _⟩
  ·show 0≤gn z80 k∧gn z80 k≤_
   rw[z80_gn];exact⟨Int.le_refl _,Int.le_refl _⟩
 have hnb2:¬BlkP q P b2∧¬BlkP r R b2:=⟨fun h=>fp _ fun hb1 _ _ _=>by have:=hb1 b2 h;omega,fun h=>f6 _ fun _ hb2 _ _ _=>by have:=hb2 b2 h;omega⟩
 have hnb10:¬BlkP q P b10∧¬BlkP r R b10:=⟨fun h=>fp _ fun _ _ _ hpm=>by have:=hpm.ltT b10 h;omega,fun h=>f6 _ fun _ _ _ _ hrm=>by have:=hrm.ltT b10 h;omega⟩
 have hb10:b10<H8.length:=lt_of_get g8'
 have f8:=zhd5 g28 g8' hxH hnb2 hnb10
 have hinit:Hid ((∀b,b<H8.length→¬BlkP q P b→¬BlkP r R b→H8[b]?=H8[b]?)∧Tw H.length H8 q r P R ⟨0,0,0,0,z80⟩ ⟨0,0,0,0,z80⟩ 0):=⟨fun _ _ _ _=>rfl,hB0⟩
 clear hx8 hxH hB0 x7 x8 g7 g8 g8' g28 g6 f5 f6 fp hnb2 hnb10
 repeat (with_reducible first|(first|refine pI1 ?_|refine pS1 ?_);intros|refine pA1 ?_|refine pX1 ?_|refine pB1 ?_|exact True.intro)
 refine W_loop (fun mm st=>∃ρ,∃i:Nat,∃N K Hk,st=⟨L 224 ρ,[],Hk⟩∧mm=n-i∧i≤n∧ρ 1=.c (.sl a n cc oo)∧ρ 2=.c (.ptr (some (b2,0)))∧ρ 5=.c (.bool true)∧ρ 6=.c (.ptr (some (q,0)))∧ρ 8=.c (.ptr (some (r,0)))∧ρ 10=.c (.ptr (some (b10,0)))∧ρ 62=.c (.int .i64 (n:Nat))∧ρ 63=.c (.int .i64 (i:Nat))∧H8.length≤Hk.length∧Hid ((∀b,b<H8.length→¬BlkP q P b→¬BlkP r R b→Hk[b]?=H8[b]?)∧Tw H.length Hk q r P R N K (16 * i))) n
  ⟨_,0,⟨0,0,0,0,z80⟩,⟨0,0,0,0,z80⟩,H8,rfl,rfl,by omega,zf,zf,zf,zf,zf,zf,zf,zf,by omega,hinit⟩ ?_
 clear hinit
 rintro mm st ⟨ρ,i,N,K,Hk,rfl,rfl,hi,e1,e2,e5,e6,e8,e10,e62,e63,lk,hall⟩
 unfold bX17_25
 have fz:=zhd1 hall
 clear hall
 by_cases hin:i<n
 ·have hxt:(i:Int)<(n:Int):=by omega
  have hlt:i<l.length:=fin0 _ fun _ _ _ _ _ h=>by omega
  obtain⟨⟨tb,ty⟩,cs,ea,ltb,hld,hrow⟩:=fin0 _ fun _ _ _ _ ht _=>ht.at hlt
  have hsmall:=fsm _ fun h=>h _ (List.getElem_mem hlt)
  generalize l[i]=e at *
  obtain⟨slot,x⟩:=e
  obtain⟨x0,d0,x1,d1,y0,f0,y1,f1,hcs,hsi,hsx,hmem,hsm⟩:=hrow
  dsimp only at hcs hsi hsx hmem hsm ltb hld
  have hlow:∀b,b<H.length→Hk[b]?=H[b]?:=fun b hb=>by
   rw[fz _ fun h=>h.1 b (by omega) (fun hb'=>by have:=h.2.mp b hb';omega) (fun hb'=>by have:=h.2.mr b hb';omega)]
   exact f8 _ fun _ _ hx _ _=>hx b hb
  have hld:ldnB Hk[tb]? (ty+i * 7) 7=some cs:=by rw[hlow tb ltb];exact hld
  have hcl:cs.length=7:=by rw[hcs];rfl
  have hz7:(List.replicate 2 (Cell.int .i64 0)++[Cell.int .u16 0]++List.replicate 4 (Cell.sl none 0 0 false)).length=7:=rfl
  have hp7:put (List.replicate 2 (Cell.int .i64 0)++[Cell.int .u16 0]++List.replicate 4 (Cell.sl none 0 0 false)) 0 cs=cs:=put_all' (by rw[hz7,hcl])
  obtain⟨Y,hY⟩:∃Y,Y=IC.seq (.ops oX17_13) (.seq (.ops oX17_14) (.seq (.seq (.ops oX17_15) (.cond (.t 131) (.seq (.ops oX17_16) .ret) .skip)) (.seq (.ops oX17_17) (.block 2 (.loop bX17_23))))):=⟨_,rfl⟩
  rw[←hY]
  have fY:=zhd1 hY
  have f1':=fun(A:Prop) (h:_→_→_→_→_→_→_→A)=>h hcs hsi hsx hmem hsm hsmall hlow
  clear hY hcs hsi hsx hmem hsm hsmall hlow
  subst ea
  repeat (with_reducible first|(first|refine pI1 ?_|refine pS1 ?_);intros|refine pA1 ?_|refine pX1 ?_|refine pB1 ?_|exact True.intro)
  rename_i b12 H12 p12 g12 x12 H13 l13 g13 x13
  have hx13:∀b,b<Hk.length→H13[b]?=Hk[b]?:=fun b hb=>by rw[x13 b (by omega),x12 b (by omega)]
  have hB13:Tw H.length H13 q r P R N K (16 * i):=fz _ fun h=>h.2.xt hx13
  have hn12:¬BlkP q P b12∧¬BlkP r R b12:=fz _ fun h=>⟨fun hb=>by have:=h.2.pm.ltT b12 hb;omega,fun hb=>by have:=h.2.rm.ltT b12 hb;omega⟩
  have hxH13:∀b,b<H.length→H13[b]?=H[b]?:=fun b hb=>by rw[hx13 b (by omega)];exact f1' _ fun _ _ _ _ _ _ h=>h b hb
  have hg10:H13[b10]?=some (.cells othC false none):=by rw[hx13 b10 (by omega),fz _ fun h=>h.1 b10 hb10 (f8 _ fun _ _ _ _ h=>h.1) (f8 _ fun _ _ _ _ h=>h.2)];exact f8 _ fun _ g _ _ _=>g
  rw[fY _ fun h=>h]
  refine W.mono (f1' _ fun hcs hsi hsx hmem hsm hsmall _=>turned_turn (M:=H.length) (x:=x) (slot:=slot) (b12:=b12) (b10:=b10) (n:=n) (i:=i) (tb:=tb) (ty:=ty) hB13 (by omega) h0 (by omega) (by rw[hxH13 0 h0];exact hT) (hsm.keep hxH13)
   (fun hs0=>⟨by have:=hsi.2;omega,hmem,fun j hj=>by have:=hsmall.1.2.2 j hj;dsimp only at this;omega,fun j hj=>by have:=hsmall.2.2.2 j hj;dsimp only at this;omega,by have:=hsmall.1.1;dsimp only at this;omega,by have:=hsmall.2.1;dsimp only at this;omega,by have:=hsmall.1.2.1;dsimp only at this;omega,by have:=hsmall.2.2.1;dsimp only at this;omega⟩)
   (fun hs0=>by omega) (by rw[←hcs];exact g13) hn12 hg10 (f8 _ fun _ _ _ _ h=>h) zf zf zf zf zf zf zf zf zf) ?_
  clear e1 e2 e5 e6 e8 e10 e62 e63
  rintro _ _ ⟨rfl,ρ',H',N',K',rfl,⟨e1,e2,e5,e6,e8,e10,e62,e63⟩,l',hB',x'⟩
  have hfr:∀b,b<H8.length→¬BlkP q P b→¬BlkP r R b→H'[b]?=H8[b]?:=fun b hb n1 n2=>by rw[x' b (by omega) n1 n2,hx13 b (by omega)];exact fz _ fun h=>h.1 b hb n1 n2
  have f':=fun(A:Prop) (h:_→_→A)=>h hB' hfr
  clear hB' x' hB13 g13 hld x12 x13 g12 hfr hg10 hn12 hxH13 hx13
  repeat (with_reducible first|(first|refine pI1 ?_|refine pS1 ?_);intros|refine pA1 ?_|refine pX1 ?_|refine pB1 ?_|exact True.intro)
  exact loopQ_n (n-(i+1)) (by omega) ⟨_,i+1,N',K',H',rfl,rfl,by omega,zf,zf,zf,zf,zf,zf,zf,zf,by omega,f' _ fun hB' hfr=>⟨hfr,by rw[Nat.mul_succ];exact hB'⟩⟩
 ·obtain rfl:i=n:=by omega
  have hxt:¬(i:Int)<(i:Int):=by omega
  obtain⟨Y,hY⟩:∃Y,Y=IC.seq (.ops oX17_26) (.block 4 (.loop bX17_35)):=⟨_,rfl⟩
  rw[←hY]
  have fY:=zhd1 hY
  clear hY
  have g2k:Hk[b2]?=some (.cells C false none):=by rw[fz _ fun h=>h.1 b2 (by omega) (f8 _ fun _ _ _ h _=>h.1) (f8 _ fun _ _ _ h _=>h.2)];exact f8 _ fun g _ _ _ _=>g
  have g10k:Hk[b10]?=some (.cells othC false none):=by rw[fz _ fun h=>h.1 b10 hb10 (f8 _ fun _ _ _ _ h=>h.1) (f8 _ fun _ _ _ _ h=>h.2)];exact f8 _ fun _ g _ _ _=>g
  have fg:=zhd2 g2k g10k
  clear g2k g10k
  repeat (with_reducible first|(first|refine pI1 ?_|refine pS1 ?_);intros|refine pA1 ?_|refine pX1 ?_|refine pB1 ?_|exact True.intro)
  rw[fY _ fun h=>h]
  refine W_cut _ (fz _ fun h=>fg _ fun g2 g10=>turned_counts h.2 zf zf zf zf zf g2 hC0 g10) ?_
  clear e1 e2 e5 e6 e8 e10 e62 e63
  rintro _ ⟨ρ',rfl,e5,e6,e8⟩
  have hL1:=fz _ fun h=>s_Losses h.2.pm fun k hk=>by have:=h.2.c0 k hk;omega
  have hL2:=fz _ fun h=>fun(Hx:Heap) (x:∀b,b<Hk.length→Hx[b]?=Hk[b]?)=>s_Losses (h.2.rm.keepX x) fun k hk=>by have:=h.2.c1 k hk;omega
  have hb1:=fz _ fun h=>fun(Hx:Heap) (x:∀b,b<Hk.length→Hx[b]?=Hk[b]?)=>s_dBlocked (h.2.pm.keepX x)
  have hb2:=fz _ fun h=>fun(Hx:Heap) (x:∀b,b<Hk.length→Hx[b]?=Hk[b]?)=>s_dBlocked (h.2.rm.keepX x)
  have k2:colS K.cnt 2 16=colS N.cnt 1 16:=fz _ fun h=>colS_tn h.2.tn (v:=1) (by omega) 16 (by omega)
  have k1:colS K.cnt 1 16=colS N.cnt 2 16:=fz _ fun h=>colS_tn h.2.tn (v:=2) (by omega) 16 (by omega)
  have kb:K.bl0+K.bl1=N.bl0+N.bl1:=fz _ fun h=>by rw[h.2.tn.b0,h.2.tn.b1,Nat.add_comm]
  rw[k1,k2] at hL2
  rw[kb] at hb2
  have f1:=zhd4 hL1 hL2 hb1 hb2
  clear hL1 hL2 hb1 hb2 k1 k2 kb
  generalize colS N.cnt 2 16=w1 at *
  generalize colS N.cnt 1 16=w2 at *
  generalize N.bl0+N.bl1=w3 at *
  repeat (with_reducible first|(first|refine pI1 ?_|refine pS1 ?_);intros|refine pA1 ?_|refine pX1 ?_|refine pB1 ?_|exact True.intro)
  refine outM_call (f1 _ fun h _ _ _=>h) ?_
  rintro _ H12 ⟨rfl,l12,x12⟩
  have hL2:=f1 _ fun _ h _ _=>h H12 x12
  have fx:=zhd2 x12 hL2
  clear x12 hL2
  repeat (with_reducible first|(first|refine pI1 ?_|refine pS1 ?_);intros|refine pA1 ?_|refine pX1 ?_|refine pB1 ?_|exact True.intro)
  refine outM_call (fx _ fun _ h=>h) ?_
  rintro _ H13 ⟨rfl,l13,x13⟩
  have hx:∀b,b<Hk.length→H13[b]?=Hk[b]?:=fun b hb=>by rw[x13 b (by omega)];exact fx _ fun x _=>x b hb
  have hb1:=f1 _ fun _ _ h _=>h H13 hx
  have hb2:=f1 _ fun _ _ _ h=>h H13 hx
  have fy:=zhd2 hb1 hb2
  clear x13 hb1 hb2 hx
  repeat (with_reducible first|(first|refine pI1 ?_|refine pS1 ?_);intros|refine pA1 ?_|refine pX1 ?_|refine pB1 ?_|exact True.intro)
  refine outM_call (fy _ fun h _=>h) ?_
  rintro _ H13 ⟨rfl,rfl⟩
  repeat (with_reducible first|(first|refine pI1 ?_|refine pS1 ?_);intros|refine pA1 ?_|refine pX1 ?_|refine pB1 ?_|exact True.intro)
  refine outM_call (fy _ fun _ h=>h) ?_
  rintro _ H13 ⟨rfl,rfl⟩
  repeat (with_reducible first|(first|refine pI1 ?_|refine pS1 ?_);intros|refine pA1 ?_|refine pX1 ?_|refine pB1 ?_|exact True.intro)
  exact rfl
theorem turned_wc (H:Heap) (hT:Begins (tabs [(0,.u32,nib)]) H) {x1:Cfg.T.D} {x2:List Op.T.D} {v1 v2:V} (h1:VwV Cfg.T H x1 v1) (h2:VwV (.sl Op.T) H x2 v2)
  (hk:wt Cfg.T x1+(wt (.sl Op.T) x2+0)≤1048576):WC F fX17 [v1,v2] H fun v _=>v=.c (.bool true):=by
 obtain⟨cs1,k1,⟨-,rfl⟩|⟨h,-⟩⟩:=h1
 case inr=>cases h
 obtain⟨cs2,k2,⟨h,-⟩|⟨-,w,rfl,rfl⟩⟩:=h2
 case inl=>cases h
 obtain⟨c,h,rfl,hc,hw1⟩:=cfg_rowX k1
 obtain⟨hf,htw⟩:=hw1 (by omega)
 obtain⟨a,cc,l,e,q1,q2,htab,hS⟩:=Vw.tabW (R:=OpR H.length) (S:=fun x e=>wO e≤wt Op.T x) (fun _ _=>op_row) k2
 cases e
 have hs:=all2_wt hS
 have hw2:wt (.sl Op.T) x2=1+(x2.map fun x=>wt Op.T x).sum:=rfl
 have hsum:∀l:List Op,(∀e∈l,wO e≤(l.map wO).sum)∧l.length≤(l.map wO).sum:=fun l=>by
  induction l with
  |nil=>exact⟨fun e he=>(by cases he),Nat.le_refl _⟩
  |cons y l ih=>
   rw[List.map_cons,List.sum_cons]
   have h1:1≤wO y:=by unfold wO;omega
   refine⟨fun e he=>?_,by rw[List.length_cons];have:=ih.2;omega⟩
   rcases List.mem_cons.1 he with rfl|he
   ·omega
   ·have:=ih.1 e he;omega
 have h3:=hsum l
 exact turned_law (tab hT) hc htw htab rfl (by have:=h3.2;omega) fun e he=>by have:=h3.1 e he;omega
end Go.Proofs.YtjcgdcadflplcaaDoor.AM.D21
