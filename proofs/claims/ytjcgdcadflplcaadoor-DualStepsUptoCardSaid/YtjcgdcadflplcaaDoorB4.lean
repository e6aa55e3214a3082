/- What the functions that this law reaches come to, each walked once, and the plain laws that stand behind them. -/
import Derived.Test.YtjcgdcadflplcaaDoorB3
import Derived.Test.YtjcgdcadflplcaaDoorB2
import Derived.Test.YtjcgdcadflplcaaDoorA4
import Derived.Test.YtjcgdcadflplcaaDoorB1
set_option linter.unusedVariables false
set_option linter.unusedSimpArgs false
set_option linter.unusedSectionVars false
namespace Go.Proofs.YtjcgdcadflplcaaDoor.AM.D21
open Go Go.Proofs.YtjcgdcadflplcaaDoor.AM Go.Proofs.YtjcgdcadflplcaaDoor.AM.C02
set_option maxHeartbeats 2000000
set_option maxRecDepth 100000
attribute [local go_sem] tn_add1 tn_sub1 put_all' nums_len
structure TwinOk (c:Cfg):Prop where
 owners:c.owners.length≤2000000
 parts:c.parts.length≤2000000
 wins:c.wins.length≤2000000
 ports:c.ports.length≤2000000
 links:c.links.length≤2000000
 rows:∀r∈c.wins,r.length≤2000000
 dests:∀l∈c.links,l.dests.length≤2000000
def mkW (r:List Int) (a:Option Ad) (o:Bool):List Cell:=[.sl a r.length r.length o]
def mkL (l:Lk) (a:Option Ad) (o:Bool):List Cell:=[.int .i64 l.src,.sl a l.dests.length l.dests.length o,.int .i64 l.off]
def twC (c:Cfg) (s1 s8 s9 s10 s11:Cell):List Cell:=[.int .i64 c.nodes,s1,.int .i64 c.drift,.int .i64 c.reading,.int .i64 c.margin,.int .i64 c.bound,.int .i64 c.rejoin,.int .i64 c.quota,s8,s9,s10,s11]
def sl0:Cell:=.sl none 0 0 false
theorem sub3z (a b c:Cell):sub [a,b,c] 0 3=some [a,b,c]:=rfl
attribute [local go_sem] sub3z
attribute [local go_sem] twC
theorem win_at2 {N:Nat} {H:Heap} {c:Cfg} {h:Hd} (hc:CfgM N H c h) {i:Nat} (hi:i<c.wins.length):∃la y a cc o,h.a9=some (la,y)∧la<N∧ldB H[la]? (y+i)=some (.sl a c.wins[i].length cc o)∧Sl H 1 a c.wins[i].length (nums c.wins[i])∧(∀b x,a=some (b,x)→b<N):=by
 obtain⟨⟨la,y⟩,cs,e1,e2,e3,a,cc,o,rfl,e4,e5,-⟩:=hc.wins.at hi
 exact⟨la,y,a,cc,o,e1,e2,ldB_of_ldnB (by rw[Nat.mul_one] at e3;exact e3),e4,e5⟩
theorem lnk_at2 {N:Nat} {H:Heap} {c:Cfg} {h:Hd} (hc:CfgM N H c h) {i:Nat} (hi:i<c.links.length):∃la y a cc o,h.a11=some (la,y)∧la<N∧ldnB H[la]? (y+i * 3) 3=some [.int .i64 c.links[i].src,.sl a c.links[i].dests.length cc o,.int .i64 c.links[i].off]∧Sl H 1 a c.links[i].dests.length (nums c.links[i].dests)∧(∀b x,a=some (b,x)→b<N):=by
 obtain⟨⟨la,y⟩,cs,e1,e2,e3,a,cc,o,rfl,e4,e5,-⟩:=hc.links.at hi
 exact⟨la,y,a,cc,o,e1,e2,e3,e4,e5⟩
theorem twin_wins {N:Nat} {H:Heap} {c:Cfg} {h:Hd} {ρ:Nat→V} {b1 b2 b3 n9:Nat} {s1 s8 s10 s11:Cell} {Q:Ex→St→Prop} (hc:CfgM N H c h) (hN:N≤b1) (h9:c.wins.length=n9) (hb:n9≤2000000) (hr:∀r∈c.wins,r.length≤2000000)
  (g1:H[b1]?=some (.cells (c.cells h) false none)) (g3:H[b3]?=some (.cells (twC c s1 s8 sl0 s10 s11) false none)) (h13:b1<b3)
  (e1:ρ 1=.c (.ptr (some (b1,0)))) (e2:ρ 2=.c (.ptr (some (b2,0)))) (e3:ρ 3=.c (.ptr (some (b3,0)))) (e4:ρ 4=.c (.int .i64 0))
  (hQ:∀ρ' H' aw ow,ρ' 1=.c (.ptr (some (b1,0)))→ρ' 2=.c (.ptr (some (b2,0)))→ρ' 3=.c (.ptr (some (b3,0)))→LLs 1 mkW id H.length H' aw n9 ow c.wins→H'[b3]?=some (.cells (twC c s1 s8 (.sl aw n9 n9 ow) s10 s11) false none)→H.length≤H'.length→(∀b,b<H.length→b≠b3→H'[b]?=H[b]?)→Q (.exit 0) ⟨L 74 ρ',[],H'⟩):
  W F none (.loop bX1f_11) ⟨L 74 ρ,[],H⟩ Q:=by
 have lb1:=lt_of_get g1
 have lb3:=lt_of_get g3
 unfold Cfg.cells at g1
 rw[h9] at g1
 have ht0:c.wins.take 0=[]:=rfl
 have hll0:LLs 1 mkW id H.length H none 0 false (c.wins.take 0):=LLs.nil
 have fin0:=zhd4 hc hr h9 hQ
 clear hc hr h9 hQ
 refine W_loop (fun mm st=>∃ρ,∃i:Nat,∃aw ow Hk,st=⟨L 74 ρ,[],Hk⟩∧mm=n9-i∧i≤n9∧ρ 1=.c (.ptr (some (b1,0)))∧ρ 2=.c (.ptr (some (b2,0)))∧ρ 3=.c (.ptr (some (b3,0)))∧ρ 4=.c (.int .i64 (i:Nat))∧H.length≤Hk.length∧Hk[b3]?=some (.cells (twC c s1 s8 (.sl aw i i ow) s10 s11) false none)∧Hid ((∀b,b<H.length→b≠b3→Hk[b]?=H[b]?)∧LLs 1 mkW id H.length Hk aw i ow (c.wins.take i))) n9
  ⟨_,0,none,false,H,rfl,rfl,by omega,e1,e2,e3,e4,Nat.le_refl _,g3,fun _ _ _=>rfl,hll0⟩ ?_
 clear e1 e2 e3 e4 g3 hll0 ht0
 rintro mm st ⟨ρ,i,aw,ow,Hk,rfl,rfl,hi,e1,e2,e3,e4,lk,g3,hall⟩
 unfold bX1f_11
 have g1k:=(hall.1 b1 lb1 (by omega)).trans g1
 have fz:=zhd1 hall
 clear hall
 by_cases hin:i<n9
 case neg=>
  obtain rfl:i=n9:=by omega
  have hxt:¬(i:Int)<(i:Int):=by omega
  have f3:=zhd1 g3
  clear g3
  repeat (with_reducible first|(first|refine pI1 ?_|refine pS1 ?_);intros|refine pA1 ?_|refine pX1 ?_|refine pB1 ?_|exact True.intro)
  exact fin0 _ fun _ _ h9 hQ=>fz _ fun hz=>f3 _ fun g3=>hQ _ Hk aw ow zf zf zf (by have:=hz.2;rw[List.take_of_length_le (by omega)] at this;exact this) g3 lk hz.1
 have hxt:(i:Int)<(n9:Int):=by omega
 have hlt:i<c.wins.length:=fin0 _ fun _ _ h _=>by omega
 obtain⟨la,y,a,cc,o,ea,hla,hld,hsl,haN⟩:=fin0 _ fun hc _ _ _=>win_at2 hc hlt
 have hrl:=fin0 _ fun _ hr _ _=>hr _ (List.getElem_mem hlt)
 have hld:ldB Hk[la]? (y+i)=some (.sl a c.wins[i].length cc o):=by rw[fz _ fun h=>h.1 la (by omega) (by omega)];exact hld
 have hslk:Sl Hk 1 a c.wins[i].length (nums c.wins[i]):=hsl.keep fun b x e=>fz _ fun h=>h.1 b (by have:=haN b x e;omega) (by have:=haN b x e;omega)
 have htk:c.wins.take (i+1)=c.wins.take i++[c.wins[i]]:=List.take_succ_eq_append_getElem hlt
 obtain⟨row,hrow⟩:∃r,r=c.wins[i]:=⟨_,rfl⟩
 rw[←hrow] at hrl hld hslk htk
 obtain⟨rl,hrle⟩:∃n,row.length=n:=⟨_,rfl⟩
 rw[hrle] at hrl hld hslk
 have f1:=zhd3 hslk htk hrle
 clear hslk htk hrle hrow hsl haN
 rw[ea] at g1k
 have l3k:=lt_of_get g3
 have f3:=zhd1 g3
 clear g3
 repeat (with_reducible first|(first|refine pI1 ?_|refine pS1 ?_);intros|refine pA1 ?_|refine pX1 ?_|refine pB1 ?_|exact True.intro)
 rename_i b5 H5 p5 g5 x5
 have g15:=(x5 b1 (by omega)).trans g1k
 have hld5:ldB H5[la]? (y+i)=some (.sl a rl cc o):=by rw[x5 la (by omega)];exact hld
 have hs5:Sl H5 1 a rl (nums row):=f1 _ fun h _ _=>h.to fun b hb=>x5 b (by omega)
 have f5:=zhd2 hs5 x5
 clear x5 hld g1k hs5
 repeat (with_reducible first|(first|refine pI1 ?_|refine pS1 ?_);intros|refine pA1 ?_|refine pX1 ?_|refine pB1 ?_|exact True.intro)
 refine outM_appS (Gr.empty g5 (Nat.le_refl b5)) (by omega) (f5 _ fun h _=>h) (by omega) ?_
 intro a6 o6 H6 hg6 l6 x6 y6
 rw[Nat.zero_add,List.nil_append] at hg6
 have hx6:∀b,b<Hk.length→H6[b]?=Hk[b]?:=fun b hb=>by rw[x6 b (by omega)];exact f5 _ fun _ x=>x b (by omega)
 have g36:=f3 _ fun g=>(hx6 b3 (by omega)).trans g
 have g16:H6[b1]?=_:=(hx6 b1 (by omega)).trans (f5 _ fun _ x=>(x b1 (by omega)).symm.trans g15)
 have hl6:LLs 1 mkW id H.length H6 aw i ow (c.wins.take i):=fz _ fun h=>h.2.keep (fun b _ hb=>hx6 b hb) (by have:=p5.1;omega)
 have ha6:∀b z,a6=some (b,z)→b5≤b∧b<H6.length:=fun b z e=>hg6.lt _ e
 have haw:∀b z,aw=some (b,z)→b<Hk.length:=fz _ fun h b z e=>(h.2.lt b z e).2
 have f6:=zhd5 hg6.sl hx6 hl6 ha6 haw
 clear hg6 hx6 hl6 ha6 haw x6 y6 g5 g15 hld5 f5
 repeat (with_reducible first|(first|refine pI1 ?_|refine pS1 ?_);intros|refine pA1 ?_|refine pX1 ?_|refine pB1 ?_|exact True.intro)
 rename_i b7 H7 p7 g7 x7
 have hs7:Sl H7 1 a6 (id row).length (nums (id row)):=by
  show Sl H7 1 a6 row.length (nums row)
  rw[f1 _ fun _ _ h=>h]
  exact f6 _ fun h _ _ _ _=>h.to fun b hb=>x7 b (by omega)
 have hl7:LLs 1 mkW id H.length H7 aw i ow (c.wins.take i):=f6 _ fun _ _ h _ _=>h.keep (fun b _ hb=>x7 b (by omega)) (by omega)
 have g37:=(x7 b3 (by omega)).trans g36
 have g7':H7[b7]?=some (.cells (mkW row a6 o6) false none):=by unfold mkW;rw[f1 _ fun _ _ h=>h];exact g7
 have hx7:∀b,b<Hk.length→H7[b]?=Hk[b]?:=fun b hb=>by rw[x7 b (by omega)];exact f6 _ fun _ h _ _ _=>h b hb
 clear x7 g36 g16 g7
 refine outM_pushL (pay:=id) (e:=row) hl7 (by omega) g7' rfl hs7 (fun b z e=>f6 _ fun _ _ _ h haw=>by
  have:=h b z e
  refine⟨by have:=p5.1;omega,by omega,fun x ex=>?_⟩
  obtain⟨w1,w2⟩:=x
  have:=haw w1 w2 ex
  show b≠w1
  have:=p5.1
  omega) (by omega) ?_
 intro a8 H8 hl8 l8 x8
 rw[←f1 _ fun _ h _=>h] at hl8
 have g38:=(x8 b3 (by omega)).trans g37
 have hx8:∀b,b<H.length→H8[b]?=Hk[b]?:=fun b hb=>by rw[x8 b hb];exact hx7 b (by omega)
 have f8:=zhd2 hl8 hx8
 clear hl8 hx8 x8 hl7 hs7 g7' hx7 g37
 repeat (with_reducible first|(first|refine pI1 ?_|refine pS1 ?_);intros|refine pA1 ?_|refine pX1 ?_|refine pB1 ?_|exact True.intro)
 rename_i H9 l9 g9 x9
 have g9':H9[b3]?=some (.cells (twC c s1 s8 (.sl a8 (i+1) (i+1) true) s10 s11) false none):=g9
 have f9:=zhd2 x9 g9'
 clear x9 g9 g9' g38
 repeat (with_reducible first|(first|refine pI1 ?_|refine pS1 ?_);intros|refine pA1 ?_|refine pX1 ?_|refine pB1 ?_|exact True.intro)
 have hl9:LLs 1 mkW id H.length H9 a8 (i+1) true (c.wins.take (i+1)):=f8 _ fun h _=>f9 _ fun x9 _=>h.keep (fun b hb _=>x9 b (by omega)) (by omega)
 refine loopQ_n (n9-(i+1)) (by omega) ⟨_,i+1,a8,true,H9,rfl,rfl,by omega,zf,zf,zf,zf,by omega,f9 _ fun _ g=>g,fun b hb hb3=>?_,hl9⟩
 rw[f9 _ fun x _=>x b hb3,f8 _ fun _ x=>x b hb];exact fz _ fun h=>h.1 b hb hb3
theorem twin_links {N:Nat} {H:Heap} {c:Cfg} {h:Hd} {ρ:Nat→V} {b1 b2 b3 n11:Nat} {s1 s8 s9 s10:Cell} {Q:Ex→St→Prop} (hc:CfgM N H c h) (hN:N≤b1) (h11:c.links.length=n11) (hb:n11≤2000000) (hr:∀l∈c.links,l.dests.length≤2000000)
  (g1:H[b1]?=some (.cells (c.cells h) false none)) (g3:H[b3]?=some (.cells (twC c s1 s8 s9 s10 sl0) false none)) (h13:b1<b3)
  (e1:ρ 1=.c (.ptr (some (b1,0)))) (e2:ρ 2=.c (.ptr (some (b2,0)))) (e3:ρ 3=.c (.ptr (some (b3,0)))) (e6:ρ 6=.c (.int .i64 0))
  (hQ:∀ρ' H' al ol,ρ' 2=.c (.ptr (some (b2,0)))→ρ' 3=.c (.ptr (some (b3,0)))→LLs 3 mkL Lk.dests H.length H' al n11 ol c.links→H'[b3]?=some (.cells (twC c s1 s8 s9 s10 (.sl al n11 n11 ol)) false none)→H.length≤H'.length→(∀b,b<H.length→b≠b3→H'[b]?=H[b]?)→Q (.exit 2) ⟨L 74 ρ',[],H'⟩):
  W F none (.loop bX1f_19) ⟨L 74 ρ,[],H⟩ Q:=by
 have lb1:=lt_of_get g1
 have lb3:=lt_of_get g3
 unfold Cfg.cells at g1
 rw[h11] at g1
 have hll0:LLs 3 mkL Lk.dests H.length H none 0 false (c.links.take 0):=LLs.nil
 have fin0:=zhd4 hc hr h11 hQ
 clear hc hr h11 hQ
 refine W_loop (fun mm st=>∃ρ,∃i:Nat,∃aw ow Hk,st=⟨L 74 ρ,[],Hk⟩∧mm=n11-i∧i≤n11∧ρ 1=.c (.ptr (some (b1,0)))∧ρ 2=.c (.ptr (some (b2,0)))∧ρ 3=.c (.ptr (some (b3,0)))∧ρ 6=.c (.int .i64 (i:Nat))∧H.length≤Hk.length∧Hk[b3]?=some (.cells (twC c s1 s8 s9 s10 (.sl aw i i ow)) false none)∧Hid ((∀b,b<H.length→b≠b3→Hk[b]?=H[b]?)∧LLs 3 mkL Lk.dests H.length Hk aw i ow (c.links.take i))) n11
  ⟨_,0,none,false,H,rfl,rfl,by omega,e1,e2,e3,e6,Nat.le_refl _,g3,fun _ _ _=>rfl,hll0⟩ ?_
 clear e1 e2 e3 e6 g3 hll0
 rintro mm st ⟨ρ,i,aw,ow,Hk,rfl,rfl,hi,e1,e2,e3,e6,lk,g3,hall⟩
 unfold bX1f_19
 have g1k:=(hall.1 b1 lb1 (by omega)).trans g1
 have fz:=zhd1 hall
 clear hall
 by_cases hin:i<n11
 case neg=>
  obtain rfl:i=n11:=by omega
  have hxt:¬(i:Int)<(i:Int):=by omega
  have f3:=zhd1 g3
  clear g3
  repeat (with_reducible first|(first|refine pI1 ?_|refine pS1 ?_);intros|refine pA1 ?_|refine pX1 ?_|refine pB1 ?_|exact True.intro)
  exact fin0 _ fun _ _ h11 hQ=>fz _ fun hz=>f3 _ fun g3=>hQ _ Hk aw ow zf zf (by have:=hz.2;rw[List.take_of_length_le (by omega)] at this;exact this) g3 lk hz.1
 have hxt:(i:Int)<(n11:Int):=by omega
 have hlt:i<c.links.length:=fin0 _ fun _ _ h _=>by omega
 obtain⟨la,y,a,cc,o,ea,hla,hld,hsl,haN⟩:=fin0 _ fun hc _ _ _=>lnk_at2 hc hlt
 have hrl:=fin0 _ fun _ hr _ _=>hr _ (List.getElem_mem hlt)
 have hld:ldnB Hk[la]? (y+i * 3) 3=some [.int .i64 c.links[i].src,.sl a c.links[i].dests.length cc o,.int .i64 c.links[i].off]:=by rw[fz _ fun h=>h.1 la (by omega) (by omega)];exact hld
 have hslk:Sl Hk 1 a c.links[i].dests.length (nums c.links[i].dests):=hsl.keep fun b x e=>fz _ fun h=>h.1 b (by have:=haN b x e;omega) (by have:=haN b x e;omega)
 have htk:c.links.take (i+1)=c.links.take i++[c.links[i]]:=List.take_succ_eq_append_getElem hlt
 obtain⟨row,hrow⟩:∃r,r=c.links[i]:=⟨_,rfl⟩
 rw[←hrow] at hrl hld hslk htk
 obtain⟨src,hsrc⟩:∃n,row.src=n:=⟨_,rfl⟩
 obtain⟨off,hoff⟩:∃n,row.off=n:=⟨_,rfl⟩
 obtain⟨rl,hrle⟩:∃n,row.dests.length=n:=⟨_,rfl⟩
 rw[hrle] at hrl hld hslk
 rw[hsrc,hoff] at hld
 have hd1:ldB Hk[la]? (y+i * 3+1)=some (.sl a rl cc o):=by
  generalize Hk[la]?=k at *
  match k,hld with
  |some (.cells cs ro g),hld=>
   have:=sub_at (i:=1) hld (by omega)
   exact this
 have f1:=zhd5 hslk htk hrle hsrc hoff
 clear hslk htk hrle hrow hsl haN hsrc hoff
 rw[ea] at g1k
 have l3k:=lt_of_get g3
 have f3:=zhd1 g3
 clear g3
 repeat (with_reducible first|(first|refine pI1 ?_|refine pS1 ?_);intros|refine pA1 ?_|refine pX1 ?_|refine pB1 ?_|exact True.intro)
 rename_i b4 H4 p4 g4 x4 H5 l5 g5 x5 b6 H6 p6 g6 x6
 have hx6:∀b,b<Hk.length→H6[b]?=Hk[b]?:=fun b hb=>by rw[x6 b (by omega),x5 b (by omega),x4 b (by omega)]
 have g16:=(hx6 b1 (by omega)).trans g1k
 have g46:=(x6 b4 (by omega)).trans g5
 have hld6:ldB H6[la]? (y+i * 3+1)=some (.sl a rl cc o):=by rw[hx6 la (by omega)];exact hd1
 have hs6:Sl H6 1 a rl (nums row.dests):=f1 _ fun h _ _ _ _=>h.to fun b hb=>hx6 b hb
 have f6:=zhd2 hs6 hx6
 clear x4 x5 x6 g4 g5 g1k hld hd1 hs6 hx6
 repeat (with_reducible first|(first|refine pI1 ?_|refine pS1 ?_);intros|refine pA1 ?_|refine pX1 ?_|refine pB1 ?_|exact True.intro)
 refine outM_appS (Gr.empty g6 (Nat.le_refl b6)) (by omega) (f6 _ fun h _=>h) (by omega) ?_
 intro a7 o7 H7 hg7 l7 x7 y7
 rw[Nat.zero_add,List.nil_append] at hg7
 have g47:=(x7 b4 (by omega)).trans g46
 have hx7:∀b,b<Hk.length→H7[b]?=Hk[b]?:=fun b hb=>by rw[x7 b (by omega)];exact f6 _ fun _ x=>x b hb
 have ha7:∀b z,a7=some (b,z)→b6≤b∧b<H7.length:=fun b z e=>hg7.lt _ e
 have g37:H7[b3]?=some (.cells (twC c s1 s8 s9 s10 (.sl aw i i ow)) false none):=f3 _ fun g=>(hx7 b3 (by omega)).trans g
 have f7:=zhd3 hg7.sl hx7 ha7
 clear hg7 x7 y7 hx7 ha7 g46 g16 g6 hld6 f6
 repeat (with_reducible first|(first|refine pI1 ?_|refine pS1 ?_);intros|refine pA1 ?_|refine pX1 ?_|refine pB1 ?_|exact True.intro)
 rename_i H8 l8 g8 x8 b9 H9 p9 g9 x9
 have hs8:Sl H8 1 a7 rl (nums row.dests):=f7 _ fun h _ ha=>h.keep fun b z e=>x8 b (by have:=ha b z e;omega)
 have hx8:∀b,b<Hk.length→H8[b]?=Hk[b]?:=fun b hb=>by rw[x8 b (by omega)];exact f7 _ fun _ h _=>h b hb
 have g38:=(x8 b3 (by omega)).trans g37
 have f8:=zhd2 hs8 hx8
 clear x8 hs8 hx8 g47 g37
 have hs9:Sl H9 1 a7 row.dests.length (nums row.dests):=by
  rw[f1 _ fun _ _ h _ _=>h]
  exact f8 _ fun h _=>h.to fun b hb=>x9 b (by omega)
 have hx9:∀b,b<Hk.length→H9[b]?=Hk[b]?:=fun b hb=>by rw[x9 b (by omega)];exact f8 _ fun _ h=>h b hb
 have hl9:LLs 3 mkL Lk.dests H.length H9 aw i ow (c.links.take i):=fz _ fun h=>h.2.keep (fun b _ hb=>hx9 b hb) (by omega)
 have g39:=(x9 b3 (by omega)).trans g38
 have haw:∀b z,aw=some (b,z)→b<Hk.length:=fz _ fun h b z e=>(h.2.lt b z e).2
 have g9':H9[b9]?=some (.cells (mkL row a7 o7) false none):=by unfold mkL;rw[f1 _ fun _ _ h _ _=>h,f1 _ fun _ _ _ h _=>h,f1 _ fun _ _ _ _ h=>h];exact g9
 clear x9 g38 g9 g8
 refine outM_pushL (pay:=Lk.dests) (e:=row) hl9 (by omega) g9' rfl hs9 (fun b z e=>f7 _ fun _ _ h=>by
  have:=h b z e
  refine⟨by omega,by omega,fun x ex=>?_⟩
  obtain⟨w1,w2⟩:=x
  have:=haw w1 w2 ex
  show b≠w1
  omega) (by omega) ?_
 intro a10 H10 hl10 l10 x10
 rw[←f1 _ fun _ h _ _ _=>h] at hl10
 have g310:=(x10 b3 (by omega)).trans g39
 have hx10:∀b,b<H.length→H10[b]?=Hk[b]?:=fun b hb=>by rw[x10 b hb];exact hx9 b (by omega)
 have f10:=zhd2 hl10 hx10
 clear hl10 hx10 x10 hl9 hs9 g9' hx9 g39 haw
 repeat (with_reducible first|(first|refine pI1 ?_|refine pS1 ?_);intros|refine pA1 ?_|refine pX1 ?_|refine pB1 ?_|exact True.intro)
 rename_i H11 l11 g11 x11
 have g11':H11[b3]?=some (.cells (twC c s1 s8 s9 s10 (.sl a10 (i+1) (i+1) true)) false none):=g11
 have f11:=zhd2 x11 g11'
 clear x11 g11 g11' g310
 repeat (with_reducible first|(first|refine pI1 ?_|refine pS1 ?_);intros|refine pA1 ?_|refine pX1 ?_|refine pB1 ?_|exact True.intro)
 have hl11:LLs 3 mkL Lk.dests H.length H11 a10 (i+1) true (c.links.take (i+1)):=f10 _ fun h _=>f11 _ fun x9 _=>h.keep (fun b hb _=>x9 b (by omega)) (by omega)
 refine loopQ_n (n11-(i+1)) (by omega) ⟨_,i+1,a10,true,H11,rfl,rfl,by omega,zf,zf,zf,zf,by omega,f11 _ fun _ g=>g,fun b hb hb3=>?_,hl11⟩
 rw[f11 _ fun x _=>x b hb3,f10 _ fun _ x=>x b hb];exact fz _ fun h=>h.1 b hb hb3
end Go.Proofs.YtjcgdcadflplcaaDoor.AM.D21
namespace Go.Proofs.YtjcgdcadflplcaaDoor.AM.D21
open Go Go.Proofs.YtjcgdcadflplcaaDoor.AM Go.Proofs.YtjcgdcadflplcaaDoor.AM.C02
set_option maxHeartbeats 2000000
set_option maxRecDepth 100000
attribute [local go_sem] tn_add1 tn_sub1 put_all' nums_len twC sub3z
theorem ze12:(Cell.int .i64 0 :: Cell.sl none 0 0 false :: (List.replicate 6 (Cell.int .i64 0)++List.replicate 4 (Cell.sl none 0 0 false)))=[Cell.int .i64 0,.sl none 0 0 false,.int .i64 0,.int .i64 0,.int .i64 0,.int .i64 0,.int .i64 0,.int .i64 0,.sl none 0 0 false,.sl none 0 0 false,.sl none 0 0 false,.sl none 0 0 false]:=rfl
theorem sub12l (a b c d e f g h i j k l:Cell):sub [a,b,c,d,e,f,g,h,i,j,k,l] 0 12=some [a,b,c,d,e,f,g,h,i,j,k,l]:=rfl
attribute [local go_sem] sub12l
attribute [local go_sem 2000] ze12
theorem _root_.Go.Proofs.YtjcgdcadflplcaaDoor.AM.Gr.keepA {lo sz n:Nat} {H H':Heap} {a:Option Ad} {o:Bool} {xs:List Cell} (h:Gr lo H sz a n o xs) (hx:∀x,a=some x→H'[x.1]?=H[x.1]?):Gr lo H' sz a n o xs:=h.keep fun b _ _ hna=>by
 obtain⟨z,ez,hz⟩:∃z,a=some z∧b=z.1:=Classical.byContradiction fun hc=>hna fun z ez hz=>hc ⟨z,ez,hz⟩
 rw[hz];exact hx z ez
theorem _root_.Go.Proofs.YtjcgdcadflplcaaDoor.AM.LLs.mono {α:Type} {sz lo lo' n:Nat} {mk:α→Option Ad→Bool→List Cell} {pay:α→List Int} {H:Heap} {a:Option Ad} {o:Bool} {ls:List α} (h:LLs sz mk pay lo H a n o ls) (hl:lo'≤lo):LLs sz mk pay lo' H a n o ls:=by
 obtain⟨h1,rows,h2,h3,h4,h5⟩:=h
 refine⟨h1,rows,h2.mono hl,h3,h4,fun j e he=>?_⟩
 obtain⟨a',o',k1,k2,k3⟩:=h5 j e he
 exact⟨a',o',k1,k2,fun b z ez=>⟨by have:=(k3 b z ez).1;omega,(k3 b z ez).2⟩⟩
theorem s_Twin {N:Nat} {H:Heap} {c:Cfg} {h:Hd} (hc:CfgM N H c h) (hN:N≤H.length) (ht:TwinOk c):WC F fX1f [.agg (c.cells h)] H fun v H'=>Xt H H'∧
  ∃h',v=.agg (c.cells h')∧CfgM H'.length H' c h'∧(∀b x,h'.a8=some (b,x)→H.length≤b)∧(∀b x,h'.a10=some (b,x)→H.length≤b)∧∀b x,h'.a1=some (b,x)→H.length≤b:=by
 refine WC_start eX1f (by simp) ?_
 unfold cX1f Cfg.cells
 obtain⟨n1,h1⟩:∃n,c.owners.length=n:=⟨_,rfl⟩
 obtain⟨n8,h8⟩:∃n,c.parts.length=n:=⟨_,rfl⟩
 obtain⟨n9,h9⟩:∃n,c.wins.length=n:=⟨_,rfl⟩
 obtain⟨n10,h10⟩:∃n,c.ports.length=n:=⟨_,rfl⟩
 obtain⟨n11,h11⟩:∃n,c.links.length=n:=⟨_,rfl⟩
 have b1:=ht.owners
 have b8:=ht.parts
 have b9:=ht.wins
 have b10:=ht.ports
 have kb11:=ht.links
 have s1:=hc.owners
 have s8:=hc.partsS
 have s10:=hc.portsS
 rw[h1] at b1 s1
 rw[h8] at b8 s8
 rw[h9] at b9
 rw[h10] at b10 s10
 rw[h11] at kb11
 have hlt:∀b x,h.a1=some (b,x)∨h.a8=some (b,x)∨h.a10=some (b,x)→b<N:=fun b x e=>by
  rcases e with e|e|e
  ·exact hc.ownersN b x e
  ·exact hc.partsN b x e
  ·exact hc.portsN b x e
 rw[h1,h8,h9,h10,h11]
 have hfin:∀(H':Heap) (a1 a8 a9 a10 a11:Option Ad) (o1 o8 o9 o10 o11:Bool),Gr H.length H' 1 a1 n1 o1 (nums c.owners)→Gr H.length H' 3 a8 n8 o8 (c.parts.map Pa.cells).flatten→Gr H.length H' 6 a10 n10 o10 (c.ports.map Pt.cells).flatten→LLs 1 mkW id H.length H' a9 n9 o9 c.wins→LLs 3 mkL Lk.dests H.length H' a11 n11 o11 c.links→
   CfgM H'.length H' c ⟨a1,n1,a8,n8,a9,n9,a10,n10,a11,n11,o1,o8,o9,o10,o11⟩:=fun H' a1 a8 a9 a10 a11 o1 o8 o9 o10 o11 q1 q8 q10 q9 q11=>by
  have hi8:∀e∈c.parts,PaR H e e.cells:=fun e he=>by
   obtain⟨i,hi,rfl⟩:=List.mem_iff_getElem.1 he
   obtain⟨_,cs,-,-,-,rfl,z⟩:=hc.parts.at hi
   exact⟨rfl,z⟩
  have hi10:∀e∈c.ports,PtR H e e.cells:=fun e he=>by
   obtain⟨i,hi,rfl⟩:=List.mem_iff_getElem.1 he
   obtain⟨_,cs,-,-,-,rfl,z⟩:=hc.ports.at hi
   exact⟨rfl,z⟩
  have hml:2000000≤maxLen:=by decide
  refine⟨by show Sl H' 1 a1 c.owners.length _;rw[h1];exact q1.sl,fun b x e=>(q1.lt _ e).2,Gr.tab q8 h8 (fun _=>rfl) (Nat.le_refl _) fun e he=>hi8 e he,?_,Gr.tab q10 h10 (fun _=>rfl) (Nat.le_refl _) fun e he=>hi10 e he,?_,hc.i_nodes,hc.i_drift,hc.i_reading,hc.i_margin,hc.i_bound,hc.i_rejoin,hc.i_quota,hc.i_owners,by show Sl H' 3 a8 c.parts.length _;rw[h8];exact q8.sl,fun b x e=>(q8.lt _ e).2,by show Sl H' 6 a10 c.ports.length _;rw[h10];exact q10.sl,fun b x e=>(q10.lt _ e).2⟩
  ·refine q9.tab (Nat.le_refl _) fun e a' o' he hs hb=>?_
   obtain⟨i,hi,rfl⟩:=List.mem_iff_getElem.1 he
   obtain⟨_,cs,-,-,-,_,_,_,-,-,-,z,-,-⟩:=hc.wins.at hi
   have:=ht.rows _ he
   exact⟨a',_,o',rfl,hs,hb,z,Nat.le_refl _,by omega⟩
  ·refine q11.tab (Nat.le_refl _) fun e a' o' he hs hb=>?_
   obtain⟨i,hi,rfl⟩:=List.mem_iff_getElem.1 he
   obtain⟨_,cs,-,-,-,_,_,_,-,-,-,z,-,-,z2⟩:=hc.links.at hi
   have:=ht.dests _ he
   exact⟨a',_,o',rfl,hs,hb,z,Nat.le_refl _,by omega,z2⟩
 have hcc:c.cells h=[.int .i64 c.nodes,.sl h.a1 n1 h.c1 h.o1,.int .i64 c.drift,.int .i64 c.reading,.int .i64 c.margin,.int .i64 c.bound,.int .i64 c.rejoin,.int .i64 c.quota,.sl h.a8 n8 h.c8 h.o8,.sl h.a9 n9 h.c9 h.o9,.sl h.a10 n10 h.c10 h.o10,.sl h.a11 n11 h.c11 h.o11]:=by unfold Cfg.cells;rw[h1,h8,h9,h10,h11]
 have f0:=zhd6 hc ht h9 h11 hfin hcc
 have fs:=zhd4 s1 s8 s10 hlt
 clear hc ht h1 h8 h9 h10 h11 hfin hcc s1 s8 s10 hlt
 repeat (with_reducible first|(first|refine pI1 ?_|refine pS1 ?_);intros|refine pA1 ?_|refine pX1 ?_|refine pB1 ?_|exact True.intro)
 rename_i b1' H1 p1 g1 x1 b2 H2 p2 g2 x2 b3 H3 p3 g3 x3 H4 l4 g4 x4 b5 H5 p5 g5 x5
 have g15:=(x5 b1' (by omega)).trans ((x4 b1' (by omega)).trans ((x3 b1' (by omega)).trans ((x2 b1' (by omega)).trans g1)))
 have g25:=(x5 b2 (by omega)).trans ((x4 b2 (by omega)).trans ((x3 b2 (by omega)).trans g2))
 have g35:=(x5 b3 (by omega)).trans g4
 have hx5:∀b,b<H.length→H5[b]?=H[b]?:=fun b hb=>by rw[x5 b (by omega),x4 b (by omega),x3 b (by omega),x2 b (by omega),x1 b (by omega)]
 have hs5:Sl H5 1 h.a1 n1 (nums c.owners):=fs _ fun h _ _ hl=>h.keep fun b x e=>hx5 b (by have:=hl b x (.inl e);omega)
 have f5:=zhd2 hx5 hs5
 clear x1 x2 x3 x4 x5 hx5 hs5 g1 g2 g3 g4
 refine outM_appS (Gr.empty g5 (Nat.le_refl b5)) (by omega) (f5 _ fun _ h=>h) (by omega) ?_
 intro a1 o1 H6 hg6 l6 x6 y6
 rw[Nat.zero_add,List.nil_append] at hg6
 have g16:=(x6 b1' (by omega)).trans g15
 have g26:=(x6 b2 (by omega)).trans g25
 have g36:=(x6 b3 (by omega)).trans g35
 have hx6:∀b,b<H.length→H6[b]?=H[b]?:=fun b hb=>by rw[x6 b (by omega)];exact f5 _ fun h _=>h b hb
 have ha1:=hg6.lt
 have f6:=zhd3 hx6 hg6 ha1
 clear hx6 hg6 ha1 x6 y6 g15 g25 g35 g5 f5
 repeat (with_reducible first|(first|refine pI1 ?_|refine pS1 ?_);intros|refine pA1 ?_|refine pX1 ?_|refine pB1 ?_|exact True.intro)
 rename_i H7 l7 g7 x7 b8 H8 p8 g8 x8
 have g18:=(x8 b1' (by omega)).trans ((x7 b1' (by omega)).trans g16)
 have g28:=(x8 b2 (by omega)).trans ((x7 b2 (by omega)).trans g26)
 have g38:=(x8 b3 (by omega)).trans g7
 have hx8:∀b,b<H.length→H8[b]?=H[b]?:=fun b hb=>by rw[x8 b (by omega),x7 b (by omega)];exact f6 _ fun h _ _=>h b hb
 have hg8:Gr b5 H8 1 a1 n1 o1 (nums c.owners):=f6 _ fun _ h ha=>h.keepA fun x e=>by have:=ha x e;rw[x8 x.1 (by omega),x7 x.1 (by omega)]
 have hs8:Sl H8 3 h.a8 n8 (c.parts.map Pa.cells).flatten:=fs _ fun _ h _ hl=>h.keep fun b x e=>hx8 b (by have:=hl b x (.inr (.inl e));omega)
 have f8:=zhd3 hx8 hg8 hs8
 clear x7 x8 hx8 hg8 hs8 g16 g26 g36 g7
 refine outM_appS (Gr.empty g8 (Nat.le_refl b8)) (by omega) (f8 _ fun _ _ h=>h) (by omega) ?_
 intro a8 o8 H9 hg9 l9 x9 y9
 rw[Nat.zero_add,List.nil_append] at hg9
 have g19:=(x9 b1' (by omega)).trans g18
 have g29:=(x9 b2 (by omega)).trans g28
 have g39:=(x9 b3 (by omega)).trans g38
 have hx9:∀b,b<H.length→H9[b]?=H[b]?:=fun b hb=>by rw[x9 b (by omega)];exact f8 _ fun h _ _=>h b hb
 have hgo9:Gr b5 H9 1 a1 n1 o1 (nums c.owners):=f8 _ fun _ h _=>f6 _ fun _ _ ha=>h.keepA fun x e=>x9 x.1 (by have:=ha x e;omega)
 have ha8:=hg9.lt
 have f9:=zhd4 hx9 hg9 hgo9 ha8
 clear hx9 hg9 hgo9 ha8 x9 y9 g18 g28 g38 g8 f8
 repeat (with_reducible first|(first|refine pI1 ?_|refine pS1 ?_);intros|refine pA1 ?_|refine pX1 ?_|refine pB1 ?_|exact True.intro)
 rename_i H10 l10 g10 x10 b11 H11 p11 g11 x11
 have g1b:=(x11 b1' (by omega)).trans ((x10 b1' (by omega)).trans g19)
 have g2b:=(x11 b2 (by omega)).trans ((x10 b2 (by omega)).trans g29)
 have g3b:=(x11 b3 (by omega)).trans g10
 have hxb:∀b,b<H.length→H11[b]?=H[b]?:=fun b hb=>by rw[x11 b (by omega),x10 b (by omega)];exact f9 _ fun h _ _ _=>h b hb
 have hg1b:Gr b5 H11 1 a1 n1 o1 (nums c.owners):=f9 _ fun _ _ h _=>f6 _ fun _ _ ha=>h.keepA fun x e=>by have:=ha x e;rw[x11 x.1 (by omega),x10 x.1 (by omega)]
 have hg8b:Gr b8 H11 3 a8 n8 o8 (c.parts.map Pa.cells).flatten:=f9 _ fun _ h _ ha=>h.keepA fun x e=>by have:=ha x e;rw[x11 x.1 (by omega),x10 x.1 (by omega)]
 have hs11:Sl H11 6 h.a10 n10 (c.ports.map Pt.cells).flatten:=fs _ fun _ _ h hl=>h.keep fun b x e=>hxb b (by have:=hl b x (.inr (.inr e));omega)
 have fb:=zhd4 hxb hg1b hg8b hs11
 clear hxb hg1b hg8b hs11 x10 x11 g19 g29 g39 g10
 refine outM_appS (Gr.empty g11 (Nat.le_refl b11)) (by omega) (fb _ fun _ _ _ h=>h) (by omega) ?_
 intro a10 o10 H12 hg12 l12 x12 y12
 rw[Nat.zero_add,List.nil_append] at hg12
 have g1c:=(x12 b1' (by omega)).trans g1b
 have g2c:=(x12 b2 (by omega)).trans g2b
 have g3c:=(x12 b3 (by omega)).trans g3b
 have hxc:∀b,b<H.length→H12[b]?=H[b]?:=fun b hb=>by rw[x12 b (by omega)];exact fb _ fun h _ _ _=>h b hb
 have hg1c:Gr b5 H12 1 a1 n1 o1 (nums c.owners):=fb _ fun _ h _ _=>f6 _ fun _ _ ha=>h.keepA fun x e=>x12 x.1 (by have:=ha x e;omega)
 have hg8c:Gr b8 H12 3 a8 n8 o8 (c.parts.map Pa.cells).flatten:=fb _ fun _ _ h _=>f9 _ fun _ _ _ ha=>h.keepA fun x e=>x12 x.1 (by have:=ha x e;omega)
 have ha10:=hg12.lt
 have fc:=zhd5 hxc hg1c hg8c hg12 ha10
 clear hxc hg1c hg8c hg12 ha10 x12 y12 g1b g2b g3b g11 fb
 repeat (with_reducible first|(first|refine pI1 ?_|refine pS1 ?_);intros|refine pA1 ?_|refine pX1 ?_|refine pB1 ?_|exact True.intro)
 rename_i H13 l13 g13 x13 H14 l14 g14 x14
 have g114:=(x14 b1' (by omega)).trans ((x13 b1' (by omega)).trans g1c)
 have g214:=(x14 b2 (by omega)).trans ((x13 b2 (by omega)).trans g2c)
 have hx14:∀b,b≠b3→H14[b]?=H12[b]?:=fun b hb=>by rw[x14 b hb,x13 b hb]
 have g314:H14[b3]?=some (.cells (twC c (.sl a1 n1 n1 o1) (.sl a8 n8 n8 o8) sl0 (.sl a10 n10 n10 o10) (.sl h.a11 n11 h.c11 h.o11)) false none):=g14
 have f14:=zhd3 hx14 g314 g214
 have e114:H14[b1']?=some (.cells (c.cells h) false none):=by rw[f0 _ fun _ _ _ _ _ h=>h];exact g114
 clear x13 x14 hx14 g13 g14 g214 g1c g2c g3c g114
 repeat (with_reducible first|(first|refine pI1 ?_|refine pS1 ?_);intros|refine pA1 ?_|refine pX1 ?_|refine pB1 ?_|exact True.intro)
 have lb3:b3<H14.length:=f14 _ fun _ g _=>lt_of_get g
 have hc14:CfgM N H14 c h:=f0 _ fun hc _ _ _ _ _=>hc.keep fun b hb=>by rw[f14 _ fun x _ _=>x b (by omega)];exact fc _ fun h _ _ _ _=>h b (by omega)
 refine f0 _ fun _ ht h9 _ _ _=>twin_wins (b1:=b1') (b2:=b2) (b3:=b3) (s1:=.sl a1 n1 n1 o1) (s8:=.sl a8 n8 n8 o8) (s10:=.sl a10 n10 n10 o10) (s11:=.sl h.a11 n11 h.c11 h.o11) hc14 (by omega) h9 b9 ht.rows e114 (f14 _ fun _ g _=>g) (by omega) zf zf zf zf ?_
 intro ρ' H15 a9 o9 z1 z2 z3 hl9 g315 l15 x15
 have g115:=(x15 b1' (by omega) (by omega)).trans e114
 have f15:=zhd2 hl9 x15
 clear hl9 x15 e114
 have l315:=lt_of_get g315
 repeat (with_reducible first|(first|refine pI1 ?_|refine pS1 ?_);intros|refine pA1 ?_|refine pX1 ?_|refine pB1 ?_|exact True.intro)
 rename_i H16 l16 g16 x16
 have e116:=(x16 b1' (by omega)).trans g115
 have g316:H16[b3]?=some (.cells (twC c (.sl a1 n1 n1 o1) (.sl a8 n8 n8 o8) (.sl a9 n9 n9 o9) (.sl a10 n10 n10 o10) sl0) false none):=g16
 have f16:=zhd2 x16 g316
 clear x16 g16 g316 g315 g115
 repeat (with_reducible first|(first|refine pI1 ?_|refine pS1 ?_);intros|refine pA1 ?_|refine pX1 ?_|refine pB1 ?_|exact True.intro)
 have hc16:CfgM N H16 c h:=hc14.keep fun b hb=>by rw[f16 _ fun x _=>x b (by omega)];exact f15 _ fun _ x=>x b (by omega) (by omega)
 refine f0 _ fun _ ht _ h11 _ _=>twin_links (b1:=b1') (b2:=b2) (b3:=b3) (s1:=.sl a1 n1 n1 o1) (s8:=.sl a8 n8 n8 o8) (s9:=.sl a9 n9 n9 o9) (s10:=.sl a10 n10 n10 o10) hc16 (by omega) h11 kb11 ht.dests e116 (f16 _ fun _ g=>g) (by omega) zf zf zf zf ?_
 intro ρ'' H17 a11 o11 w2 w3 hl11 g317 l17 x17
 have g217:H17[b2]?=_:=(x17 b2 (by omega) (by omega)).trans (f16 _ fun x _=>(x b2 (by omega)).trans (f15 _ fun _ x=>(x b2 (by omega) (by omega)).trans (f14 _ fun _ _ g=>g)))
 have l217:=lt_of_get g217
 have f17:=zhd2 hl11 x17
 clear hl11 x17 e116
 repeat (with_reducible first|(first|refine pI1 ?_|refine pS1 ?_);intros|refine pA1 ?_|refine pX1 ?_|refine pB1 ?_|exact True.intro)
 rename_i H18 l18 g18 x18
 have hx18:∀b,b<H14.length→b≠b3→b≠b2→H18[b]?=H12[b]?:=fun b hb h3 h2=>by
  rw[x18 b h2,f17 _ fun _ x=>x b (by omega) h3,f16 _ fun x _=>x b h3,f15 _ fun _ x=>x b hb h3];exact f14 _ fun x _ _=>x b h3
 have hL9:LLs 1 mkW id H14.length H18 a9 n9 o9 c.wins:=f15 _ fun h _=>h.keep (fun b hb hb2=>by rw[x18 b (by omega),f17 _ fun _ x=>x b (by omega) (by omega)];exact f16 _ fun x _=>x b (by omega)) (by omega)
 have hL11:LLs 3 mkL Lk.dests H16.length H18 a11 n11 o11 c.links:=f17 _ fun h _=>h.keep (fun b hb hb2=>x18 b (by omega)) (by omega)
 have hG1:Gr b5 H18 1 a1 n1 o1 (nums c.owners):=fc _ fun _ h _ _ _=>f6 _ fun _ _ ha=>h.keepA fun x e=>by have:=ha x e;exact hx18 x.1 (by omega) (by omega) (by omega)
 have hG8:Gr b8 H18 3 a8 n8 o8 (c.parts.map Pa.cells).flatten:=fc _ fun _ _ h _ _=>f9 _ fun _ _ _ ha=>h.keepA fun x e=>by have:=ha x e;exact hx18 x.1 (by omega) (by omega) (by omega)
 have hG10:Gr b11 H18 6 a10 n10 o10 (c.ports.map Pt.cells).flatten:=fc _ fun _ _ _ h ha=>h.keepA fun x e=>by have:=ha x e;exact hx18 x.1 (by omega) (by omega) (by omega)
 have hX:Xt H H18:=⟨by omega,fun b hb=>by rw[hx18 b (by omega) (by omega) (by omega)];exact fc _ fun h _ _ _ _=>h b hb⟩
 have f18:=zhd6 hX hG1 hG8 hG10 hL9 hL11
 have lm:H.length≤b5∧H.length≤b8∧H.length≤b11∧H.length≤H14.length∧H.length≤H16.length:=by omega
 clear hX hG1 hG8 hG10 hL9 hL11 x18 hx18
 repeat (with_reducible first|(first|refine pI1 ?_|refine pS1 ?_);intros|refine pA1 ?_|refine pX1 ?_|refine pB1 ?_|exact True.intro)
 obtain⟨m1,m2,m3,m4,m5⟩:=lm
 refine f18 _ fun hX hG1 hG8 hG10 hL9 hL11=>⟨hX,⟨a1,n1,a8,n8,a9,n9,a10,n10,a11,n11,o1,o8,o9,o10,o11⟩,?_,f0 _ fun _ _ _ _ hfin _=>hfin H18 a1 a8 a9 a10 a11 o1 o8 o9 o10 o11 (hG1.mono m1) (hG8.mono m2) (hG10.mono m3) (hL9.mono m4) (hL11.mono m5),fun b x e=>?_,fun b x e=>?_,fun b x e=>?_⟩
 ·rfl
 ·have:=hG8.lt _ e;show H.length≤b;omega
 ·have:=hG10.lt _ e;show H.length≤b;omega
 ·have:=hG1.lt _ e;show H.length≤b;omega
end Go.Proofs.YtjcgdcadflplcaaDoor.AM.D21
namespace Go.Proofs.YtjcgdcadflplcaaDoor.AM.D21
open Go Go.Proofs.YtjcgdcadflplcaaDoor.AM Go.Proofs.YtjcgdcadflplcaaDoor.AM.C02
set_option maxHeartbeats 2000000
set_option maxRecDepth 100000
attribute [local go_sem] tn_add1 tn_sub1 put_all' nums_len
section
variable {N n1 n8 n9 n10 n11 b1:Nat} {H:Heap} {c:Cfg} {h:Hd} {ρ:Nat→V}
theorem great_wins {s0:Nat} (hc:CfgM N H c h) (ht:TwinOk c) (h9:c.wins.length=n9) (hs0:s0≤4000000) (e1:ρ 1=.c (.ptr (some (b1,0)))) (e3:ρ 3=.c (.int .i64 (s0:Nat)))
  (g1:H[b1]?=some (.cells [.int .i64 c.nodes,.sl h.a1 n1 h.c1 h.o1,.int .i64 c.drift,.int .i64 c.reading,.int .i64 c.margin,.int .i64 c.bound,.int .i64 c.rejoin,.int .i64 c.quota,.sl h.a8 n8 h.c8 h.o8,.sl h.a9 n9 h.c9 h.o9,.sl h.a10 n10 h.c10 h.o10,.sl h.a11 n11 h.c11 h.o11] false none)):
  W F none (.seq (.ops oX1d_2) (.block 0 (.loop bX1d_6))) ⟨L 72 ρ,[],H⟩ fun e st=>e=.normal∧∃ρ',∃s:Nat,st=⟨L 72 ρ',[],H⟩∧s≤204000000∧ρ' 1=.c (.ptr (some (b1,0)))∧ρ' 3=.c (.int .i64 (s:Nat)):=by
 have f0:=zhd3 hc ht h9
 clear hc ht h9
 repeat (with_reducible first|(first|refine pI1 ?_|refine pS1 ?_);intros|refine pA1 ?_|refine pX1 ?_|refine pB1 ?_|exact True.intro)
 refine W_loop (fun mm st=>∃ρ,∃i s:Nat,st=⟨L 72 ρ,[],H⟩∧mm=100-i∧i≤100∧s≤4000000+i * 2000000∧ρ 1=.c (.ptr (some (b1,0)))∧ρ 3=.c (.int .i64 (s:Nat))∧ρ 4=.c (.int .i64 (i:Nat))) 100 ⟨_,0,s0,rfl,rfl,by omega,by omega,zf,zf,zf⟩ ?_
 clear e1 e3
 rintro mm st ⟨ρ,i,s,rfl,rfl,hi,hs,e1,e3,e4⟩
 unfold bX1d_6
 by_cases hin:i<n9
 ·have hxt:(i:Int)<(n9:Int):=by omega
  by_cases h100:i<100
  ·have hxt2:(i:Int)<100:=by omega
   have hlt:i<c.wins.length:=f0 _ fun _ _ h=>by omega
   obtain⟨la,y,a,cc,o,ea,hla,hld,-,-⟩:=f0 _ fun hc _ _=>win_at2 hc hlt
   have hr:=f0 _ fun _ ht _=>ht.rows _ (List.getElem_mem hlt)
   generalize c.wins[i].length=rl at *
   rw[ea] at g1
   repeat (with_reducible first|(first|refine pI1 ?_|refine pS1 ?_);intros|refine pA1 ?_|refine pX1 ?_|refine pB1 ?_|exact True.intro)
   exact loopQ_n (100-(i+1)) (by omega) ⟨_,i+1,s+rl,rfl,rfl,by omega,by omega,zf,zf,zf⟩
  ·have hxt2:¬(i:Int)<100:=by omega
   repeat (with_reducible first|(first|refine pI1 ?_|refine pS1 ?_);intros|refine pA1 ?_|refine pX1 ?_|refine pB1 ?_|exact True.intro)
   exact⟨rfl,_,s,rfl,by omega,zf,zf⟩
 ·have hxt:¬(i:Int)<(n9:Int):=by omega
  repeat (with_reducible first|(first|refine pI1 ?_|refine pS1 ?_);intros|refine pA1 ?_|refine pX1 ?_|refine pB1 ?_|exact True.intro)
  exact⟨rfl,_,s,rfl,by omega,zf,zf⟩
theorem great_links {s0:Nat} (hc:CfgM N H c h) (ht:TwinOk c) (h11:c.links.length=n11) (hs0:s0≤204000000) (e1:ρ 1=.c (.ptr (some (b1,0)))) (e3:ρ 3=.c (.int .i64 (s0:Nat)))
  (g1:H[b1]?=some (.cells [.int .i64 c.nodes,.sl h.a1 n1 h.c1 h.o1,.int .i64 c.drift,.int .i64 c.reading,.int .i64 c.margin,.int .i64 c.bound,.int .i64 c.rejoin,.int .i64 c.quota,.sl h.a8 n8 h.c8 h.o8,.sl h.a9 n9 h.c9 h.o9,.sl h.a10 n10 h.c10 h.o10,.sl h.a11 n11 h.c11 h.o11] false none)):
  W F none (.seq (.ops oX1d_7) (.block 2 (.loop bX1d_11))) ⟨L 72 ρ,[],H⟩ fun e st=>e=.normal∧∃ρ',∃s:Nat,st=⟨L 72 ρ',[],H⟩∧s≤404000000∧ρ' 1=.c (.ptr (some (b1,0)))∧ρ' 3=.c (.int .i64 (s:Nat)):=by
 have f0:=zhd3 hc ht h11
 clear hc ht h11
 repeat (with_reducible first|(first|refine pI1 ?_|refine pS1 ?_);intros|refine pA1 ?_|refine pX1 ?_|refine pB1 ?_|exact True.intro)
 refine W_loop (fun mm st=>∃ρ,∃i s:Nat,st=⟨L 72 ρ,[],H⟩∧mm=100-i∧i≤100∧s≤204000000+i * 2000000∧ρ 1=.c (.ptr (some (b1,0)))∧ρ 3=.c (.int .i64 (s:Nat))∧ρ 5=.c (.int .i64 (i:Nat))) 100 ⟨_,0,s0,rfl,rfl,by omega,by omega,zf,zf,zf⟩ ?_
 clear e1 e3
 rintro mm st ⟨ρ,i,s,rfl,rfl,hi,hs,e1,e3,e5⟩
 unfold bX1d_11
 by_cases hin:i<n11
 ·have hxt:(i:Int)<(n11:Int):=by omega
  by_cases h100:i<100
  ·have hxt2:(i:Int)<100:=by omega
   have hlt:i<c.links.length:=f0 _ fun _ _ h=>by omega
   obtain⟨la,y,a,cc,o,ea,hla,hld,-,-⟩:=f0 _ fun hc _ _=>lnk_at2 hc hlt
   have hr:=f0 _ fun _ ht _=>ht.dests _ (List.getElem_mem hlt)
   generalize c.links[i].dests.length=rl at *
   have hd1:ldB H[la]? (y+i * 3+1)=some (.sl a rl cc o):=by
    generalize H[la]?=k at *
    match k,hld with
    |some (.cells cs ro g),hld=>exact sub_at (i:=1) hld (by omega)
   clear hld
   rw[ea] at g1
   repeat (with_reducible first|(first|refine pI1 ?_|refine pS1 ?_);intros|refine pA1 ?_|refine pX1 ?_|refine pB1 ?_|exact True.intro)
   exact loopQ_n (100-(i+1)) (by omega) ⟨_,i+1,s+rl,rfl,rfl,by omega,by omega,zf,zf,zf⟩
  ·have hxt2:¬(i:Int)<100:=by omega
   repeat (with_reducible first|(first|refine pI1 ?_|refine pS1 ?_);intros|refine pA1 ?_|refine pX1 ?_|refine pB1 ?_|exact True.intro)
   exact⟨rfl,_,s,rfl,by omega,zf,zf⟩
 ·have hxt:¬(i:Int)<(n11:Int):=by omega
  repeat (with_reducible first|(first|refine pI1 ?_|refine pS1 ?_);intros|refine pA1 ?_|refine pX1 ?_|refine pB1 ?_|exact True.intro)
  exact⟨rfl,_,s,rfl,by omega,zf,zf⟩
end
theorem s_Great {N:Nat} {H:Heap} {c:Cfg} {h:Hd} (hc:CfgM N H c h) (hN:N≤H.length) (ht:TwinOk c):WC F fX1d [.agg (c.cells h)] H fun v H'=>(∃b,v=.c (.bool b))∧Xt H H':=by
 refine WC_start eX1d (by simp) ?_
 unfold cX1d Cfg.cells
 obtain⟨n1,h1⟩:∃n,c.owners.length=n:=⟨_,rfl⟩
 obtain⟨n8,h8⟩:∃n,c.parts.length=n:=⟨_,rfl⟩
 obtain⟨n9,h9⟩:∃n,c.wins.length=n:=⟨_,rfl⟩
 obtain⟨n10,h10⟩:∃n,c.ports.length=n:=⟨_,rfl⟩
 obtain⟨n11,h11⟩:∃n,c.links.length=n:=⟨_,rfl⟩
 have k1:=ht.owners
 have k8:=ht.parts
 have k9:=ht.wins
 have k10:=ht.ports
 have k11:=ht.links
 rw[h1] at k1
 rw[h8] at k8
 rw[h9] at k9
 rw[h10] at k10
 rw[h11] at k11
 rw[h1,h8,h9,h10,h11]
 have f0:=zhd4 hc ht h9 h11
 clear hc ht h1 h8 h9 h10 h11
 obtain⟨Y,hY⟩:∃Y,Y=IC.seq (.ops oX1d_2) (.block 0 (.loop bX1d_6)):=⟨_,rfl⟩
 obtain⟨Z,hZ⟩:∃Z,Z=IC.seq (.ops oX1d_7) (.block 2 (.loop bX1d_11)):=⟨_,rfl⟩
 rw[←hY,←hZ]
 have fY:=zhd2 hY hZ
 clear hY hZ
 repeat (with_reducible first|(first|refine pI1 ?_|refine pS1 ?_);intros|refine pA1 ?_|refine pX1 ?_|refine pB1 ?_|exact True.intro)
 rename_i b1 H1 p1 g1 x1
 have hc1:CfgM N H1 c h:=f0 _ fun hc _ _ _=>hc.keep fun b hb=>x1 b (by omega)
 have fx:=zhd2 x1 hc1
 clear x1 hc1
 repeat (with_reducible first|(first|refine pI1 ?_|refine pS1 ?_);intros|refine pA1 ?_|refine pX1 ?_|refine pB1 ?_|exact True.intro)
 rw[fY _ fun h _=>h]
 refine W_cut _ (f0 _ fun _ ht h9 _=>fx _ fun _ hc=>great_wins (b1:=b1) (n1:=n1) (n8:=n8) (n10:=n10) (n11:=n11) (s0:=n1+n9) hc ht h9 (by omega) zf zf g1) ?_
 rintro _ ⟨ρ',s,rfl,hs,e1,e3⟩
 repeat (with_reducible first|(first|refine pI1 ?_|refine pS1 ?_);intros|refine pA1 ?_|refine pX1 ?_|refine pB1 ?_|exact True.intro)
 rw[fY _ fun _ h=>h]
 refine W_cut _ (f0 _ fun _ ht _ h11=>fx _ fun _ hc=>great_links (b1:=b1) (n1:=n1) (n8:=n8) (n9:=n9) (n10:=n10) (s0:=s) hc ht h11 (by omega) zf zf g1) ?_
 clear e1 e3 hs
 rintro _ ⟨ρ',s,rfl,hs,e1,e3⟩
 have hX:Xt H H1:=fx _ fun x _=>⟨by omega,fun b hb=>x b (by omega)⟩
 have fX:=zhd1 hX
 clear hX
 by_cases c1:(s:Int) > 1000
 ·repeat (with_reducible first|(first|refine pI1 ?_|refine pS1 ?_);intros|refine pA1 ?_|refine pX1 ?_|refine pB1 ?_|exact True.intro)
  exact⟨⟨_,rfl⟩,fX _ fun x=>x⟩
 by_cases c2:(n8:Int) > 100
 ·repeat (with_reducible first|(first|refine pI1 ?_|refine pS1 ?_);intros|refine pA1 ?_|refine pX1 ?_|refine pB1 ?_|exact True.intro)
  exact⟨⟨_,rfl⟩,fX _ fun x=>x⟩
 by_cases c3:(n10:Int) > 100
 ·repeat (with_reducible first|(first|refine pI1 ?_|refine pS1 ?_);intros|refine pA1 ?_|refine pX1 ?_|refine pB1 ?_|exact True.intro)
  exact⟨⟨_,rfl⟩,fX _ fun x=>x⟩
 by_cases c4:(n11:Int) > 100
 ·repeat (with_reducible first|(first|refine pI1 ?_|refine pS1 ?_);intros|refine pA1 ?_|refine pX1 ?_|refine pB1 ?_|exact True.intro)
  exact⟨⟨_,rfl⟩,fX _ fun x=>x⟩
 repeat (with_reducible first|(first|refine pI1 ?_|refine pS1 ?_);intros|refine pA1 ?_|refine pX1 ?_|refine pB1 ?_|exact True.intro)
 exact⟨⟨_,rfl⟩,fX _ fun x=>x⟩
end Go.Proofs.YtjcgdcadflplcaaDoor.AM.D21
namespace Go.Proofs.YtjcgdcadflplcaaDoor.AM.D21
open Go Go.Proofs.YtjcgdcadflplcaaDoor.AM Go.Proofs.YtjcgdcadflplcaaDoor.AM.C02
set_option maxHeartbeats 2000000
set_option maxRecDepth 100000
theorem len_wt {T:Ty} (hT:∀d:T.D,1≤wt T d) (xs:List T.D):xs.length≤(xs.map fun d=>wt T d).sum:=by
 induction xs with
 |nil=>exact Nat.zero_le _
 |cons x xs ih=>have:=hT x;rw[List.length_cons,List.map_cons,List.sum_cons];omega
theorem vw_len_wt {T:Ty} (hT:∀d:T.D,1≤wt T d) {H:Heap} {x:List T.D} {a:Option Ad} {n c:Nat} {o:Bool} (h:Vw (.sl T) H x [.sl a n c o]):n≤wt (.sl T) x:=by
 obtain⟨a',c',e,-⟩:=h
 injection e with e _
 injection e with _ e _ _
 rw[e]
 show _≤1+(x.map fun d=>wt T d).sum
 have:=len_wt hT x
 exact Nat.le_trans this (by omega)
theorem row_rowW {H:Heap} {x:List Int} {cs:List Cell} (h:Vw (.sl I) H x cs):∃e,RowR H.length H e cs∧e.length≤wt (.sl I) x:=by
 obtain⟨a,c,rfl,h1,h2,h3,h4⟩:=Vw.nums h
 refine⟨x,⟨a,c,false,rfl,h3,fun b x e=>h3.lt e,h4,h1,h2⟩,?_⟩
 have:=len_wt (T:=I) (fun d=>Nat.le_refl 1) x
 show _≤1+(List.map (fun d=>wt I d) x).sum
 exact Nat.le_trans this (by omega)
theorem cfg_rowX {H:Heap} {x:Cfg.T.D} {cs:List Cell} (h:Vw Cfg.T H x cs):∃c h,cs=c.cells h∧CfgM H.length H c h∧(wt Cfg.T x≤1048576→Few c∧TwinOk c):=by
 obtain⟨_,_,rfl,⟨rfl,w1⟩,_,_,rfl,ho,_,_,rfl,⟨rfl,w2⟩,_,_,rfl,⟨rfl,w3⟩,_,_,rfl,⟨rfl,w4⟩,_,_,rfl,⟨rfl,w5⟩,_,_,rfl,⟨rfl,w6⟩,_,_,rfl,⟨rfl,w7⟩,_,_,rfl,hp,_,_,rfl,hw,_,_,rfl,hq,_,_,rfl,hl,rfl⟩:=h
 obtain⟨a1,c1,rfl,k1,k2,k3,k4⟩:=Vw.nums ho
 obtain⟨a8,c8,lp,rfl,p1,p2,p3,pS,pN⟩:=parts_of hp
 have p4:=vw_len_wt (T:=Pa.T) (fun d=>by show 1≤1+_;omega) hp
 obtain⟨a9,c9,lw,rfl,q1,q2,q3,q4⟩:=Vw.tabW (T:=.sl I) (R:=RowR H.length) (S:=fun x e=>e.length≤wt (.sl I) x) (fun _ _=>row_rowW) hw
 obtain⟨a10,c10,lt,rfl,r1,r2,r3,rS,rN,r4⟩:=ports_of hq
 obtain⟨a11,c11,ll,rfl,s1,s2,s3,s4⟩:=Vw.tabW (R:=LkR H.length) (S:=fun x e=>e.dests.length≤wt Lk.T x) (fun _ _=>lk_rowW) hl
 refine⟨⟨_,_,_,_,_,_,_,_,lp,lw,lt,ll⟩,⟨a1,c1,a8,c8,a9,c9,a10,c10,a11,c11,false,false,false,false,false⟩,rfl,⟨k3,fun b x e=>k3.lt e,p3,q3,r3,s3,wf_i64 w1,wf_i64 w2,wf_i64 w3,wf_i64 w4,wf_i64 w5,wf_i64 w6,wf_i64 w7,k4,pS,pN,rS,rN⟩,fun hwt=>?_⟩
 have b1:=all2_wt (f:=fun _=>1) r4
 have b2:=all2_wt (f:=fun l:Lk=>l.dests.length) s4
 rw[len1] at b1
 have hx:wt Cfg.T x=1+(wt (.sl I) x.2.1+(1+(1+(1+(1+(1+(1+(wt (.sl Pa.T) x.2.2.2.2.2.2.2.2.1+(wt (.sl (.sl I)) x.2.2.2.2.2.2.2.2.2.1+(wt (.sl Pt.T) x.2.2.2.2.2.2.2.2.2.2.1+(wt (.sl Lk.T) x.2.2.2.2.2.2.2.2.2.2.2.1+0))))))))))):=rfl
 have hp':wt (.sl Pt.T) x.2.2.2.2.2.2.2.2.2.2.1=1+(x.2.2.2.2.2.2.2.2.2.2.1.map fun d=>wt Pt.T d).sum:=rfl
 have hl':wt (.sl Lk.T) x.2.2.2.2.2.2.2.2.2.2.2.1=1+(x.2.2.2.2.2.2.2.2.2.2.2.1.map fun d=>wt Lk.T d).sum:=rfl
 have ho':wt (.sl I) x.2.1=1+List.length (α:=Int) x.2.1:=congrArg (1 + ·) (len1 (α:=Int) x.2.1)
 have b3:=all2_wt (f:=fun e:List Int=>e.length) q4
 have b4:=vw_len_wt (T:=.sl I) (fun d=>by show 1≤1+_;omega) hw
 have b5:=vw_len_wt (T:=Lk.T) (fun d=>by show 1≤1+_;omega) hl
 have hw':wt (.sl (.sl I)) x.2.2.2.2.2.2.2.2.2.1=1+(x.2.2.2.2.2.2.2.2.2.1.map fun d=>wt (.sl I) d).sum:=rfl
 have hmem:∀{ll:List Lk} {l:Lk},l∈ll→l.dests.length≤(ll.map fun l:Lk=>l.dests.length).sum:=fun {ll l}=>by
  induction ll with
  |nil=>intro h;cases h
  |cons y ll ih=>
   intro h
   simp only[List.map_cons,List.sum_cons]
   rcases List.mem_cons.1 h with rfl|h
   ·omega
   ·have:=ih h;omega
 have hmw:∀{ll:List (List Int)} {l:List Int},l∈ll→l.length≤(ll.map fun l:List Int=>l.length).sum:=fun {ll l}=>by
  induction ll with
  |nil=>intro h;cases h
  |cons y ll ih=>
   intro h
   simp only[List.map_cons,List.sum_cons]
   rcases List.mem_cons.1 h with rfl|h
   ·omega
   ·have:=ih h;omega
 refine⟨⟨by show List.length (α:=Int) x.2.1≤_;omega,by show lt.length≤_;omega,fun l hl=>?_⟩,⟨by show List.length (α:=Int) x.2.1≤_;omega,by show lp.length≤_;omega,by show lw.length≤_;omega,by show lt.length≤_;omega,by show ll.length≤_;omega,fun r hr=>?_,fun l hl=>?_⟩⟩
 ·have:=hmem (ll:=ll) hl
  omega
 ·have:=hmw (ll:=lw) hr
  omega
 ·have:=hmem (ll:=ll) hl
  omega
end Go.Proofs.YtjcgdcadflplcaaDoor.AM.D21
namespace Go.Proofs.YtjcgdcadflplcaaDoor.AM.D21
open Go Go.Proofs.YtjcgdcadflplcaaDoor.AM Go.Proofs.YtjcgdcadflplcaaDoor.AM.P3
set_option maxHeartbeats 2000000
set_option maxRecDepth 100000
theorem keepX:ExtKeep F:=ExtKeep.funsX fun f g h=>by
 unfold X at h
 split at h
 ·cases h;exact fun args H v H' e=>loadX_keep e
 split at h
 ·cases h;exact fun args H v H' e=>addX_keep e
 cases h
theorem s_Clone {H:Heap} {a:Option Ad} {n c:Nat} {o:Bool} {xs:List Cell} (hs:Sl H 1 a n xs) (hn:n≤100000):
  WC F fX26 [.c (.sl a n c o)] H fun v H'=>Ob H.length H' v xs∧X1 H H':=by
 refine WC_start eX26 (by simp) ?_
 unfold cX26
 cases a with
 |none=>
  have h0:=hs.nil rfl
  subst h0
  obtain rfl:xs=[]:=by have:=hs.len;simpa using this
  repeat (with_reducible first|(first|refine pI1 ?_|refine pS1 ?_);intros|refine pA1 ?_|refine pX1 ?_|refine pB1 ?_|exact True.intro)
  exact⟨⟨none,_,_,rfl,Own.none _ _,fun x e=>by cases e⟩,Nat.le_refl _,fun _ _=>rfl⟩
 |some a=>
  repeat (with_reducible first|(first|refine pI1 ?_|refine pS1 ?_);intros|refine pA1 ?_|refine pX1 ?_|refine pB1 ?_|exact True.intro)
  rename_i b1 H1 l1 g1 x1
  repeat (with_reducible first|(first|refine pI1 ?_|refine pS1 ?_);intros|refine pA1 ?_|refine pX1 ?_|refine pB1 ?_|exact True.intro)
  refine outM_appE (lo:=H.length) (ys:=xs) (fun y e=>by cases e;exact⟨rfl,by omega,_,_,_,g1⟩) (by omega) (hs.to fun b hb=>by simp (disch:=first|with_reducible assumption|omega) only [go_sem, *,reduceCtorEq,↓reduceIte,Nat.reduceLT,Nat.reduceBEq,Nat.reduceAdd,Nat.reduceSub,Nat.reduceMul,Nat.reduceDiv,Nat.reduceMod,Nat.reducePow,Nat.reduceEqDiff,Nat.reduceLeDiff,Int.reduceLT,Int.reduceLE,Int.reduceNeg,Int.reduceToNat,Int.reduceAdd,Int.reduceSub,Int.reduceMul,Int.reduceEq,Int.reduceNe,Int.reduceBEq,Int.reduceBNe,Int.reducePow]) (by omega) ?_
  intro v H2 h2 l2 x2
  repeat (with_reducible first|(first|refine pI1 ?_|refine pS1 ?_);intros|refine pA1 ?_|refine pX1 ?_|refine pB1 ?_|exact True.intro)
  exact⟨h2,by omega,fun b hb=>by simp (disch:=first|with_reducible assumption|omega) only [go_sem, *,reduceCtorEq,↓reduceIte,Nat.reduceLT,Nat.reduceBEq,Nat.reduceAdd,Nat.reduceSub,Nat.reduceMul,Nat.reduceDiv,Nat.reduceMod,Nat.reducePow,Nat.reduceEqDiff,Nat.reduceLeDiff,Int.reduceLT,Int.reduceLE,Int.reduceNeg,Int.reduceToNat,Int.reduceAdd,Int.reduceSub,Int.reduceMul,Int.reduceEq,Int.reduceNe,Int.reduceBEq,Int.reduceBNe,Int.reducePow]⟩
theorem it_bits {b mask:Nat} (hm:mask<4294967296):Iter F fX11 [] [(b,0)] (fun x=>x=b) (fun H=>H[b]?=some (.cells [.int .u32 (mask:Nat)] false none)) (bl mask 32 0):=by
 intro l H J E hP hl hSl hJ hE hr h0 hfin
 refine WC_start eX11 (by simp) ?_
 unfold cX11
 repeat (with_reducible first|(first|refine pI1 ?_|refine pS1 ?_);intros|refine pA1 ?_|refine pX1 ?_|refine pB1 ?_|exact True.intro)
 refine W_loop (fun m st=>∃ρ j Hk,st=⟨L 23 ρ,[],Hk⟩∧m=32-j∧j≤32∧ρ 0=.c (.yld l)∧ρ 1=.c (.ptr (some (b,0)))∧ρ 4=.c (.int .i64 (j:Nat))∧Hk[b]?=some (.cells [.int .u32 (mask:Nat)] false none)∧J (bl mask (32-j) j) Hk) 32 ⟨_,0,H,rfl,rfl,by omega,zf,zf,zf,hP,h0⟩ ?_
 rintro m st ⟨ρ,j,Hk,rfl,rfl,hj,e0,e1,e4,hb,hJk⟩
 unfold bX11_6
 clear hJ hE
 repeat (with_reducible first|(first|refine pI1 ?_|refine pS1 ?_);intros|refine pA1 ?_|refine pX1 ?_|refine pB1 ?_|exact True.intro)
 first|refine ifM_d ?_ ?_|refine gM_dt ?_ ?_|refine gM_df ?_ ?_
 ·intro hlt
  obtain⟨q,hq⟩:∃q,mask / 2 ^ j=q:=⟨_,rfl⟩
  repeat (with_reducible first|(first|refine pI1 ?_|refine pS1 ?_);intros|refine pA1 ?_|refine pX1 ?_|refine pB1 ?_|exact True.intro)
  first|refine ifM_d ?_ ?_|refine gM_dt ?_ ?_|refine gM_df ?_ ?_
  ·intro hz
   repeat (with_reducible first|(first|refine pI1 ?_|refine pS1 ?_);intros|refine pA1 ?_|refine pX1 ?_|refine pB1 ?_|exact True.intro)
   rw[bl_none _ _ (by omega)] at hJk
   exact hfin _ hJk
  ·intro hz
   have step:bl mask (32-j) j=if bt mask j then [.c (.int .i64 (j:Nat))] :: bl mask (32-(j+1)) (j+1) else bl mask (32-(j+1)) (j+1):=by
    rw[show 32-j=(32-(j+1))+1 by omega];rfl
   rw[step] at hJk
   clear step
   by_cases hbit:q % 2=1
   ·rw[if_pos (by unfold bt;rw[hq,hbit];rfl)] at hJk
    repeat (with_reducible first|(first|refine pI1 ?_|refine pS1 ?_);intros|refine pA1 ?_|refine pX1 ?_|refine pB1 ?_|exact True.intro)
    refine outM_yld (hr _ _ Hk hJk) ?_
    rintro v H' ⟨k1,k2,⟨rfl,k3⟩|⟨rfl,k3⟩⟩
    ·have hb':=(k1 b rfl).trans hb
     repeat (with_reducible first|(first|refine pI1 ?_|refine pS1 ?_);intros|refine pA1 ?_|refine pX1 ?_|refine pB1 ?_|exact True.intro)
     refine loopQ_n (32-(j+1)) (by omega) ⟨_,j+1,H',rfl,rfl,by omega,zf,zf,zf,hb',k3⟩
    ·repeat (with_reducible first|(first|refine pI1 ?_|refine pS1 ?_);intros|refine pA1 ?_|refine pX1 ?_|refine pB1 ?_|exact True.intro)
     exact k3
   ·rw[if_neg (by unfold bt;rw[hq];simp;omega)] at hJk
    repeat (with_reducible first|(first|refine pI1 ?_|refine pS1 ?_);intros|refine pA1 ?_|refine pX1 ?_|refine pB1 ?_|exact True.intro)
    refine loopQ_n (32-(j+1)) (by omega) ⟨_,j+1,Hk,rfl,rfl,by omega,zf,zf,zf,hb,hJk⟩
 ·intro hge
  obtain rfl:j=32:=by omega
  repeat (with_reducible first|(first|refine pI1 ?_|refine pS1 ?_);intros|refine pA1 ?_|refine pX1 ?_|refine pB1 ?_|exact True.intro)
  exact hfin _ ((by simpa [bl] using hJk))
theorem s_bits {H:Heap} {mask:Nat}:WC F fX10 [.c (.int .u32 (mask:Nat))] H fun v H'=>∃b,v=.c (.fn fX11 [] [(b,0)])∧H.length≤b∧b<H'.length∧H'[b]?=some (.cells [.int .u32 (mask:Nat)] false none)∧X1 H H':=by
 refine WC_start eX10 (by simp) ?_
 unfold cX10
 repeat (with_reducible first|(first|refine pI1 ?_|refine pS1 ?_);intros|refine pA1 ?_|refine pX1 ?_|refine pB1 ?_|exact True.intro)
 exact⟨_,rfl,by omega,by omega,by assumption,by omega,fun b hb=>by simp (disch:=first|with_reducible assumption|omega) only [go_sem, *,reduceCtorEq,↓reduceIte,Nat.reduceLT,Nat.reduceBEq,Nat.reduceAdd,Nat.reduceSub,Nat.reduceMul,Nat.reduceDiv,Nat.reduceMod,Nat.reducePow,Nat.reduceEqDiff,Nat.reduceLeDiff,Int.reduceLT,Int.reduceLE,Int.reduceNeg,Int.reduceToNat,Int.reduceAdd,Int.reduceSub,Int.reduceMul,Int.reduceEq,Int.reduceNe,Int.reduceBEq,Int.reduceBNe,Int.reducePow]⟩
theorem s_Corrupt {H:Heap} {a:Option Ad} {n c:Nat} {o:Bool} {l:List Nat} {at_:Int} {mask:Nat} (hs:Sl H 1 a n (nats .u8 l)) (hn:n≤100000) (ha1:-9223372036854775808≤at_) (ha2:at_<9223372036854775808) (hm:mask<4294967296) (hby:∀x∈l,x<256):
  WC F fXz [.c (.sl a n c o),.c (.int .i64 at_),.c (.int .u32 (mask:Nat))] H fun v H'=>Ob H.length H' v (nats .u8 (corr l at_ mask))∧X1 H H':=by
 refine WC_start eXz (by simp) ?_
 unfold cXz
 have hlen:=hs.len
 rw[nats_len,Nat.mul_one] at hlen
 repeat (with_reducible first|(first|refine pI1 ?_|refine pS1 ?_);intros|refine pA1 ?_|refine pX1 ?_|refine pB1 ?_|exact True.intro)
 rename_i b1 H1 l1 g1 x1 b2 H2 l2 g2 x2
 repeat (with_reducible first|(first|refine pI1 ?_|refine pS1 ?_);intros|refine pA1 ?_|refine pX1 ?_|refine pB1 ?_|exact True.intro)
 refine outM_call (s_Clone (hs.to fun b hb=>by simp (disch:=first|with_reducible assumption|omega) only [go_sem, *,reduceCtorEq,↓reduceIte,Nat.reduceLT,Nat.reduceBEq,Nat.reduceAdd,Nat.reduceSub,Nat.reduceMul,Nat.reduceDiv,Nat.reduceMod,Nat.reducePow,Nat.reduceEqDiff,Nat.reduceLeDiff,Int.reduceLT,Int.reduceLE,Int.reduceNeg,Int.reduceToNat,Int.reduceAdd,Int.reduceSub,Int.reduceMul,Int.reduceEq,Int.reduceNe,Int.reduceBEq,Int.reduceBNe,Int.reducePow]) (by omega)) ?_
 rintro v H3 ⟨hv,l3,x3⟩
 have hnl:(nats .u8 l).length=n:=by rw[nats_len,hlen]
 have hv':=hv
 obtain⟨a',c',o',rfl,own3,hlo⟩:=hv'
 rw[hnl] at hv own3 ⊢
 have hob:∀x,a'=some x→x.1<H3.length:=fun x e=>own3.lt (b:=x.1) (x:=x.2) e
 repeat (with_reducible first|(first|refine pI1 ?_|refine pS1 ?_);intros|refine pA1 ?_|refine pX1 ?_|refine pB1 ?_|exact True.intro)
 rename_i b4 H4 l4 g4 x4 H5 l5 g5 x5
 have hv5:=hv.keep (H':=H5) fun b hb hb'=>by simp (disch:=first|with_reducible assumption|omega) only [go_sem, *,reduceCtorEq,↓reduceIte,Nat.reduceLT,Nat.reduceBEq,Nat.reduceAdd,Nat.reduceSub,Nat.reduceMul,Nat.reduceDiv,Nat.reduceMod,Nat.reducePow,Nat.reduceEqDiff,Nat.reduceLeDiff,Int.reduceLT,Int.reduceLE,Int.reduceNeg,Int.reduceToNat,Int.reduceAdd,Int.reduceSub,Int.reduceMul,Int.reduceEq,Int.reduceNe,Int.reduceBEq,Int.reduceBNe,Int.reducePow]
 by_cases c1:at_ < -32
 ·have e:corr l at_ mask=l:=R_same (a:=0) (Nat.zero_le _) (fun k _ h2 h3=>by have:=h3.2.1;omega)
  rw[e]
  repeat (with_reducible first|(first|refine pI1 ?_|refine pS1 ?_);intros|refine pA1 ?_|refine pX1 ?_|refine pB1 ?_|exact True.intro)
  exact⟨hv5.mono (lo':=H.length) (by omega),by omega,fun b hb=>by simp (disch:=first|with_reducible assumption|omega) only [go_sem, *,reduceCtorEq,↓reduceIte,Nat.reduceLT,Nat.reduceBEq,Nat.reduceAdd,Nat.reduceSub,Nat.reduceMul,Nat.reduceDiv,Nat.reduceMod,Nat.reducePow,Nat.reduceEqDiff,Nat.reduceLeDiff,Int.reduceLT,Int.reduceLE,Int.reduceNeg,Int.reduceToNat,Int.reduceAdd,Int.reduceSub,Int.reduceMul,Int.reduceEq,Int.reduceNe,Int.reduceBEq,Int.reduceBNe,Int.reducePow]⟩
 ·by_cases c2:((8 * n:Nat):Int)<at_
  ·have e:corr l at_ mask=l:=R_same (a:=0) (Nat.zero_le _) (fun k _ h2 h3=>by have:=h3.1;rw[hlen] at h2;omega)
   rw[e]
   repeat (with_reducible first|(first|refine pI1 ?_|refine pS1 ?_);intros|refine pA1 ?_|refine pX1 ?_|refine pB1 ?_|exact True.intro)
   exact⟨hv5.mono (lo':=H.length) (by omega),by omega,fun b hb=>by simp (disch:=first|with_reducible assumption|omega) only [go_sem, *,reduceCtorEq,↓reduceIte,Nat.reduceLT,Nat.reduceBEq,Nat.reduceAdd,Nat.reduceSub,Nat.reduceMul,Nat.reduceDiv,Nat.reduceMod,Nat.reducePow,Nat.reduceEqDiff,Nat.reduceLeDiff,Int.reduceLT,Int.reduceLE,Int.reduceNeg,Int.reduceToNat,Int.reduceAdd,Int.reduceSub,Int.reduceMul,Int.reduceEq,Int.reduceNe,Int.reduceBEq,Int.reduceBNe,Int.reducePow]⟩
  ·repeat (with_reducible first|(first|refine pI1 ?_|refine pS1 ?_);intros|refine pA1 ?_|refine pX1 ?_|refine pB1 ?_|exact True.intro)
   repeat (with_reducible first|(first|refine pI1 ?_|refine pS1 ?_);intros|refine pA1 ?_|refine pX1 ?_|refine pB1 ?_|exact True.intro)
   refine outM_call (s_bits (mask:=mask)) ?_
   rintro _ H6 ⟨b6,rfl,hb6,hb6',g6,l6,x6⟩
   repeat (with_reducible first|(first|refine pI1 ?_|refine pS1 ?_);intros|refine pA1 ?_|refine pX1 ?_|refine pB1 ?_|exact True.intro)
   generalize hρ:Env.up _ 23 _=ρ0
   have e3:ρ0 3=.c (.ptr (some (b1,0))):=by rw[←hρ];exact zf
   have e4:ρ0 4=.c (.ptr (some (b2,0))):=by rw[←hρ];exact zf
   have e7:ρ0 7=.c (.ptr (some (b4,0))):=by rw[←hρ];exact zf
   have e23:ρ0 23=.c (.fn fX11 [] [(b6,0)]):=by rw[←hρ];exact zf
   clear hρ
   unfold aXz_9
   refine W_range (F:=F) keepX zf (it_bits hm) (fun r Hx=>∃j,j≤32∧r=bl mask (32-j) j∧H6.length≤Hx.length∧(∀b,b<H2.length∨b=b4→Hx[b]?=H5[b]?)∧Own Hx 1 a' n c' o' (nats .u8 (R l at_ mask (clamp n (at_+j)))))
    (fun _ _=>False) (fun J=>get_app' J g6) (fun b hb=>by subst hb;exact hb6') ?_ (fun _ _ _ h=>h.elim) ?_ ?_ ?_ (fun _ _ h=>h.elim)
   ·rintro r H7 H8 ⟨j,j1,j2,j3,j4,j5⟩ hf
    have hl:=hf.len
    have hx:∀b,b<H7.length→b≠b6→b≠H6.length+1→H8[b]?=H7[b]?:=fun b h1 h2 h3=>hf.old b h1 (by omega)
    exact⟨j,j1,j2,by omega,fun b hb=>by simp (disch:=first|with_reducible assumption|omega) only [go_sem, *,reduceCtorEq,↓reduceIte,Nat.reduceLT,Nat.reduceBEq,Nat.reduceAdd,Nat.reduceSub,Nat.reduceMul,Nat.reduceDiv,Nat.reduceMod,Nat.reducePow,Nat.reduceEqDiff,Nat.reduceLeDiff,Int.reduceLT,Int.reduceLE,Int.reduceNeg,Int.reduceToNat,Int.reduceAdd,Int.reduceSub,Int.reduceMul,Int.reduceEq,Int.reduceNe,Int.reduceBEq,Int.reduceBNe,Int.reducePow],j5.keep fun b x e=>hx b (j5.lt e) (by have:=hob _ e;simp only at this;omega) (by have:=hob _ e;simp only at this;omega)⟩
   ·intro rr
    have hx:∀b,b<H6.length→(H6++[.defd,.loop .ready none rr])[b]?=H6[b]?:=fun b hb=>get_app _ hb
    refine⟨0,by omega,rfl,by simp,fun b hb=>by simp (disch:=first|with_reducible assumption|omega) only [go_sem, *,reduceCtorEq,↓reduceIte,Nat.reduceLT,Nat.reduceBEq,Nat.reduceAdd,Nat.reduceSub,Nat.reduceMul,Nat.reduceDiv,Nat.reduceMod,Nat.reducePow,Nat.reduceEqDiff,Nat.reduceLeDiff,Int.reduceLT,Int.reduceLE,Int.reduceNeg,Int.reduceToNat,Int.reduceAdd,Int.reduceSub,Int.reduceMul,Int.reduceEq,Int.reduceNe,Int.reduceBEq,Int.reduceBNe,Int.reducePow],?_⟩
    have:R l at_ mask (clamp n (at_+(0:Nat)))=l:=by
     rw[R_same (a:=0) (Nat.zero_le _) (fun k _ h2 h3=>by unfold clamp at h2;have:=h3.1;omega)];rfl
    rw[this]
    refine own3.keep fun b x e=>?_
    have:=hob _ e;simp only at this
    simp (disch:=first|with_reducible assumption|omega) only [go_sem, *,reduceCtorEq,↓reduceIte,Nat.reduceLT,Nat.reduceBEq,Nat.reduceAdd,Nat.reduceSub,Nat.reduceMul,Nat.reduceDiv,Nat.reduceMod,Nat.reducePow,Nat.reduceEqDiff,Nat.reduceLeDiff,Int.reduceLT,Int.reduceLE,Int.reduceNeg,Int.reduceToNat,Int.reduceAdd,Int.reduceSub,Int.reduceMul,Int.reduceEq,Int.reduceNe,Int.reduceBEq,Int.reduceBNe,Int.reducePow]
   ·rintro x rest H7 ⟨j,j1,j2,j3,j4,j5⟩
    obtain⟨i,i1,i2,i3,i4,rfl,rfl⟩:=bl_cons j2.symm
    refine⟨rfl,?_⟩
    simp only[List.zip_cons_cons,List.zip_nil_left,List.foldl_cons,List.foldl_nil,L_set]
    repeat (with_reducible first|(first|refine pI1 ?_|refine pS1 ?_);intros|refine pA1 ?_|refine pX1 ?_|refine pB1 ?_|exact True.intro)
    refine⟨rfl,rfl,rfl,?_⟩
    rintro H8 ⟨q,q1,q2,q3,q4,q5⟩ hlp
    obtain⟨i',p1,p2,p3,p4,p5,p6⟩:=bl_cons q2.symm
    obtain rfl:i'=i:=by simp at p5;omega
    unfold bXz_10
    have hcl:(R l at_ mask (clamp n (at_+q))).length=n:=by rw[R_len,hlen]
    have y1:=q4 b1 (by omega)
    have y2:=q4 b2 (by omega)
    have y3:=q4 b4 (by omega)
    have z1:=lt_of_get g1
    have z2:=lt_of_get g2
    try dsimp only
    have hst:bl mask (j+(32-j)-(i'+1)) (i'+1)=bl mask (32-(i'+1)) (i'+1):=by rw[show j+(32-j)-(i'+1)=32-(i'+1) by omega]
    have hsk:∀m,clamp n (at_+q)≤m→m<clamp n (at_+i')→¬hit at_ mask m:=by
     intro m m1 m2 m3
     unfold clamp at m1 m2
     have:=p4 ((m:Int)-at_).toNat (by have:=m3.1;omega) (by have:=m3.1;omega)
     rw[m3.2.2] at this;cases this
    have hR1:R l at_ mask (clamp n (at_+i'))=R l at_ mask (clamp n (at_+q)):=R_same (by unfold clamp;omega) hsk
    by_cases h1:0≤at_+i'∧at_+i'<8 * n
    ·obtain⟨k,hk⟩:∃k:Nat,at_+(i':Int)=(k:Int):=⟨(at_+i').toNat,by omega⟩
     have hk8:k / 8<n:=by omega
     obtain⟨b,rfl,hb1,hb2,hblk⟩:∃b,a'=some (b,0)∧H2.length≤b∧b<H3.length∧H8[b]?=some (.cells (nats .u8 (R l at_ mask (clamp n (at_+q)))) false (some 1)):=by
      rcases q5 with ⟨_,h,_⟩|⟨b,rfl,_,_,_,hb⟩|⟨b,_,h,_⟩
      ·omega
      ·exact⟨b,rfl,hlo _ rfl,hob _ rfl,hb⟩
      ·omega
     have hq8:((k:Int) / 8).toNat=k / 8:=by omega
     have hr8:((k:Int) % 8).toNat=k % 8:=by omega
     have hp8:1 * 2 ^ (k % 8) % 256=2 ^ (k % 8):=by
      have:∀j,j<8→1 * 2 ^ j % 256=2 ^ j:=by decide
      exact this _ (Nat.mod_lt _ (by decide))
     have hkc:clamp n (at_+q)≤k:=by unfold clamp;omega
     have hR2:R l at_ mask (clamp n (at_+(i'+1:Nat)))=fl k (R l at_ mask (clamp n (at_+q))):=by
      have e1:clamp n (at_+(i'+1:Nat))=k+1:=by unfold clamp;omega
      have e2:clamp n (at_+i')=k:=by unfold clamp;omega
      rw[e1,R_flip ⟨by omega,by omega,by rw[show ((k:Int)-at_).toNat=i' by omega];exact p3⟩,←hR1,e2]
     have hgl:gx (R l at_ mask (clamp n (at_+q))) (k / 8)<256:=lt_gx (R_by hby at_ mask _) _
     generalize R l at_ mask (clamp n (at_+q))=xs at *
     repeat (with_reducible first|(first|refine pI1 ?_|refine pS1 ?_);intros|refine pA1 ?_|refine pX1 ?_|refine pB1 ?_|exact True.intro)
     rename_i H9 l9 g9 x9
     refine⟨⟨none,by rw[x9 _ (by omega)];exact hlp⟩,fun b' hb'=>by subst hb';exact x9 _ (by omega),(by show H8.length≤H9.length;omega),i'+1,by omega,hst,(by show H6.length≤H9.length;omega),fun b' hb'=>?_,?_⟩
     ·rw[x9 _ (by omega),q4 b' hb']
     ·rw[hR2]
      rcases q5 with ⟨h,_⟩|⟨_,_,e1,e2,e3,_⟩|⟨_,_,h,_⟩
      ·cases h
      ·exact .inr (.inl ⟨b,rfl,e1,e2,by rw[nats_len,fl_len];rw[nats_len] at e3;exact e3,by rw[g9,nats_set];rfl⟩)
      ·omega
    ·have hR2:R l at_ mask (clamp n (at_+(i'+1:Nat)))=R l at_ mask (clamp n (at_+q)):=by
      rw[←hR1]
      exact R_same (by unfold clamp;omega) fun m m1 m2 m3=>by unfold clamp at m1 m2;omega
     by_cases h2:0≤at_+i'
     ·repeat (with_reducible first|(first|refine pI1 ?_|refine pS1 ?_);intros|refine pA1 ?_|refine pX1 ?_|refine pB1 ?_|exact True.intro)
      exact⟨⟨none,hlp⟩,fun _ _=>rfl,Nat.le_refl _,i'+1,by omega,hst,q3,q4,by rw[hR2];exact q5⟩
     ·repeat (with_reducible first|(first|refine pI1 ?_|refine pS1 ?_);intros|refine pA1 ?_|refine pX1 ?_|refine pB1 ?_|exact True.intro)
      exact⟨⟨none,hlp⟩,fun _ _=>rfl,Nat.le_refl _,i'+1,by omega,hst,q3,q4,by rw[hR2];exact q5⟩
   ·rintro H7 ⟨j,j1,j2,j3,j4,j5⟩ hd hl
    have:R l at_ mask (8 * n)=R l at_ mask (clamp n (at_+j)):=by
     refine R_same (by unfold clamp;omega) (fun k h1 h2 h3=>?_)
     unfold clamp at h1
     have h4:=bl_end j2.symm ((k:Int)-at_).toNat (by have:=h3.1;omega) (by have:=h3.1;have:=h3.2.1;omega)
     rw[h3.2.2] at h4
     cases h4
    rw[←this,←hlen] at j5
    have y3:=j4 b4 (by omega)
    repeat (with_reducible first|(first|refine pI1 ?_|refine pS1 ?_);intros|refine pA1 ?_|refine pX1 ?_|refine pB1 ?_|exact True.intro)
    refine callQ_1 hd ?_
    intro H8 l8 x8
    repeat (with_reducible first|(first|refine pI1 ?_|refine pS1 ?_);intros|refine pA1 ?_|refine pX1 ?_|refine pB1 ?_|exact True.intro)
    refine⟨⟨a',c',o',by rw[nats_len,corr_len,hlen],?_,fun x e=>by have:=hlo x e;omega⟩,by omega,fun b hb=>?_⟩
    ·subst hlen
     rw[nats_len,corr_len]
     unfold corr
     refine j5.keep fun b x e=>x8 b (by have:=hob _ e;simp only at this;omega)
    ·rw[x8 b (by omega),j4 b (by omega)]
     simp (disch:=first|with_reducible assumption|omega) only [go_sem, *,reduceCtorEq,↓reduceIte,Nat.reduceLT,Nat.reduceBEq,Nat.reduceAdd,Nat.reduceSub,Nat.reduceMul,Nat.reduceDiv,Nat.reduceMod,Nat.reducePow,Nat.reduceEqDiff,Nat.reduceLeDiff,Int.reduceLT,Int.reduceLE,Int.reduceNeg,Int.reduceToNat,Int.reduceAdd,Int.reduceSub,Int.reduceMul,Int.reduceEq,Int.reduceNe,Int.reduceBEq,Int.reduceBNe,Int.reducePow]
end Go.Proofs.YtjcgdcadflplcaaDoor.AM.D21
namespace Go.Proofs.YtjcgdcadflplcaaDoor.AM.D21
open Go Go.Proofs.YtjcgdcadflplcaaDoor.AM Go.Proofs.YtjcgdcadflplcaaDoor.AM.C02 Go.Proofs.YtjcgdcadflplcaaDoor.AM.C07
set_option maxHeartbeats 2000000
set_option maxRecDepth 100000
attribute [local go_sem] tn_add1 tn_sub1 put_all' nums_len
theorem s_LoadUint64 {H:Heap} {p o n:Nat} {cs:List Cell} {g:Option Nat} (hb:H[p]?=some (.cells cs false g)) (ho:cs[o]?=some (.int .u64 (n:Nat))):
  WC F fX1 [.c (.ptr (some (p,o)))] H fun v H'=>v=.c (.int .u64 (n:Nat))∧H'=H:=by
 have hf:F fX1=some (.ext loadX):=by rfl
 refine WC_ext hf (v:=.c (.int .u64 (n:Nat))) (H':=H) ?_ ⟨rfl,rfl⟩
 unfold loadX
 dsimp only
 rw[ld_of hb,ho]
theorem s_AddUint64 {H:Heap} {p o n k:Nat} {cs:List Cell} {g:Option Nat} (hb:H[p]?=some (.cells cs false g)) (ho:cs[o]?=some (.int .u64 (n:Nat))):
  WC F fX0 [.c (.ptr (some (p,o))),.c (.int .u64 (k:Nat))] H fun _ H'=>H'[p]?=some (.cells (cs.set o (.int .u64 ((n+k) % 18446744073709551616:Nat))) false g)∧H'.length=H.length∧∀b,b≠p→H'[b]?=H[b]?:=by
 have hf:F fX0=some (.ext addX):=by rfl
 have hw:IntKind.u64.wrap ((n:Int)+(k:Int))=((n+k) % 18446744073709551616:Nat):=by rw[wrap_u64_i]<;>omega
 have hlt:o<cs.length:=(List.getElem?_eq_some_iff.1 ho).1
 refine WC_ext hf (v:=.c (.int .u64 ((n+k) % 18446744073709551616:Nat))) (H':=H.set p (.cells (cs.set o (.int .u64 ((n+k) % 18446744073709551616:Nat))) false g)) ?_ ⟨get_set_same _ (lt_of_get hb),by simp,fun b hb=>List.getElem?_set_ne fun e=>hb e.symm⟩
 unfold addX
 dsimp only
 rw[ld_of hb,ho]
 dsimp only
 rw[hw,st_one hb _ hlt]
 rfl
theorem s_Load {H:Heap} {p o n:Nat} {cs:List Cell} {g:Option Nat} (hb:H[p]?=some (.cells cs false g)) (ho:cs[o]?=some (.int .u64 (n:Nat))):
  WC F fX3 [.c (.ptr (some (p,o)))] H fun v H'=>v=.c (.int .u64 (n:Nat))∧H'=H:=by
 refine WC_start eX3 (by simp) ?_
 unfold cX3
 have h0:=s_LoadUint64 hb ho
 clear hb ho
 repeat (with_reducible first|(first|refine pI1 ?_|refine pS1 ?_);intros|refine pA1 ?_|refine pX1 ?_|refine pB1 ?_|exact True.intro)
 refine outM_call h0 ?_
 rintro _ H1 ⟨rfl,rfl⟩
 repeat (with_reducible first|(first|refine pI1 ?_|refine pS1 ?_);intros|refine pA1 ?_|refine pX1 ?_|refine pB1 ?_|exact True.intro)
 exact⟨rfl,rfl⟩
theorem s_Add {H:Heap} {p o n k:Nat} {cs:List Cell} {g:Option Nat} (hb:H[p]?=some (.cells cs false g)) (ho:cs[o]?=some (.int .u64 (n:Nat))):
  WC F fX2 [.c (.ptr (some (p,o))),.c (.int .u64 (k:Nat))] H fun _ H'=>H'[p]?=some (.cells (cs.set o (.int .u64 ((n+k) % 18446744073709551616:Nat))) false g)∧H'.length=H.length∧∀b,b≠p→H'[b]?=H[b]?:=by
 refine WC_start eX2 (by simp) ?_
 unfold cX2
 have h0:=s_AddUint64 (k:=k) hb ho
 clear hb ho
 repeat (with_reducible first|(first|refine pI1 ?_|refine pS1 ?_);intros|refine pA1 ?_|refine pX1 ?_|refine pB1 ?_|exact True.intro)
 refine outM_call h0 ?_
 rintro v H1 ⟨h1,h2,h3⟩
 have fin:=zhd3 h1 h2 h3
 clear h1 h2 h3 h0
 repeat (with_reducible first|(first|refine pI1 ?_|refine pS1 ?_);intros|refine pA1 ?_|refine pX1 ?_|refine pB1 ?_|exact True.intro)
 exact fin _ fun h1 h2 h3=>⟨h1,h2,h3⟩
theorem s_CloneI {H:Heap} {a:Option Ad} {n c:Nat} {o:Bool} {xs:List Cell} (hs:Sl H 1 a n xs) (h0:0<n) (hn:n≤100000):
  WC F fX27 [.c (.sl a n c o)] H fun v H'=>∃e,v=.c (.sl (some (e,0)) n n true)∧H'[e]?=some (.cells xs false (some 1))∧H.length≤e∧e<H'.length∧Xt H H':=by
 refine WC_start eX27 (by simp) ?_
 unfold cX27
 obtain⟨a,rfl⟩:=hs.is_some h0
 repeat (with_reducible first|(first|refine pI1 ?_|refine pS1 ?_);intros|refine pA1 ?_|refine pX1 ?_|refine pB1 ?_|exact True.intro)
 rename_i b1 H1 l1 g1 x1
 repeat (with_reducible first|(first|refine pI1 ?_|refine pS1 ?_);intros|refine pA1 ?_|refine pX1 ?_|refine pB1 ?_|exact True.intro)
 refine outM_appC (Sl.blk g1 rfl) (hs.to (H':=H1) fun b hb=>x1 b (by omega)) h0 (by unfold most;omega) ?_
 intro e H2 k1 k2 k3
 rw[Nat.zero_add]
 rw[List.nil_append] at k2
 repeat (with_reducible first|(first|refine pI1 ?_|refine pS1 ?_);intros|refine pA1 ?_|refine pX1 ?_|refine pB1 ?_|exact True.intro)
 exact⟨_,rfl,k2,by omega,by omega,by omega,fun b hb=>by rw[k3 b (by omega),x1 b (by omega)]⟩
theorem s_owner {H:Heap} {p:Nat} {a:Option Ad} {c:Nat} {o:Bool} {ws:List Int} {bl pa:Nat} {slot:Int} (hb:BusM H p a c o ws bl pa) (hw:ws.length≤100000) (hs:i64 slot):
  WC F fX7 [.c (.ptr (some (p,0))),.c (.int .i64 slot)] H fun v H'=>v=.c (.int .i64 (ownF ws slot))∧H'=H:=by
 refine WC_start eX7 (by simp) ?_
 unfold cX7
 obtain⟨h1,h2,-⟩:=hb
 obtain⟨s1,s2⟩:=hs
 obtain⟨n,hn⟩:∃n,ws.length=n:=⟨_,rfl⟩
 rw[hn] at h1 h2 hw
 by_cases c1:slot<0
 ·have e:ownF ws slot=-1:=by unfold ownF;rw[if_pos (.inl c1)]
  rw[e]
  clear h2 hn
  repeat (with_reducible first|(first|refine pI1 ?_|refine pS1 ?_);intros|refine pA1 ?_|refine pX1 ?_|refine pB1 ?_|exact True.intro)
  exact⟨rfl,rfl⟩
 by_cases c2:n=0
 ·have e:ownF ws slot=-1:=by unfold ownF;rw[if_pos (.inr (by omega))]
  rw[e]
  subst c2
  clear h2 hn
  repeat (with_reducible first|(first|refine pI1 ?_|refine pS1 ?_);intros|refine pA1 ?_|refine pX1 ?_|refine pB1 ?_|exact True.intro)
  exact⟨rfl,rfl⟩
 obtain⟨s,rfl⟩:∃s:Nat,slot=s:=⟨slot.toNat,by omega⟩
 obtain⟨q,hq⟩:∃q,q=s % n:=⟨_,rfl⟩
 have hlt:q<n:=by rw[hq];exact Nat.mod_lt _ (by omega)
 have e:ownF ws s=gn ws q:=by unfold ownF;rw[if_neg (by omega),hq,hn,Int.toNat_natCast]
 rw[e]
 obtain⟨⟨lb,y⟩,rfl⟩:=h2.is_some (by omega)
 have hg:=h2.gn hn hlt
 dsimp only at hg
 have hr:(s:Int) % (n:Int)=(q:Nat):=by rw[hq];rfl
 clear h2 hn e hq
 generalize gn ws q=w at *
 repeat (with_reducible first|(first|refine pI1 ?_|refine pS1 ?_);intros|refine pA1 ?_|refine pX1 ?_|refine pB1 ?_|exact True.intro)
 exact⟨rfl,rfl⟩
end Go.Proofs.YtjcgdcadflplcaaDoor.AM.D21
namespace Go.Proofs.YtjcgdcadflplcaaDoor.AM.D21
open Go Go.Proofs.YtjcgdcadflplcaaDoor.AM Go.Proofs.YtjcgdcadflplcaaDoor.AM.C02 Go.Proofs.YtjcgdcadflplcaaDoor.AM.C07
set_option maxHeartbeats 2000000
set_option maxRecDepth 100000
attribute [local go_sem] tn_add1 tn_sub1 put_all' nums_len sub12
theorem s_New {N:Nat} {H:Heap} {c:Cfg} {h:Hd} (hc:CfgM N H c h) (hN:N≤H.length):WC F fXa [.agg (c.cells h)] H fun v H'=>Xt H H'∧
  ((c.check≠0∧v=.tup [.c (.ptr none),.c (.int .i64 c.check)])∨(c.check=0∧∃p e,v=.tup [.c (.ptr (some (p,0))),.c (.int .i64 0)]∧H.length≤p∧p<H'.length∧H.length≤e∧e<H'.length∧BusM H' p (some (e,0)) c.owners.length true c.owners 0 0)):=by
 refine WC_start eXa (by simp) ?_
 unfold cXa
 have hck:=fun(Hx:Heap) (hx:∀b,b<N→Hx[b]?=H[b]?) (hl:N≤Hx.length)=>s_Check (hc.keep (H':=Hx) hx) hl
 have hown:=hc.owners
 have hownN:=hc.ownersN
 obtain⟨C,hC⟩:∃C,C=c.cells h:=⟨_,rfl⟩
 have hsub:sub C 0 12=some C:=by rw[hC];rfl
 have hfld:C[1]?=some (.sl h.a1 c.owners.length h.c1 h.o1):=by rw[hC];rfl
 rw[←hC] at hck ⊢
 have hok:c.check=0→4≤c.owners.length∧c.owners.length≤16:=fun h0=>by
  obtain⟨q1,q2,q3,_⟩:=(Cfg.check_ok.1 h0).nodes
  omega
 obtain⟨k,hk⟩:∃k,k=c.check:=⟨_,rfl⟩
 rw[←hk] at hck hok ⊢
 obtain⟨n,hn⟩:∃n,n=c.owners.length:=⟨_,rfl⟩
 rw[←hn] at hown hfld hok ⊢
 have fin0:=zhd5 hck hown hownN hok hn
 clear hck hown hownN hok hn hk hC hc
 repeat (with_reducible first|(first|refine pI1 ?_|refine pS1 ?_);intros|refine pA1 ?_|refine pX1 ?_|refine pB1 ?_|exact True.intro)
 rename_i b1 H1 p1 g1 x1
 have fx:=zhd1 x1
 clear x1
 repeat (with_reducible first|(first|refine pI1 ?_|refine pS1 ?_);intros|refine pA1 ?_|refine pX1 ?_|refine pB1 ?_|exact True.intro)
 refine outM_call (fin0 _ fun hck _ _ _ _=>hck H1 (fun b hb=>fx _ fun x1=>x1 b (by omega)) (by omega)) ?_
 rintro _ H2 ⟨rfl,l2,x2⟩
 have g2:H2[b1]?=_:=(x2 b1 (by omega)).trans g1
 have fx2:=zhd1 x2
 clear x2 g1
 by_cases h0:k=0
 case neg=>
  repeat (with_reducible first|(first|refine pI1 ?_|refine pS1 ?_);intros|refine pA1 ?_|refine pX1 ?_|refine pB1 ?_|exact True.intro)
  exact⟨⟨by omega,fun b hb=>by rw[fx2 _ fun x2=>x2 b (by omega)];exact fx _ fun x1=>x1 b (by omega)⟩,.inl ⟨h0,rfl⟩⟩
 subst h0
 have hs2:Sl H2 1 h.a1 n (nums c.owners):=fin0 _ fun _ hown hN' _ _=>hown.keep fun b x e=>by
  have:=hN' b x e
  rw[fx2 _ fun x2=>x2 b (by omega)];exact fx _ fun x1=>x1 b (by omega)
 have hn4:=fin0 _ fun _ _ _ hok _=>hok rfl
 have hcl:=s_CloneI (c:=h.c1) (o:=h.o1) hs2 (by omega) (by omega)
 clear hs2
 repeat (with_reducible first|(first|refine pI1 ?_|refine pS1 ?_);intros|refine pA1 ?_|refine pX1 ?_|refine pB1 ?_|exact True.intro)
 refine outM_call hcl ?_
 rintro _ H3 ⟨e,rfl,g3,p3,q3,l3,x3⟩
 clear hcl
 have fx3:=zhd2 x3 g3
 clear x3 g3
 repeat (with_reducible first|(first|refine pI1 ?_|refine pS1 ?_);intros|refine pA1 ?_|refine pX1 ?_|refine pB1 ?_|exact True.intro)
 rename_i b4 H4 p4 g4 x4
 have fx4:=zhd1 x4
 clear x4
 repeat (with_reducible first|(first|refine pI1 ?_|refine pS1 ?_);intros|refine pA1 ?_|refine pX1 ?_|refine pB1 ?_|exact True.intro)
 have hall:∀b,b<H.length→H4[b]?=H[b]?:=fun b hb=>by
  rw[fx4 _ fun x4=>x4 b (by omega),fx3 _ fun x3 _=>x3 b (by omega),fx2 _ fun x2=>x2 b (by omega)];exact fx _ fun x1=>x1 b (by omega)
 refine⟨⟨by omega,hall⟩,.inr ⟨rfl,b4,e,rfl,by omega,by omega,by omega,by omega,?_⟩⟩
 have hn:=fin0 _ fun _ _ _ _ hn=>hn
 refine⟨by rw[←hn];exact g4,?_,fun b x e'=>by cases e';omega⟩
 refine Sl.blk ((fx4 _ fun x4=>x4 e (by omega)).trans (fx3 _ fun _ g3=>g3)) (by rw[nums_len])
theorem s_pass1 {H:Heap} {b:Nat} {ow nd:Int} {x:Cell} (hb:H[b]?=some (.cells [.int .i64 ow] false none)):
  WC F fX9 [.agg [.int .i64 nd,x],.c (.ptr (some (b,0)))] H fun v H'=>v=.c (.bool (decide (0≤ow∧nd=ow)))∧Xt H H':=by
 refine WC_start eX9 (by simp) ?_
 unfold cX9
 have hlt:=lt_of_get hb
 repeat (with_reducible first|(first|refine pI1 ?_|refine pS1 ?_);intros|refine pA1 ?_|refine pX1 ?_|refine pB1 ?_|exact True.intro)
 rename_i b1 H1 p1 g1 x1
 have k1:H1[b]?=_:=(x1 b (by omega)).trans hb
 have fx:=zhd1 x1
 clear x1 hb
 by_cases c1:0≤ow
 ·by_cases c2:nd=ow
  ·subst c2
   repeat (with_reducible first|(first|refine pI1 ?_|refine pS1 ?_);intros|refine pA1 ?_|refine pX1 ?_|refine pB1 ?_|exact True.intro)
   exact⟨by simp[c1],by omega,fun b hb=>fx _ fun x1=>x1 b (by omega)⟩
  ·repeat (with_reducible first|(first|refine pI1 ?_|refine pS1 ?_);intros|refine pA1 ?_|refine pX1 ?_|refine pB1 ?_|exact True.intro)
   exact⟨by simp[c1,c2],by omega,fun b hb=>fx _ fun x1=>x1 b (by omega)⟩
 ·repeat (with_reducible first|(first|refine pI1 ?_|refine pS1 ?_);intros|refine pA1 ?_|refine pX1 ?_|refine pB1 ?_|exact True.intro)
  exact⟨by simp[c1],by omega,fun b hb=>fx _ fun x1=>x1 b (by omega)⟩
end Go.Proofs.YtjcgdcadflplcaaDoor.AM.D21
namespace Go.Proofs.YtjcgdcadflplcaaDoor.AM.D21
open Go Go.Proofs.YtjcgdcadflplcaaDoor.AM Go.Proofs.YtjcgdcadflplcaaDoor.AM.C02 Go.Proofs.YtjcgdcadflplcaaDoor.AM.C07
set_option maxHeartbeats 2000000
set_option maxRecDepth 100000
attribute [local go_sem] tn_add1 tn_sub1 put_all' nums_len
theorem sub2 (a b:Cell):sub [a,b] 0 2=some [a,b]:=rfl
attribute [local go_sem] sub2
theorem s_IndexFunc {N p:Nat} {H:Heap} {b8 n c:Nat} {o:Bool} {ow:Int} {a:Option Ad} {l:List Snd} (hb:H[b8]?=some (.cells [.int .i64 ow] false none)) (hn:l.length=n) (hn2:n≤100000) (ht:Snds N p H a l) (hN:N≤H.length):
  WC F fX29 [.c (.sl a n c o),.c (.fn fX9 [] [(b8,0)])] H fun v H'=>((v=.c (.int .i64 (-1))∧noneP ow l)∨∃i:Nat,v=.c (.int .i64 (i:Nat))∧fstP ow l i)∧Xt H H':=by
 refine WC_start eX29 (by simp) ?_
 unfold cX29
 have hlt:=lt_of_get hb
 have fin0:=zhd3 hn ht hb
 clear hn ht hb
 repeat (with_reducible first|(first|refine pI1 ?_|refine pS1 ?_);intros|refine pA1 ?_|refine pX1 ?_|refine pB1 ?_|exact True.intro)
 refine W_loop (fun m st=>∃ρ,∃i:Nat,∃Hk,st=⟨L 19 ρ,[],Hk⟩∧m=n-i∧i≤n∧ρ 0=.c (.sl a n c o)∧ρ 1=.c (.fn fX9 [] [(b8,0)])∧ρ 7=.c (.int .i64 (n:Nat))∧ρ 8=.c (.int .i64 (i:Nat))∧Xt H Hk∧∀j,j<i→0≤ow→(gs l j).node≠ow) n ⟨_,0,H,rfl,rfl,by omega,zf,zf,zf,zf,⟨Nat.le_refl _,fun _ _=>rfl⟩,fun j hj=>by omega⟩ ?_
 rintro m st ⟨ρ,i,Hk,rfl,rfl,hi,e0,e1,e7,e8,⟨lk,xk⟩,hall⟩
 unfold bX29_7
 have fin1:=zhd2 hall xk
 have k8:Hk[b8]?=_:=(xk b8 (by omega)).trans (fin0 _ fun _ _ hb=>hb)
 clear hall xk
 by_cases hin:i<n
 ·obtain⟨lb,y,a',c',o',ea,hlb,-,hld,-⟩:=fin0 _ fun hn ht _=>send_at ht (i:=i) (by omega)
  rw[←fin1 _ fun _ xk=>xk lb (by omega)] at hld
  rw[ea] at e0
  have fea:=zhd1 ea
  clear ea
  have hyes:0≤ow→(gs l i).node=ow→fstP ow l i:=fun h1 h2=>⟨by have:=fin0 _ fun hn _ _=>hn;omega,h1,h2,fun j hj=>fin1 _ fun hall _=>hall j hj h1⟩
  have hno:¬(0≤ow∧(gs l i).node=ow)→∀j,j<i+1→0≤ow→(gs l j).node≠ow:=fun h j hj h1 h2=>by
   by_cases e:j=i
   ·subst e;exact h ⟨h1,h2⟩
   ·exact fin1 _ fun hall _=>hall j (by omega) h1 h2
  generalize (gs l i).node=nd at *
  generalize (gs l i).bytes.length=bn at *
  have fin2:=zhd2 hyes hno
  clear hyes hno
  have hp1:=s_pass1 (nd:=nd) (x:=.sl a' bn c' o') k8
  clear k8
  by_cases hq:0≤ow∧nd=ow
  ·rw[decide_eq_true hq] at hp1
   have fq:=zhd1 hq
   clear hq
   repeat (with_reducible first|(first|refine pI1 ?_|refine pS1 ?_);intros|refine pA1 ?_|refine pX1 ?_|refine pB1 ?_|exact True.intro)
   refine outM_call hp1 ?_
   rintro _ H2 ⟨rfl,l2,x2⟩
   have fx:=zhd1 x2
   clear x2 hp1
   repeat (with_reducible first|(first|refine pI1 ?_|refine pS1 ?_);intros|refine pA1 ?_|refine pX1 ?_|refine pB1 ?_|exact True.intro)
   exact⟨.inr ⟨i,rfl,fin2 _ fun hy _=>fq _ fun hq=>hy hq.1 hq.2⟩,by omega,fun b hb=>by rw[fx _ fun x2=>x2 b (by omega)];exact fin1 _ fun _ xk=>xk b hb⟩
  ·rw[decide_eq_false hq] at hp1
   have fq:=zhd1 hq
   clear hq
   repeat (with_reducible first|(first|refine pI1 ?_|refine pS1 ?_);intros|refine pA1 ?_|refine pX1 ?_|refine pB1 ?_|exact True.intro)
   refine outM_call hp1 ?_
   rintro _ H2 ⟨rfl,l2,x2⟩
   have fx:=zhd1 x2
   clear x2 hp1
   repeat (with_reducible first|(first|refine pI1 ?_|refine pS1 ?_);intros|refine pA1 ?_|refine pX1 ?_|refine pB1 ?_|exact True.intro)
   refine loopQ_n (n-(i+1)) (by omega) ⟨_,i+1,H2,rfl,rfl,by omega,?_,zf,zf,zf,⟨by omega,fun b hb=>by rw[fx _ fun x2=>x2 b (by omega)];exact fin1 _ fun _ xk=>xk b hb⟩,fin2 _ fun _ hn=>fq _ fun hq=>hn hq⟩
   rw[fea _ fun h=>h]
   exact zf
 ·obtain rfl:i=n:=by omega
  repeat (with_reducible first|(first|refine pI1 ?_|refine pS1 ?_);intros|refine pA1 ?_|refine pX1 ?_|refine pB1 ?_|exact True.intro)
  exact⟨.inl ⟨rfl,fun j hj=>fin1 _ fun hall _=>hall j (by have:=fin0 _ fun hn _ _=>hn;omega)⟩,by omega,fin1 _ fun _ xk=>xk⟩
end Go.Proofs.YtjcgdcadflplcaaDoor.AM.D21
namespace Go.Proofs.YtjcgdcadflplcaaDoor.AM.D21
open Go Go.Proofs.YtjcgdcadflplcaaDoor.AM Go.Proofs.YtjcgdcadflplcaaDoor.AM.C02 Go.Proofs.YtjcgdcadflplcaaDoor.AM.C07
set_option maxHeartbeats 2000000
set_option maxRecDepth 100000
attribute [local go_sem] tn_add1 tn_sub1 put_all' nums_len
def PassQ (N:Nat) (p:Nat) (a:Option Ad) (c:Nat) (o:Bool) (ws:List Int) (bl pa:Nat) (slot:Int) (l:List Snd) (v:V) (H':Heap):Prop:=
 (noneP (ownF ws slot) l∧v=.tup [.c (.sl none 0 0 false),.c (.bool false)]∧BusM H' p a c o ws ((bl+l.length) % 18446744073709551616) pa)∨
 (∃i a' c' o',fstP (ownF ws slot) l i∧v=.tup [.c (.sl a' (gs l i).bytes.length c' o'),.c (.bool true)]∧Sl H' 1 a' (gs l i).bytes.length (nats .u8 (gs l i).bytes)∧(∀b x,a'=some (b,x)→b<N∧b≠p)∧(∀x∈(gs l i).bytes,x<256)∧BusM H' p a c o ws ((bl+(l.length-1)) % 18446744073709551616) ((pa+1) % 18446744073709551616))
def But (p:Nat) (H H':Heap):Prop:=H.length≤H'.length∧∀b,b<H.length→b≠p→H'[b]?=H[b]?
theorem s_pass {N p:Nat} {H:Heap} {a a2:Option Ad} {c c2:Nat} {o o2:Bool} {ws:List Int} {bl pa:Nat} {slot:Int} {l:List Snd} {n:Nat} (hb:BusM H p a c o ws bl pa) (hw:ws.length≤100000) (hs:i64 slot) (ht:Snds N p H a2 l) (hn:l.length=n) (hn2:n≤100000) (hN:N≤H.length):
  WC F fX8 [.c (.ptr (some (p,0))),.c (.int .i64 slot),.c (.sl a2 n c2 o2)] H fun v H'=>PassQ N p a c o ws bl pa slot l v H'∧But p H H':=by
 refine WC_start eX8 (by simp) ?_
 unfold cX8
 have how:=s_owner hb hw hs
 have hpl:p<H.length:=lt_of_get hb.1
 have hal:∀b x,a=some (b,x)→b<H.length:=fun b x e=>hb.2.1.lt e
 have fin0:=zhd3 hb ht hal
 obtain⟨ow,how2⟩:∃ow,ow=ownF ws slot:=⟨_,rfl⟩
 rw[←how2] at how
 unfold PassQ
 rw[←how2,hn]
 clear hb hw hs ht hal how2
 repeat (with_reducible first|(first|refine pI1 ?_|refine pS1 ?_);intros|refine pA1 ?_|refine pX1 ?_|refine pB1 ?_|exact True.intro)
 refine outM_call how ?_
 rintro _ H1 ⟨rfl,rfl⟩
 clear how
 repeat (with_reducible first|(first|refine pI1 ?_|refine pS1 ?_);intros|refine pA1 ?_|refine pX1 ?_|refine pB1 ?_|exact True.intro)
 rename_i b8 H0 p8 g0 x0 H2 l8 g8 x8
 have x8':∀b,b<H1.length→H2[b]?=H1[b]?:=fun b hb=>by rw[x8 b (by omega),x0 b (by omega)]
 clear x8 x0 g0
 have fx:=zhd1 x8'
 clear x8'
 have hix:=s_IndexFunc (n:=n) (c:=c2) (o:=o2) g8 hn hn2 ((fin0 _ fun _ ht _=>ht).keep (H':=H2) fun b hb _=>fx _ fun x8=>x8 b (by omega)) (by omega)
 have fg:=zhd1 g8
 clear g8
 repeat (with_reducible first|(first|refine pI1 ?_|refine pS1 ?_);intros|refine pA1 ?_|refine pX1 ?_|refine pB1 ?_|exact True.intro)
 refine outM_call hix ?_
 rintro _ H3 ⟨hv,l3,x3⟩
 clear hix
 have gp:H3[p]?=_:=((x3 p (by omega)).trans (fx _ fun x8=>x8 p (by omega))).trans (fin0 _ fun hb _ _=>hb.1)
 have hx3:∀b,b<H1.length→H3[b]?=H1[b]?:=fun b hb=>by rw[x3 b (by omega)];exact fx _ fun x8=>x8 b (by omega)
 have fx3:=zhd1 hx3
 clear hx3 x3
 rcases hv with ⟨rfl,hno⟩|⟨i,rfl,hfst⟩
 ·have had:=s_Add (k:=n) gp (o:=1) rfl
  have fno:=zhd1 hno
  clear gp hno
  repeat (with_reducible first|(first|refine pI1 ?_|refine pS1 ?_);intros|refine pA1 ?_|refine pX1 ?_|refine pB1 ?_|exact True.intro)
  refine outM_call had ?_
  rintro _ H4 ⟨h4,l4,x4⟩
  have f4:=zhd2 h4 x4
  clear h4 x4 had
  repeat (with_reducible first|(first|refine pI1 ?_|refine pS1 ?_);intros|refine pA1 ?_|refine pX1 ?_|refine pB1 ?_|exact True.intro)
  refine⟨.inl ⟨fno _ fun h=>h,rfl,?_⟩,by omega,fun b hb hp=>by rw[f4 _ fun _ x4=>x4 b hp];exact fx3 _ fun x=>x b hb⟩
  refine⟨f4 _ fun h _=>h,?_,fin0 _ fun hb _ _=>hb.2.2⟩
  exact fin0 _ fun hb _ hal=>hb.2.1.keep fun b x e=>by rw[f4 _ fun _ x4=>x4 b (hb.2.2 _ _ e)];exact fx3 _ fun x'=>x' b (hal _ _ e)
 ·have hin:i<n:=by have:=hfst.1;omega
  obtain⟨m,rfl⟩:∃m,n=m+1:=⟨n-1,by omega⟩
  have had:=s_Add (k:=m) gp (o:=1) rfl
  have ff:=zhd1 hfst
  clear gp hfst
  repeat (with_reducible first|(first|refine pI1 ?_|refine pS1 ?_);intros|refine pA1 ?_|refine pX1 ?_|refine pB1 ?_|exact True.intro)
  refine outM_call had ?_
  rintro _ H4 ⟨h4,l4,x4⟩
  have had2:=s_Add (k:=1) h4 (o:=2) rfl
  have f4:=zhd1 x4
  clear h4 x4 had
  repeat (with_reducible first|(first|refine pI1 ?_|refine pS1 ?_);intros|refine pA1 ?_|refine pX1 ?_|refine pB1 ?_|exact True.intro)
  refine outM_call had2 ?_
  rintro _ H5 ⟨h5,l5,x5⟩
  have f5:=zhd2 h5 x5
  clear h5 x5 had2
  have hx5:∀b,b<H1.length→b≠p→H5[b]?=H1[b]?:=fun b hb hp=>by rw[f5 _ fun _ x5=>x5 b hp,f4 _ fun x4=>x4 b hp];exact fx3 _ fun x=>x b hb
  have f6:=zhd1 hx5
  clear hx5
  obtain⟨lb,y,a',c',o',rfl,hlb,hlp,hld,hsl,hab,-,hby⟩:=send_at (i:=i) ((fin0 _ fun _ ht _=>ht).keep (H':=H5) fun b hb hp=>f6 _ fun h=>h b (by omega) hp) (by omega)
  obtain⟨hd0,hd1⟩:=ldB_two hld
  have f7:=zhd3 hsl hab hby
  clear hsl hab hby hld hd0
  repeat (with_reducible first|(first|refine pI1 ?_|refine pS1 ?_);intros|refine pA1 ?_|refine pX1 ?_|refine pB1 ?_|exact True.intro)
  refine⟨.inr ⟨i,a',c',o',ff _ fun h=>h,rfl,f7 _ fun h _ _=>h,fun b x e=>f7 _ fun _ h _=>⟨by have:=(h b x e).1;omega,(h b x e).2⟩,f7 _ fun _ _ h=>h,?_⟩,by omega,f6 _ fun h=>h⟩
  refine⟨f5 _ fun h _=>h,?_,fin0 _ fun hb _ _=>hb.2.2⟩
  exact fin0 _ fun hb _ hal=>hb.2.1.keep fun b x e=>f6 _ fun h=>h b (hal _ _ e) (hb.2.2 _ _ e)
theorem s_Blocked {H:Heap} {p:Nat} {a:Option Ad} {c:Nat} {o:Bool} {ws:List Int} {bl pa:Nat} (hb:BusM H p a c o ws bl pa):WC F fX4 [.c (.ptr (some (p,0)))] H fun v H'=>v=.c (.int .u64 (bl:Nat))∧H'=H:=by
 refine WC_start eX4 (by simp) ?_
 unfold cX4
 have h0:=s_Load hb.1 (o:=1) (n:=bl) rfl
 clear hb
 repeat (with_reducible first|(first|refine pI1 ?_|refine pS1 ?_);intros|refine pA1 ?_|refine pX1 ?_|refine pB1 ?_|exact True.intro)
 refine outM_call h0 ?_
 rintro _ H1 ⟨rfl,rfl⟩
 repeat (with_reducible first|(first|refine pI1 ?_|refine pS1 ?_);intros|refine pA1 ?_|refine pX1 ?_|refine pB1 ?_|exact True.intro)
 exact⟨rfl,rfl⟩
end Go.Proofs.YtjcgdcadflplcaaDoor.AM.D21
namespace Go.Proofs.YtjcgdcadflplcaaDoor.AM.D21
open Go Go.Proofs.YtjcgdcadflplcaaDoor.AM Go.Proofs.YtjcgdcadflplcaaDoor.AM.C02 Go.Proofs.YtjcgdcadflplcaaDoor.AM.C07
set_option maxHeartbeats 2000000
set_option maxRecDepth 100000
attribute [local go_sem] tn_add1 tn_sub1 put_all' nums_len
theorem outM_appN {H:Heap} {k:V→Heap→Prop} {b1:Nat} {b:Option Ad} {j c₂:Nat} {o₂:Bool} {ys:List Cell} (ha:H[b1]?=some (.cells [] false none)) (h2:Sl H 1 b j ys) (hm:j≤100000000)
  (hq:∀e c o g H',b1≤e→e<H'.length→j≤c→H'[e]?=some (.cells ys false g)→H.length≤H'.length→(∀c,c<H.length→H'[c]?=H[c]?)→k (.c (.sl (some (e,0)) j c o)) H'):
  outM F (appO 1 1 (.c (.sl (some (b1,0)) 0 0 false)) (.c (.sl b j c₂ o₂)) H) k ⟨⟩:=by
 have hl:=h2.len
 rw[Nat.mul_one] at hl
 by_cases h0:j=0
 ·subst h0
  obtain rfl:ys=[]:=List.length_eq_zero_iff.1 hl
  have e:appO 1 1 (.c (.sl (some (b1,0)) 0 0 false)) (.c (.sl b 0 c₂ o₂)) H=some (.v (.c (.sl (some (b1,0)) 0 0 false)),H):=by
   simp only[appO,aop]
   cases b with
   |none=>simp[appH]
   |some b=>
    have:=h2.rd b rfl
    simp only[this,Option.bind_some]
    simp[appH]
  rw[e]
  exact hq b1 0 false none H (Nat.le_refl _) (lt_of_get ha) (Nat.le_refl _) ha (Nat.le_refl _) fun _ _=>rfl
 ·refine outM_appC (Sl.blk ha rfl) h2 (by omega) (by unfold most;omega) ?_
  intro e H' p1 p2 p3
  rw[Nat.zero_add]
  rw[List.nil_append] at p2
  exact hq e _ _ _ H' (by have:=lt_of_get ha;omega) (by omega) (by omega) p2 (by omega) fun c hc=>p3 c (by omega)
theorem s_Carry1 {H:Heap} {b n c:Nat} {a:Option Ad} {o:Bool} {xs:List Cell} (hb:H[b]?=some (.cells [.sl a n c o] false none)) (hs:Sl H 1 a n xs) (hn:n≤100000):
  WC F fX6 [.c (.ptr (some (b,0)))] H fun v H'=>(∃e c' o' g,v=.c (.sl (some (e,0)) n c' o')∧H.length≤e∧e<H'.length∧n≤c'∧H'[e]?=some (.cells xs false g))∧Xt H H':=by
 refine WC_start eX6 (by simp) ?_
 unfold cX6
 have hlt:=lt_of_get hb
 repeat (with_reducible first|(first|refine pI1 ?_|refine pS1 ?_);intros|refine pA1 ?_|refine pX1 ?_|refine pB1 ?_|exact True.intro)
 rename_i b1 H1 p1 g1 x1
 have hb1:H1[b]?=_:=(x1 b (by omega)).trans hb
 have hs1:Sl H1 1 a n xs:=hs.to fun c hc=>x1 c (by omega)
 have hx1:∀b,b<H.length→H1[b]?=H[b]?:=fun b hb=>x1 b (by omega)
 have fx:=zhd2 hs1 hx1
 clear hb hs hs1 x1 hx1
 repeat (with_reducible first|(first|refine pI1 ?_|refine pS1 ?_);intros|refine pA1 ?_|refine pX1 ?_|refine pB1 ?_|exact True.intro)
 refine outM_appN g1 (fx _ fun h _=>h) (by omega) ?_
 intro e c' o' g H2 p2 q2 k2 g2 l2 x2
 have fx2:=zhd1 x2
 clear x2
 repeat (with_reducible first|(first|refine pI1 ?_|refine pS1 ?_);intros|refine pA1 ?_|refine pX1 ?_|refine pB1 ?_|exact True.intro)
 exact⟨⟨e,c',o',g,rfl,by omega,by omega,k2,g2⟩,by omega,fun b hb=>by rw[fx2 _ fun x2=>x2 b (by omega)];exact fx _ fun _ x=>x b hb⟩
end Go.Proofs.YtjcgdcadflplcaaDoor.AM.D21
namespace Go.Proofs.YtjcgdcadflplcaaDoor.AM.D21
open Go Go.Proofs.YtjcgdcadflplcaaDoor.AM Go.Proofs.YtjcgdcadflplcaaDoor.AM.C02 Go.Proofs.YtjcgdcadflplcaaDoor.AM.C07
set_option maxHeartbeats 2000000
set_option maxRecDepth 100000
attribute [local go_sem] tn_add1 tn_sub1 put_all' nums_len
theorem sub3k (a b c:Cell):sub [a,b,c] 0 3=some [a,b,c]:=rfl
attribute [local go_sem] sub3k
def Kp (ρ ρ':Nat→V):Prop:=ρ' 0=ρ 0∧ρ' 1=ρ 1∧ρ' 3=ρ 3∧ρ' 10=ρ 10∧ρ' 11=ρ 11∧ρ' 13=ρ 13∧ρ' 14=ρ 14∧ρ' 15=ρ 15∧ρ' 40=ρ 40∧ρ' 41=ρ 41
theorem carry_pick {ρ:Nat→V} {H:Heap} {N p b15 i n3 c3:Nat} {a a3:Option Ad} {c:Nat} {o o3:Bool} {ws:List Int} {bl pa:Nat} {slot:Int} {cps:List Cpy} (e0:ρ 0=.c (.ptr (some (p,0)))) (e1:ρ 1=.c (.int .i64 slot)) (e3:ρ 3=.c (.sl a3 n3 c3 o3)) (e14:ρ 14=.c (.int .i64 (i:Nat))) (e15:ρ 15=.c (.ptr (some (b15,0))))
  (g:H[b15]?=some (.cells cpy0.cells false none)) (hb:BusM H p a c o ws bl pa) (hw:ws.length≤100000) (hs:i64 slot) (hc:Tab 3 CpR N H a3 cps) (hn:cps.length=n3) (hn3:n3≤100000):
  W F none (.seq (.ops oX5_14) (.cond (.t 55) (.ops oX5_15) .skip)) ⟨L 84 ρ,[],H⟩ fun e s=>e=.normal∧∃ρ' H',s=⟨L 84 ρ',[],H'⟩∧Kp ρ ρ'∧H'[b15]?=some (.cells (cpF (ownF ws slot) cps i).cells false none)∧H'.length=H.length∧∀b,b≠b15→H'[b]?=H[b]?:=by
 have how:=s_owner hb hw hs
 have fin0:=zhd2 hc hn
 obtain⟨ow,how2⟩:∃ow,ow=ownF ws slot:=⟨_,rfl⟩
 rw[←how2] at how ⊢
 clear how2 hc hn hb hw hs
 by_cases c1:i<n3
 ·by_cases c2:(i:Int)=ow
  ·have e:cpF ow cps i=cpy0:=by unfold cpF;rw[if_neg fun h=>h.2 c2]
   rw[e]
   have fg:=zhd1 g
   subst c2
   clear g
   repeat (with_reducible first|(first|refine pI1 ?_|refine pS1 ?_);intros|refine pA1 ?_|refine pX1 ?_|refine pB1 ?_|exact True.intro)
   refine outM_call how ?_
   rintro _ H1 ⟨rfl,rfl⟩
   clear how
   repeat (with_reducible first|(first|refine pI1 ?_|refine pS1 ?_);intros|refine pA1 ?_|refine pX1 ?_|refine pB1 ?_|exact True.intro)
   exact⟨rfl,_,_,rfl,⟨zf,zf,zf,zf,zf,zf,zf,zf,zf,zf⟩,fg _ fun g=>g,rfl,fun _ _=>rfl⟩
  ·have e:cpF ow cps i=gc cps i:=by unfold cpF;rw[if_pos ⟨by rw[fin0 _ fun _ h=>h];exact c1,c2⟩]
   rw[e]
   obtain⟨lb,y,ea,-,hld,-⟩:=fin0 _ fun hc hn=>copy_at hc (i:=i) (by omega)
   generalize gc cps i=q at *
   obtain⟨k,az,mk⟩:=q
   dsimp only [Cpy.cells,cpy0] at hld g ⊢
   rw[ea] at e3
   clear ea e
   repeat (with_reducible first|(first|refine pI1 ?_|refine pS1 ?_);intros|refine pA1 ?_|refine pX1 ?_|refine pB1 ?_|exact True.intro)
   refine outM_call how ?_
   rintro _ H1 ⟨rfl,rfl⟩
   clear how
   repeat (with_reducible first|(first|refine pI1 ?_|refine pS1 ?_);intros|refine pA1 ?_|refine pX1 ?_|refine pB1 ?_|exact True.intro)
   have lg:=lt_of_get g
   exact⟨rfl,_,_,rfl,⟨zf,zf,zf,zf,zf,zf,zf,zf,zf,zf⟩,get_set_same _ lg,by rw[List.length_set],fun b hb=>List.getElem?_set_ne (Ne.symm hb)⟩
 ·have e:cpF ow cps i=cpy0:=by unfold cpF;rw[if_neg fun h=>c1 (by rw[←fin0 _ fun _ h=>h];exact h.1)]
  rw[e]
  have fg:=zhd1 g
  clear g how
  repeat (with_reducible first|(first|refine pI1 ?_|refine pS1 ?_);intros|refine pA1 ?_|refine pX1 ?_|refine pB1 ?_|exact True.intro)
  exact⟨rfl,_,_,rfl,⟨zf,zf,zf,zf,zf,zf,zf,zf,zf,zf⟩,fg _ fun g=>g,rfl,fun _ _=>rfl⟩
end Go.Proofs.YtjcgdcadflplcaaDoor.AM.D21
namespace Go.Proofs.YtjcgdcadflplcaaDoor.AM.D21
open Go Go.Proofs.YtjcgdcadflplcaaDoor.AM Go.Proofs.YtjcgdcadflplcaaDoor.AM.C02 Go.Proofs.YtjcgdcadflplcaaDoor.AM.C07
set_option maxHeartbeats 2000000
set_option maxRecDepth 100000
attribute [local go_sem] tn_add1 tn_sub1 put_all' nums_len
theorem carry_put {ρ:Nat→V} {H:Heap} {b15 b11 bo lo m i n c':Nat} {a':Option Ad} {o':Bool} {l:List Nat} {cp:Cpy} {f:Nat→Option (List Nat)} (e10:ρ 10=.c (.sl (some (bo,0)) m m false)) (e11:ρ 11=.c (.ptr (some (b11,0)))) (e13:ρ 13=.c (.fn fX6 [] [(b11,0)])) (e14:ρ 14=.c (.int .i64 (i:Nat))) (e15:ρ 15=.c (.ptr (some (b15,0))))
  (g15:H[b15]?=some (.cells cp.cells false none)) (g11:H[b11]?=some (.cells [.sl a' n c' o'] false none)) (hs:Sl H 1 a' n (nats .u8 l)) (hln:l.length=n) (hn:n≤100000) (hby:∀x∈l,x<256) (ho:Outs H lo bo m f) (hi:i<m) (hlo:lo≤bo) (h0:f i=none) (hcp:i64 cp.at_∧cp.mask<4294967296):
  W F none (.seq (.ops oX5_16) (.block 3 (.seq (.ops oX5_17) (.cond (.t 67) .skip (.seq (.ops oX5_18) (.cond (.t 69) (.ops oX5_19) (.ops oX5_20))))))) ⟨L 84 ρ,[],H⟩ fun e s=>e=.normal∧∃ρ' H',s=⟨L 84 ρ',[],H'⟩∧Kp ρ ρ'∧H.length≤H'.length∧(∀b,b<H.length→b≠bo→H'[b]?=H[b]?)∧Outs H' lo bo m (fun j=>if j=i then becomes cp l else f j):=by
 have hbo:bo<H.length:=by obtain⟨_,h,_⟩:=ho;exact lt_of_get h
 have l11:=lt_of_get g11
 have hme:∃k1 k2 k3,cp=⟨k1,k2,k3⟩:=⟨_,_,_,rfl⟩
 obtain⟨kd,az,mk,rfl⟩:=hme
 obtain⟨⟨ha1,ha2⟩,hmk⟩:=hcp
 dsimp only at ha1 ha2 hmk
 dsimp only [Cpy.cells] at g15
 have fin0:=zhd4 hs hln hby ho
 clear hs hln hby ho
 by_cases k1:kd=1
 ·have e:∀f',f'=becomes ⟨kd,az,mk⟩ l→f'=f i:=fun f' h=>by rw[h,h0];unfold becomes;rw[if_pos k1]
  subst k1
  have hfe:=zhd1 e
  clear e h0
  repeat (with_reducible first|(first|refine pI1 ?_|refine pS1 ?_);intros|refine pA1 ?_|refine pX1 ?_|refine pB1 ?_|exact True.intro)
  refine⟨rfl,_,_,rfl,⟨zf,zf,zf,zf,zf,zf,zf,zf,zf,zf⟩,Nat.le_refl _,fun _ _ _=>rfl,?_⟩
  refine(fin0 _ fun _ _ _ ho=>ho).same fun j _=>?_
  by_cases hji:j=i
  ·rw[if_pos hji,hji];exact(hfe _ fun h=>(h _ rfl)).symm
  ·rw[if_neg hji]
 by_cases k2:kd=2
 ·have e:becomes ⟨kd,az,mk⟩ l=some (P3.corr l az mk):=by unfold becomes;rw[if_neg k1,if_pos k2]
  rw[e]
  subst k2
  clear e h0 k1
  have hco:=fun(Hx:Heap) (hx:Xt H Hx)=>s_Corrupt (c:=c') (o:=o') (at_:=az) (mask:=mk) ((fin0 _ fun hs _ _ _=>hs).to fun b hb=>hx.2 b hb) hn ha1 ha2 hmk (fin0 _ fun _ _ hby _=>hby)
  have fco:=zhd1 hco
  clear hco
  repeat (with_reducible first|(first|refine pI1 ?_|refine pS1 ?_);intros|refine pA1 ?_|refine pX1 ?_|refine pB1 ?_|exact True.intro)
  rename_i b1 H1 p1 g1 x1
  have fx:=zhd1 x1
  have g111:H1[b11]?=_:=(x1 b11 (by omega)).trans g11
  have g151:H1[b15]?=_:=(x1 b15 (by have:=lt_of_get g15;omega)).trans g15
  clear x1
  repeat (with_reducible first|(first|refine pI1 ?_|refine pS1 ?_);intros|refine pA1 ?_|refine pX1 ?_|refine pB1 ?_|exact True.intro)
  refine outM_call (fco _ fun h=>h H1 ⟨by omega,fun b hb=>fx _ fun x1=>x1 b (by omega)⟩) ?_
  rintro v H2 ⟨⟨a2,c2,o2,rfl,own,hlo2⟩,l2,x2⟩
  have hcl:(nats .u8 (P3.corr l az mk)).length=n:=by rw[nats_len,P3.corr_len];exact fin0 _ fun _ h _ _=>h
  rw[hcl] at own ⊢
  have g12:H2[b1]?=_:=(x2 b1 (by omega)).trans g1
  have hx2:∀b,b<H.length→H2[b]?=H[b]?:=fun b hb=>by rw[x2 b (by omega)];exact fx _ fun x1=>x1 b (by omega)
  have fx2:=zhd2 hx2 own.sl
  clear hx2 x2 own hcl g111 g151 g1
  repeat (with_reducible first|(first|refine pI1 ?_|refine pS1 ?_);intros|refine pA1 ?_|refine pX1 ?_|refine pB1 ?_|exact True.intro)
  refine outM_appN g12 (fx2 _ fun _ h=>h) (by omega) ?_
  intro e c3 o3 g H3 p3 q3 k3 g3 l3 x3
  have hx3:∀b,b<H.length→H3[b]?=H[b]?:=fun b hb=>by rw[x3 b (by omega)];exact fx2 _ fun x2 _=>x2 b hb
  obtain⟨cells,q1,q2,q3'⟩:=(fin0 _ fun _ _ _ ho=>ho).keep (H':=H3) hlo fun b _ hb=>hx3 b hb
  have fx3:=zhd3 hx3 q3' g3
  clear hx3 x3 q3' g3 g12
  repeat (with_reducible first|(first|refine pI1 ?_|refine pS1 ?_);intros|refine pA1 ?_|refine pX1 ?_|refine pB1 ?_|exact True.intro)
  rename_i H4 l4 g4 x4
  refine⟨rfl,_,_,rfl,⟨zf,zf,zf,zf,zf,zf,zf,zf,zf,zf⟩,by omega,fun b hb hb2=>?_,?_⟩
  ·rw[x4 b hb2];exact fx3 _ fun x _ _=>x b hb
  ·exact Outs.put q2 (fx3 _ fun _ h _=>h) hi (by omega) (by omega) (fx3 _ fun _ _ h=>h) (by rw[P3.corr_len];exact fin0 _ fun _ h _ _=>h) (P3.corr_by (fin0 _ fun _ _ h _=>h) _ _) k3 g4 x4
 ·have e:becomes ⟨kd,az,mk⟩ l=some l:=by unfold becomes;rw[if_neg k1,if_neg k2]
  rw[e]
  clear e h0
  have hca:=s_Carry1 g11 (fin0 _ fun hs _ _ _=>hs) hn
  clear g11
  repeat (with_reducible first|(first|refine pI1 ?_|refine pS1 ?_);intros|refine pA1 ?_|refine pX1 ?_|refine pB1 ?_|exact True.intro)
  refine outM_call hca ?_
  rintro v H3 ⟨⟨e,c3,o3,g,rfl,p3,q3,k3,g3⟩,l3,x3⟩
  obtain⟨cells,q1,q2,q3'⟩:=(fin0 _ fun _ _ _ ho=>ho).keep (H':=H3) hlo fun b _ hb=>x3 b hb
  have fx3:=zhd3 x3 q3' g3
  clear x3 q3' g3 hca g15
  repeat (with_reducible first|(first|refine pI1 ?_|refine pS1 ?_);intros|refine pA1 ?_|refine pX1 ?_|refine pB1 ?_|exact True.intro)
  rename_i H4 l4 g4 x4
  refine⟨rfl,_,_,rfl,⟨zf,zf,zf,zf,zf,zf,zf,zf,zf,zf⟩,by omega,fun b hb hb2=>?_,?_⟩
  ·rw[x4 b hb2];exact fx3 _ fun x _ _=>x b hb
  ·exact Outs.put q2 (fx3 _ fun _ h _=>h) hi (by omega) (by omega) (fx3 _ fun _ _ h=>h) (fin0 _ fun _ h _ _=>h) (fin0 _ fun _ _ h _=>h) k3 g4 x4
end Go.Proofs.YtjcgdcadflplcaaDoor.AM.D21
namespace Go.Proofs.YtjcgdcadflplcaaDoor.AM.D21
open Go Go.Proofs.YtjcgdcadflplcaaDoor.AM Go.Proofs.YtjcgdcadflplcaaDoor.AM.C02 Go.Proofs.YtjcgdcadflplcaaDoor.AM.C07
set_option maxHeartbeats 2000000
set_option maxRecDepth 100000
attribute [local go_sem] tn_add1 tn_sub1 put_all' nums_len
def CarQ (H:Heap) (p:Nat) (a:Option Ad) (c:Nat) (o:Bool) (ws:List Int) (bl pa:Nat) (slot:Int) (l:List Snd) (cps:List Cpy) (v:V) (H':Heap):Prop:=
 ∃bo f,v=.tup [.c (.sl (some (bo,0)) ws.length ws.length false),.c (.int .i64 0)]∧H.length≤bo∧bo<H'.length∧Outs H' H.length bo ws.length f∧
  ((noneP (ownF ws slot) l∧(∀j,f j=none)∧BusM H' p a c o ws ((bl+l.length) % 18446744073709551616) pa)∨
   ∃i,fstP (ownF ws slot) l i∧(∀j,j<ws.length→f j=becomes (cpF (ownF ws slot) cps j) (gs l i).bytes)∧BusM H' p a c o ws ((bl+(l.length-1)) % 18446744073709551616) ((pa+1) % 18446744073709551616))
theorem tabC_keep {N:Nat} {H H':Heap} {a:Option Ad} {l:List Cpy} (h:Tab 3 CpR N H a l) (hx:∀b x,a=some (b,x)→b<N→H'[b]?=H[b]?):Tab 3 CpR N H' a l:=fun i e he=>by
 obtain⟨⟨b,y⟩,cs,rfl,h1,h2,h3⟩:=h i e he
 exact⟨(b,y),cs,rfl,h1,by rw[hx b y rfl h1];exact h2,h3⟩
theorem _root_.Go.Proofs.YtjcgdcadflplcaaDoor.AM.C07.BusM.keep {H H':Heap} {p:Nat} {a:Option Ad} {c:Nat} {o:Bool} {ws:List Int} {bl pa:Nat} (h:BusM H p a c o ws bl pa) (hx:∀b,b=p∨(∃x,a=some (b,x))→H'[b]?=H[b]?):BusM H' p a c o ws bl pa:=
 ⟨(hx p (.inl rfl)).trans h.1,h.2.1.keep fun b x e=>hx b (.inr ⟨x,e⟩),h.2.2⟩
theorem mkslO_nil {H:Heap} {m:Nat} (h:m≤100000):mkslO 1 24 [Cell.sl none 0 0 false] (.c (.int .i64 (m:Nat))) (.c (.int .i64 (m:Nat))) H=some (.v (.c (.sl (some (H.length,0)) m m false)),H++[.cells (List.replicate m nilC) false none]):=by
 have hgr:∀m,grows [nilC] m=List.replicate m nilC:=fun m=>by
  unfold grows
  induction m with
  |zero=>rfl
  |succ m ih=>rw[List.replicate_succ,List.flatten_cons,ih,List.replicate_succ];rfl
 have e:=mkslO_int (H:=H) (sz:=1) (by_:=24) (z:=[nilC]) (i:=.i64) (i':=.i64) (l:=(m:Nat)) (c:=(m:Nat)) ⟨by omega,by omega,by omega⟩ rfl
 rw[Int.toNat_natCast,hgr] at e
 exact e
theorem s_Carry {N p:Nat} {H:Heap} {a a2 a3:Option Ad} {c c2 c3:Nat} {o o2 o3:Bool} {ws:List Int} {bl pa:Nat} {slot:Int} {l:List Snd} {cps:List Cpy} {n k:Nat}
  (hb:BusM H p a c o ws bl pa) (hw:ws.length≤100000) (hs:i64 slot) (h0:0≤slot) (ht:Snds N p H a2 l) (hn:l.length=n) (hn2:n≤100000) (hbytes:∀i,i<n→(gs l i).bytes.length≤100000) (hc:Tab 3 CpR N H a3 cps) (h3:∀b x,a3=some (b,x)→b≠p) (hk:cps.length=k) (hk2:k≤100000) (hN:N≤H.length):
  WC F fX5 [.c (.ptr (some (p,0))),.c (.int .i64 slot),.c (.sl a2 n c2 o2),.c (.sl a3 k c3 o3)] H fun v H'=>CarQ H p a c o ws bl pa slot l cps v H'∧But p H H':=by
 refine WC_start eX5 (by simp) ?_
 unfold cX5
 have hpl:p<H.length:=lt_of_get hb.1
 have hal:∀b x,a=some (b,x)→b<H.length:=fun b x e=>hb.2.1.lt e
 have hb1:=hb.1
 have fin0:=zhd8 hb ht hal hbytes hc h3 hk hs
 unfold CarQ
 obtain⟨ow,how⟩:∃ow,ow=ownF ws slot:=⟨_,rfl⟩
 have fow:=zhd1 how
 rw[←how]
 obtain⟨m,hm⟩:∃m,ws.length=m:=⟨_,rfl⟩
 have fm:=zhd2 hm hn
 rw[hm] at hb1 hw ⊢
 clear hb hs ht hal hbytes hc h3 hk how hm
 have hs0:¬slot<0:=by omega
 repeat (with_reducible first|(first|refine pI1 ?_|refine pS1 ?_);intros|refine pA1 ?_|refine pX1 ?_|refine pB1 ?_|exact True.intro)
 rw[mkslO_nil hw]
 repeat (with_reducible first|(first|refine pI1 ?_|refine pS1 ?_);intros|refine pA1 ?_|refine pX1 ?_|refine pB1 ?_|exact True.intro)
 rename_i bo H1 p1 g1 x1
 have fx:=zhd2 x1 g1
 have hx1:∀b,b<H.length→H1[b]?=H[b]?:=fun b hb=>x1 b (by omega)
 have hpa:=s_pass (c2:=c2) (o2:=o2) (slot:=slot) ((fin0 _ fun hb _ _ _ _ _ _ _=>hb).keep (H':=H1) fun b hb=>hx1 b (by rcases hb with rfl|⟨x,e⟩;exact hpl;exact fin0 _ fun _ _ hal _ _ _ _ _=>hal _ _ e)) (by rw[fm _ fun h _=>h];exact hw) (fin0 _ fun _ _ _ _ _ _ _ h=>h)
  ((fin0 _ fun _ ht _ _ _ _ _ _=>ht).keep fun b hb _=>hx1 b (by omega)) hn hn2 (by omega)
 clear x1 g1 hx1 hn
 repeat (with_reducible first|(first|refine pI1 ?_|refine pS1 ?_);intros|refine pA1 ?_|refine pX1 ?_|refine pB1 ?_|exact True.intro)
 refine outM_call hpa ?_
 rintro v H2 ⟨hq,l2,x2⟩
 clear hpa hb1
 have hx2:∀b,b<H.length→b≠p→H2[b]?=H[b]?:=fun b hb hp=>by rw[x2 b (by omega) hp];exact fx _ fun x1 _=>x1 b (by omega)
 have ho2:Outs H2 H.length bo m fun _=>none:=by
  refine⟨List.replicate m nilC,?_,List.length_replicate,fun j hj=>?_⟩
  ·rw[x2 bo (by omega) (by omega)]
   exact fx _ fun _ g1=>g1
  ·show _=_
   rw[List.getElem?_replicate,if_pos hj]
 have f2:=zhd2 hx2 ho2
 clear x2 hx2 ho2
 unfold PassQ at hq
 rw[←fow _ fun h=>h] at hq
 have hn:=fm _ fun _ h=>h
 rcases hq with ⟨hno,rfl,hbm⟩|⟨i,a',c',o',hfst,rfl,hsl,hab,hby,hbm⟩
 ·have f3:=zhd3 hno hbm hn
  clear hno hbm hn
  repeat (with_reducible first|(first|refine pI1 ?_|refine pS1 ?_);intros|refine pA1 ?_|refine pX1 ?_|refine pB1 ?_|exact True.intro)
  rename_i b11 H3 p3 g3 x3 H4 l4 g4 x4
  have hx4:∀b,b<H2.length→H4[b]?=H2[b]?:=fun b hb=>by rw[x4 b (by omega),x3 b (by omega)]
  have f4:=zhd1 hx4
  clear x3 x4 g3 g4 hx4
  repeat (with_reducible first|(first|refine pI1 ?_|refine pS1 ?_);intros|refine pA1 ?_|refine pX1 ?_|refine pB1 ?_|exact True.intro)
  refine⟨⟨bo,_,rfl,by omega,by omega,(f2 _ fun _ ho=>ho).keep (by omega) fun b _ hb=>f4 _ fun h=>h b hb,.inl ⟨f3 _ fun h _ _=>h,fun _=>rfl,?_⟩⟩,by omega,fun b hb hp=>by rw[f4 _ fun h=>h b (by omega)];exact f2 _ fun h _=>h b hb hp⟩
  exact(f3 _ fun _ h _=>h).keep fun b hb=>f4 _ fun h=>h b (by rcases hb with rfl|⟨x,e⟩;omega;exact Nat.lt_of_lt_of_le (fin0 _ fun _ _ hal _ _ _ _ _=>hal _ _ e) (by omega))
 ·have hlen:(gs l i).bytes.length≤100000:=fin0 _ fun _ _ _ h _ _ _ _=>h i (by have:=hfst.1;omega)
  generalize hbs:(gs l i).bytes=bs at *
  obtain⟨nb,hnb⟩:∃nb,bs.length=nb:=⟨_,rfl⟩
  rw[hnb] at hlen hsl ⊢
  have f3:=zhd8 hfst hsl hab hby hbm hnb hbs hn
  clear hfst hsl hab hby hbm hnb hbs hn
  repeat (with_reducible first|(first|refine pI1 ?_|refine pS1 ?_);intros|refine pA1 ?_|refine pX1 ?_|refine pB1 ?_|exact True.intro)
  rename_i b11 H3 p3 g3 x3 H4 l4 g4 x4
  have hx4:∀b,b<H2.length→H4[b]?=H2[b]?:=fun b hb=>by rw[x4 b (by omega),x3 b (by omega)]
  have f4:=zhd2 hx4 g4
  have l11:b11<H4.length:=lt_of_get g4
  clear x3 x4 g3 g4 hx4
  -- what stands when the loop begins
  have k1:BusM H4 p a c o ws ((bl+(l.length-1)) % 18446744073709551616) ((pa+1) % 18446744073709551616):=(f3 _ fun _ _ _ _ h _ _ _=>h).keep fun b hb=>f4 _ fun h _=>h b (by rcases hb with rfl|⟨x,e⟩;omega;exact Nat.lt_of_lt_of_le (fin0 _ fun _ _ hal _ _ _ _ _=>hal _ _ e) (by omega))
  have k2:Sl H4 1 a' nb (nats .u8 bs):=(f3 _ fun _ h _ _ _ _ _ _=>h).to fun b hb=>f4 _ fun h _=>h b hb
  have k3:Tab 3 CpR N H4 a3 cps:=tabC_keep (fin0 _ fun _ _ _ _ h _ _ _=>h) fun b x e hb=>by
   rw[f4 _ fun h _=>h b (by omega)];exact f2 _ fun h _=>h b (by omega) (fin0 _ fun _ _ _ _ _ h _ _=>h b x e)
  have k4:Outs H4 H.length bo m fun _=>none:=(f2 _ fun _ ho=>ho).keep (by omega) fun b _ hb=>f4 _ fun h _=>h b hb
  have k5:But p H H4:=⟨by omega,fun b hb hp=>by rw[f4 _ fun h _=>h b (by omega)];exact f2 _ fun h _=>h b hb hp⟩
  have k6:∀b x,a=some (b,x)→b<H.length:=fin0 _ fun _ _ hal _ _ _ _ _=>hal
  have k7:∀b x,a'=some (b,x)→b<H.length:=f3 _ fun _ _ h _ _ _ _ _=>fun b x e=>Nat.lt_of_lt_of_le (h b x e).1 hN
  have fk:=zhd6 k1 k2 k3 k5 k6 k7
  clear k1 k2 k3 k5 k6 k7
  repeat (with_reducible first|(first|refine pI1 ?_|refine pS1 ?_);intros|refine pA1 ?_|refine pX1 ?_|refine pB1 ?_|exact True.intro)
  refine W_loop (fun mm st=>∃ρ,∃j:Nat,∃Hk,st=⟨L 84 ρ,[],Hk⟩∧mm=m-j∧j≤m∧ρ 0=.c (.ptr (some (p,0)))∧ρ 1=.c (.int .i64 slot)∧ρ 3=.c (.sl a3 k c3 o3)∧ρ 10=.c (.sl (some (bo,0)) m m false)∧ρ 11=.c (.ptr (some (b11,0)))∧ρ 13=.c (.fn fX6 [] [(b11,0)])∧ρ 40=.c (.int .i64 (m:Nat))∧ρ 41=.c (.int .i64 (j:Nat))∧H4.length≤Hk.length∧(∀b,b<H4.length→b≠bo→Hk[b]?=H4[b]?)∧Outs Hk H.length bo m fun j'=>if j'<j then becomes (cpF ow cps j') bs else none) m ⟨_,0,H4,rfl,rfl,by omega,zf,zf,zf,zf,zf,zf,zf,zf,Nat.le_refl _,fun _ _ _=>rfl,k4.same fun j hj=>by rw[if_neg (by omega)]⟩ ?_
  clear k4
  rintro mm st ⟨ρ,j,Hk,rfl,rfl,hj,e0,e1,e3,e10,e11,e13,e40,e41,lk,xk,ok⟩
  unfold bX5_22
  obtain⟨Y,hY⟩:∃Y,Y=IC.seq (.seq (.ops oX5_14) (.cond (.t 55) (.ops oX5_15) .skip)) (.seq (.ops oX5_16) (.block 3 (.seq (.ops oX5_17) (.cond (.t 67) .skip (.seq (.ops oX5_18) (.cond (.t 69) (.ops oX5_19) (.ops oX5_20))))))):=⟨_,rfl⟩
  rw[←hY]
  have fY:=zhd1 hY
  have fz:=zhd2 xk ok
  clear hY xk ok
  by_cases hjm:j<m
  ·repeat (with_reducible first|(first|refine pI1 ?_|refine pS1 ?_);intros|refine pA1 ?_|refine pX1 ?_|refine pB1 ?_|exact True.intro)
   rename_i b15 H5 p5 g5 x5 H6 l6 g6 x6
   have hx6:∀b,b<Hk.length→H6[b]?=Hk[b]?:=fun b hb=>by rw[x6 b (by omega),x5 b (by omega)]
   have z6:∀b,b<H4.length→b≠bo→H6[b]?=H4[b]?:=fun b hb h=>by rw[hx6 b (by omega)];exact fz _ fun xk _=>xk b hb h
   have o6:=(fz _ fun _ ok=>ok).keep (H':=H6) (by omega) fun b _ hb=>hx6 b hb
   have l15:b15<H6.length:=lt_of_get g6
   rw[fY _ fun h=>h]
   refine W_cut _ (carry_pick zf zf zf zf zf g6 ((fk _ fun h _ _ _ _ _=>h).keep fun b hb=>z6 b (by rcases hb with rfl|⟨x,e⟩;omega;have:=fk _ fun _ _ _ _ h _=>h b x e;omega) (by rcases hb with rfl|⟨x,e⟩;omega;have:=fk _ fun _ _ _ _ h _=>h b x e;omega)) (by rw[fm _ fun h _=>h];exact hw) (fin0 _ fun _ _ _ _ _ _ _ h=>h) (tabC_keep (fk _ fun _ _ h _ _ _=>h) fun b x e hb=>z6 b (by omega) (by omega)) (fin0 _ fun _ _ _ _ _ _ h _=>h) hk2) ?_
   rintro _ ⟨ρ7,H7,rfl,⟨r0,r1,r3,r10,r11,r13,r14,r15,r40,r41⟩,g7,l7,x7⟩
   rw[←fow _ fun h=>h] at g7
   have hx7:∀b,b<Hk.length→H7[b]?=Hk[b]?:=fun b hb=>by rw[x7 b (by omega)];exact hx6 b hb
   have o7:=(fz _ fun _ ok=>ok).keep (H':=H7) (by omega) fun b _ hb=>hx7 b hb
   have z7:∀b,b<H4.length→b≠bo→H7[b]?=H4[b]?:=fun b hb h=>by rw[hx7 b (by omega)];exact fz _ fun xk _=>xk b hb h
   have g11:H7[b11]?=some (.cells [.sl a' nb c' o'] false none):=(z7 b11 l11 (by omega)).trans (f4 _ fun _ g=>g)
   have hs7:Sl H7 1 a' nb (nats .u8 bs):=(fk _ fun _ h _ _ _ _=>h).keep fun b x e=>by
    have:=fk _ fun _ _ _ _ _ h=>h b x e
    exact z7 b (by omega) (by omega)
   refine W.mono (carry_put (r10.trans zf) (r11.trans zf) (r13.trans zf) (r14.trans zf) (r15.trans zf) g7 g11 hs7 (f3 _ fun _ _ _ _ _ h _ _=>h) hlen (f3 _ fun _ _ _ h _ _ _ _=>h) o7 hjm (by omega) (if_neg (by omega)) (cpF_ok (fk _ fun _ _ h _ _ _=>h) ow j)) ?_
   rintro _ _ ⟨rfl,ρ8,H8,rfl,⟨s0,s1,s3,s10,s11,s13,s14,s15,s40,s41⟩,l8,x8,o8⟩
   have y0:ρ8 0=.c (.ptr (some (p,0))):=s0.trans (r0.trans zf)
   have y1:ρ8 1=.c (.int .i64 slot):=s1.trans (r1.trans zf)
   have y3:ρ8 3=.c (.sl a3 k c3 o3):=s3.trans (r3.trans zf)
   have y10:ρ8 10=.c (.sl (some (bo,0)) m m false):=s10.trans (r10.trans zf)
   have y11:ρ8 11=.c (.ptr (some (b11,0))):=s11.trans (r11.trans zf)
   have y13:ρ8 13=.c (.fn fX6 [] [(b11,0)]):=s13.trans (r13.trans zf)
   have y40:ρ8 40=.c (.int .i64 (m:Nat)):=s40.trans (r40.trans zf)
   have y41:ρ8 41=.c (.int .i64 (j:Nat)):=s41.trans (r41.trans zf)
   have z8:∀b,b<H4.length→b≠bo→H8[b]?=H4[b]?:=fun b hb h=>by rw[x8 b (by omega) h];exact z7 b hb h
   have f8:=zhd2 z8 o8
   clear s0 s1 s3 s10 s11 s13 s14 s15 s40 s41 r0 r1 r3 r10 r11 r13 r14 r15 r40 r41 z8 o8 x8 z7 hs7 g11 o7 hx7 o6 z6 hx6 x7 g7 x6 g6 x5 g5 e0 e1 e3 e10 e11 e13 e40 e41
   repeat (with_reducible first|(first|refine pI1 ?_|refine pS1 ?_);intros|refine pA1 ?_|refine pX1 ?_|refine pB1 ?_|exact True.intro)
   refine loopQ_n (m-(j+1)) (by omega) ⟨_,j+1,H8,rfl,rfl,by omega,zf,zf,zf,zf,zf,zf,zf,zf,by omega,f8 _ fun z _=>z,(f8 _ fun _ o=>o).same fun j' hj'=>?_⟩
   by_cases hjj:j'=j
   ·rw[if_pos hjj,if_pos (by omega),hjj]
   ·by_cases hlt:j'<j
    ·rw[if_neg hjj,if_pos hlt,if_pos (by omega)]
    ·rw[if_neg hjj,if_neg hlt,if_neg (by omega)]
  ·obtain rfl:j=m:=by omega
   repeat (with_reducible first|(first|refine pI1 ?_|refine pS1 ?_);intros|refine pA1 ?_|refine pX1 ?_|refine pB1 ?_|exact True.intro)
   have hbs:=f3 _ fun _ _ _ _ _ _ h _=>h
   refine⟨⟨bo,_,rfl,by omega,by omega,fz _ fun _ ok=>ok,.inr ⟨i,f3 _ fun h _ _ _ _ _ _ _=>h,fun j' hj'=>by rw[if_pos hj',hbs],?_⟩⟩,by omega,fun b hb hp=>?_⟩
   ·exact(fk _ fun h _ _ _ _ _=>h).keep fun b hb=>by
     have:b<H.length:=by
      rcases hb with rfl|⟨x,e⟩
      ·exact hpl
      ·exact fk _ fun _ _ _ _ h _=>h b x e
     exact fz _ fun xk _=>xk b (by omega) (by omega)
   ·rw[fz _ fun xk _=>xk b (by omega) (by omega)]
    exact fk _ fun _ _ _ h _ _=>h.2 b hb hp
end Go.Proofs.YtjcgdcadflplcaaDoor.AM.D21
namespace Go.Proofs.YtjcgdcadflplcaaDoor.AM.D21
open Go Go.Proofs.YtjcgdcadflplcaaDoor.AM Go.Proofs.YtjcgdcadflplcaaDoor.AM.C02 Go.Proofs.YtjcgdcadflplcaaDoor.AM.C07
set_option maxHeartbeats 2000000
set_option maxRecDepth 100000
attribute [local go_sem] tn_add1 tn_sub1 put_all' nums_len
theorem slgx {H:Heap} {a:Ad} {n:Nat} {l:List Nat} (hs:Sl H 1 (some a) n (nats .u8 l)) (hl:l.length=n) {i:Nat} (h:i<n):ldB H[a.1]? (a.2+i)=some (.int .u8 (gx l i:Nat)):=by
 rw[hs.ld1 (o:=i) (by omega)];exact nats_get _ (by omega)
end Go.Proofs.YtjcgdcadflplcaaDoor.AM.D21
namespace Go.Proofs.YtjcgdcadflplcaaDoor.AM.D21
open Go Go.Proofs.YtjcgdcadflplcaaDoor.AM Go.Proofs.YtjcgdcadflplcaaDoor.AM.C02 Go.Proofs.YtjcgdcadflplcaaDoor.AM.C07
set_option maxHeartbeats 2000000
set_option maxRecDepth 100000
attribute [local go_sem] tn_add1 tn_sub1 put_all' nums_len
theorem s_rbit {H:Heap} {mask i:Nat} (hm:mask<4294967296) (hi:i≤100):WC F fX1x [.c (.int .u32 (mask:Nat)),.c (.int .i64 (i:Nat))] H fun v H'=>v=.c (.bool (P3.bt mask i))∧H'=H:=by
 refine WC_start eX1x (by simp) ?_
 unfold cX1x
 have h0:mask / 2 ^ 0=mask:=by simp
 have hb:∀k,mask / 2 ^ k<4294967296:=fun k=>Nat.lt_of_le_of_lt (Nat.div_le_self _ _) hm
 have hs:∀k,mask / 2 ^ (k+1)=mask / 2 ^ k / 2:=fun k=>by rw[pow_s,Nat.mul_comm,Nat.div_div_eq_div_mul]
 have fin0:=zhd3 h0 hb hs
 clear h0 hb hs
 repeat (with_reducible first|(first|refine pI1 ?_|refine pS1 ?_);intros|refine pA1 ?_|refine pX1 ?_|refine pB1 ?_|exact True.intro)
 refine W_loop (fun mm st=>∃ρ,∃k:Nat,st=⟨L 16 ρ,[],H⟩∧mm=i-k∧k≤i∧ρ 0=.c (.int .u32 (mask / 2 ^ k:Nat))∧ρ 1=.c (.int .i64 (i:Nat))∧ρ 5=.c (.int .i64 (k:Nat))) i ⟨_,0,rfl,rfl,by omega,by rw[fin0 _ fun h _ _=>h];exact zf,zf,zf⟩ ?_
 rintro mm st ⟨ρ,k,rfl,rfl,hk,e0,e1,e5⟩
 unfold bX1x_5
 have hb:=fin0 _ fun _ hb _=>hb k
 have hs:=fin0 _ fun _ _ hs=>hs k
 have hbt:P3.bt mask k=(mask / 2 ^ k % 2 == 1):=rfl
 by_cases hki:k<i
 ·have hxt:(k:Int)<(i:Int):=by omega
  have fs:=zhd1 hs
  clear hs hbt
  generalize mask / 2 ^ k=q at *
  repeat (with_reducible first|(first|refine pI1 ?_|refine pS1 ?_);intros|refine pA1 ?_|refine pX1 ?_|refine pB1 ?_|exact True.intro)
  exact loopQ_n (i-(k+1)) (by omega) ⟨_,k+1,rfl,rfl,by omega,by rw[fs _ fun h=>h];exact zf,zf,zf⟩
 ·obtain rfl:k=i:=by omega
  have hxt:¬(k:Int)<(k:Int):=by omega
  rw[hbt]
  clear hs hbt
  generalize mask / 2 ^ k=q at *
  by_cases hq:q % 2=1
  ·repeat (with_reducible first|(first|refine pI1 ?_|refine pS1 ?_);intros|refine pA1 ?_|refine pX1 ?_|refine pB1 ?_|exact True.intro)
   exact⟨by simp[hq],rfl⟩
  ·have hq0:q % 2=0:=by omega
   repeat (with_reducible first|(first|refine pI1 ?_|refine pS1 ?_);intros|refine pA1 ?_|refine pX1 ?_|refine pB1 ?_|exact True.intro)
   exact⟨by simp[hq0],rfl⟩
theorem wrap_low {x:Int} (h1:9223372036854775808≤x) (h2:x<18446744073709551616):IntKind.i64.wrap x=x-18446744073709551616:=by
 simp[IntKind.wrap,IntKind.bits,IntKind.signed]
 omega
theorem s_rturned {H:Heap} {a:Option Ad} {n c:Nat} {o:Bool} {l:List Nat} {at_:Int} {mask:Nat} (hs:Sl H 1 a n (nats .u8 l)) (hn:n≤100000) (hl:l.length=n) (ha:i64 at_) (hm:mask<4294967296) (hby:∀x∈l,x<256):
  WC F fX1y [.c (.sl a n c o),.c (.int .i64 at_),.c (.int .u32 (mask:Nat))] H fun v H'=>(∃aa oo,v=.c (.sl aa n n oo)∧Gr H.length H' 1 aa n oo (nats .u8 (P3.corr l at_ mask)))∧Xt H H':=by
 refine WC_start eX1y (by simp) ?_
 unfold cX1y
 obtain⟨a1,a2⟩:=ha
 have hgx:∀k,gx l k<256:=fun k=>by
  by_cases h:k<l.length
  ·have:gx l k=l[k]:=by simp[gx,h]
   rw[this];exact hby _ (List.getElem_mem h)
  ·have:gx l k=0:=by simp[gx,Nat.le_of_not_lt h]
   omega
 have fin0:=zhd3 hs hl hgx
 clear hs hl hgx hby
 repeat (with_reducible first|(first|refine pI1 ?_|refine pS1 ?_);intros|refine pA1 ?_|refine pX1 ?_|refine pB1 ?_|exact True.intro)
 refine W_loop (fun mm st=>∃ρ,∃k:Nat,∃oo Hk aa,st=⟨L 75 ρ,[],Hk⟩∧mm=n-k∧k≤n∧ρ 0=.c (.sl a n c o)∧ρ 1=.c (.int .i64 at_)∧ρ 2=.c (.int .u32 (mask:Nat))∧ρ 7=.c (.sl aa k k oo)∧ρ 8=.c (.int .i64 (k:Nat))∧H.length≤Hk.length∧Hid (Gr H.length Hk 1 aa k oo (nats .u8 ((P3.corr l at_ mask).take k))∧∀b,b<H.length→Hk[b]?=H[b]?)) n
  ⟨_,0,false,H,none,rfl,rfl,by omega,zf,zf,zf,zf,zf,Nat.le_refl _,Gr.none _ _ _,fun _ _=>rfl⟩ ?_
 rintro mm st ⟨ρ,k,oo,Hk,aa,rfl,rfl,hk,e0,e1,e2,e7,e8,lk,hall⟩
 unfold bX1y_21
 by_cases hkn:k<n
 ·have hxt:(k:Int)<(n:Int):=by omega
  obtain⟨⟨lb,y⟩,ea⟩:=fin0 _ fun hs _ _=>hs.is_some (by omega)
  have hld:=fin0 _ fun hs hl _=>slgx (by rw[ea] at hs;exact hs) hl hkn
  have hlb:=fin0 _ fun hs _ _=>hs.lt ea
  dsimp only at hld
  rw[←hall.2 lb hlb] at hld
  have hx:=fin0 _ fun _ _ h=>h k
  have hct:=fin0 _ fun _ hl hgx=>corr_take (l:=l) (at_:=at_) (mask:=mask) (k:=k) (by omega) (hgx k)
  generalize gx l k=x at *
  have f1:=zhd2 hall hct
  clear hall hct
  subst ea
  repeat (with_reducible first|(first|refine pI1 ?_|refine pS1 ?_);intros|refine pA1 ?_|refine pX1 ?_|refine pB1 ?_|exact True.intro)
  refine W_loop (fun mm st=>∃ρ,∃j:Nat,st=⟨L 75 ρ,[],Hk⟩∧mm=8-j∧j≤8∧ρ 0=.c (.sl (some (lb,y)) n c o)∧ρ 1=.c (.int .i64 at_)∧ρ 2=.c (.int .u32 (mask:Nat))∧ρ 7=.c (.sl aa k k oo)∧ρ 8=.c (.int .i64 (k:Nat))∧
   ρ 9=.c (.int .i64 (tv x (fun i=>hb at_ mask (8 * k+i)) j:Nat))∧ρ 10=.c (.int .i64 (x / 2 ^ j:Nat))∧ρ 11=.c (.int .i64 (2 ^ j:Nat))∧ρ 12=.c (.int .i64 (j:Nat))) 8 ⟨_,0,rfl,rfl,by omega,zf,zf,zf,zf,zf,by rw[show tv x (fun i=>hb at_ mask (8 * k+i)) 0=0 from rfl];exact zf,by rw[Nat.pow_zero,Nat.div_one];exact zf,by rw[Nat.pow_zero];exact zf,zf⟩ ?_
  clear e0 e1 e2 e7 e8
  rintro mm st ⟨ρ,j,rfl,rfl,hj,e0,e1,e2,e7,e8,e9,e10,e11,e12⟩
  unfold bX1y_18
  by_cases hj8:j<8
  ·have hxj:(j:Int)<8:=by omega
   have htl:=tv_lt x (fun i=>hb at_ mask (8 * k+i)) j
   have hts:tv x (fun i=>hb at_ mask (8 * k+i)) (j+1)=tv x (fun i=>hb at_ mask (8 * k+i)) j+if (x / 2 ^ j % 2 == 1) != hb at_ mask (8 * k+j) then 2 ^ j else 0:=rfl
   have hqs:x / 2 ^ (j+1)=x / 2 ^ j / 2:=by rw[pow_s,Nat.mul_comm,Nat.div_div_eq_div_mul]
   have hps:=pow_s j
   have hp8:2 ^ j≤128:=by
    have:j=0∨j=1∨j=2∨j=3∨j=4∨j=5∨j=6∨j=7:=by omega
    rcases this with rfl|rfl|rfl|rfl|rfl|rfl|rfl|rfl<;>decide
   have hq256:x / 2 ^ j<256:=Nat.lt_of_le_of_lt (Nat.div_le_self _ _) hx
   have hhb:hb at_ mask (8 * k+j)=decide (at_≤((8 * k+j:Nat):Int)∧((8 * k+j:Nat):Int)-31≤at_∧P3.bt mask (((8 * k+j:Nat):Int)-at_).toNat=true):=rfl
   have hend:∀b:Bool,hb at_ mask (8 * k+j)=b→tv x (fun i=>hb at_ mask (8 * k+i)) (j+1)=tv x (fun i=>hb at_ mask (8 * k+i)) j+if (x / 2 ^ j % 2 == 1) != b then 2 ^ j else 0:=fun b h=>by rw[hts,h]
   generalize tv x (fun i=>hb at_ mask (8 * k+i)) j=t at *
   generalize x / 2 ^ j=q at *
   generalize 2 ^ j=p at *
   have f2:=zhd4 hend hqs hps hhb
   clear hend hqs hps hhb hts
   have hP:((8 * k+j:Nat):Int)=8 * (k:Int)+j:=by omega
   have hqd:((q / 2:Nat):Int)=(q:Int) / 2:=by omega
   have hpd:((2 * p:Nat):Int)=2 * (p:Int):=by omega
   have htd:((t+p:Nat):Int)=(t:Int)+p:=by omega
   have fP:=zhd1 hP
   clear hP
   by_cases c1:at_≤8 * (k:Int)+j
   case neg=>
    have hf:=f2 _ fun hend _ _ hhb=>hend false (by rw[hhb];exact decide_eq_false fun h=>c1 (by have:=fP _ fun h=>h;rw[←this];exact h.1))
    have ff:=zhd1 hf
    clear hf
    by_cases hq:(q:Int) % 2=1
    ·have hv:tv x (fun i=>hb at_ mask (8 * k+i)) (j+1)=t+p:=ff _ fun h=>by
      rw[h]
      have e1:(q % 2 == 1)=true:=by rw[show q % 2=1 by omega];rfl
      rw[e1];rfl
     have fe:=zhd1 hv
     clear hv
     repeat (with_reducible first|(first|refine pI1 ?_|refine pS1 ?_);intros|refine pA1 ?_|refine pX1 ?_|refine pB1 ?_|exact True.intro)
     exact loopQ_n (8-(j+1)) (by omega) ⟨_,j+1,rfl,rfl,by omega,zf,zf,zf,zf,zf,by rw[fe _ fun h=>h];exact zf,by rw[f2 _ fun _ h _ _=>h];exact zf,by rw[f2 _ fun _ _ h _=>h];exact zf,zf⟩
    ·have hv:tv x (fun i=>hb at_ mask (8 * k+i)) (j+1)=t:=ff _ fun h=>by
      rw[h]
      have e1:(q % 2 == 1)=false:=by rw[show q % 2=0 by omega];rfl
      rw[e1];rfl
     have fe:=zhd1 hv
     clear hv
     repeat (with_reducible first|(first|refine pI1 ?_|refine pS1 ?_);intros|refine pA1 ?_|refine pX1 ?_|refine pB1 ?_|exact True.intro)
     exact loopQ_n (8-(j+1)) (by omega) ⟨_,j+1,rfl,rfl,by omega,zf,zf,zf,zf,zf,by rw[fe _ fun h=>h];exact zf,by rw[f2 _ fun _ h _ _=>h];exact zf,by rw[f2 _ fun _ _ h _=>h];exact zf,zf⟩
   by_cases c2:8 * (k:Int)+j-at_<32
   ·obtain⟨i,hi⟩:∃i:Nat,(i:Int)=8 * (k:Int)+j-at_:=⟨(8 * (k:Int)+j-at_).toNat,by omega⟩
    have hcl:=s_rbit (H:=Hk) (mask:=mask) (i:=i) hm (by omega)
    have hi':i=(((8 * k+j:Nat):Int)-at_).toNat:=by have:=fP _ fun h=>h;omega
    have hbb:hb at_ mask (8 * k+j)=P3.bt mask i:=f2 _ fun _ _ _ hhb=>by
     rw[hhb,hi']
     have h1:at_≤((8 * k+j:Nat):Int):=by have:=fP _ fun h=>h;omega
     have h2:((8 * k+j:Nat):Int)-31≤at_:=by have:=fP _ fun h=>h;omega
     cases hR:P3.bt mask (((8 * k+j:Nat):Int)-at_).toNat with
     |true=>exact decide_eq_true ⟨h1,h2,rfl⟩
     |false=>exact decide_eq_false fun h=>absurd h.2.2 (by decide)
    rw[hi] at hcl
    have fcl:=zhd1 hcl
    have fbb:=zhd1 hbb
    have hd1:0≤8 * (k:Int)+j-at_:=by omega
    clear hcl hbb hi' hi
    cases hbt:P3.bt mask i with
    |true=>
     have hf:=f2 _ fun hend _ _ hhb=>hend true (by rw[fbb _ fun h=>h];exact hbt)
     have ff:=zhd1 hf
     clear hf
     have hcl:=fcl _ fun h=>h
     rw[hbt] at hcl
     by_cases hq:(q:Int) % 2=1
     ·have hv:tv x (fun i=>hb at_ mask (8 * k+i)) (j+1)=t:=ff _ fun h=>by
       rw[h]
       have e1:(q % 2 == 1)=true:=by rw[show q % 2=1 by omega];rfl
       rw[e1];rfl
      have fe:=zhd1 hv
      clear hv
      repeat (with_reducible first|(first|refine pI1 ?_|refine pS1 ?_);intros|refine pA1 ?_|refine pX1 ?_|refine pB1 ?_|exact True.intro)
      refine outM_call hcl ?_
      rintro _ Hk ⟨rfl,rfl⟩
      clear hcl
      repeat (with_reducible first|(first|refine pI1 ?_|refine pS1 ?_);intros|refine pA1 ?_|refine pX1 ?_|refine pB1 ?_|exact True.intro)
      exact loopQ_n (8-(j+1)) (by omega) ⟨_,j+1,rfl,rfl,by omega,zf,zf,zf,zf,zf,by rw[fe _ fun h=>h];exact zf,by rw[f2 _ fun _ h _ _=>h];exact zf,by rw[f2 _ fun _ _ h _=>h];exact zf,zf⟩
     ·have hv:tv x (fun i=>hb at_ mask (8 * k+i)) (j+1)=t+p:=ff _ fun h=>by
       rw[h]
       have e1:(q % 2 == 1)=false:=by rw[show q % 2=0 by omega];rfl
       rw[e1];rfl
      have fe:=zhd1 hv
      clear hv
      repeat (with_reducible first|(first|refine pI1 ?_|refine pS1 ?_);intros|refine pA1 ?_|refine pX1 ?_|refine pB1 ?_|exact True.intro)
      refine outM_call hcl ?_
      rintro _ Hk ⟨rfl,rfl⟩
      clear hcl
      repeat (with_reducible first|(first|refine pI1 ?_|refine pS1 ?_);intros|refine pA1 ?_|refine pX1 ?_|refine pB1 ?_|exact True.intro)
      exact loopQ_n (8-(j+1)) (by omega) ⟨_,j+1,rfl,rfl,by omega,zf,zf,zf,zf,zf,by rw[fe _ fun h=>h];exact zf,by rw[f2 _ fun _ h _ _=>h];exact zf,by rw[f2 _ fun _ _ h _=>h];exact zf,zf⟩
    |false=>
     have hf:=f2 _ fun hend _ _ hhb=>hend false (by rw[fbb _ fun h=>h];exact hbt)
     have ff:=zhd1 hf
     clear hf
     have hcl:=fcl _ fun h=>h
     rw[hbt] at hcl
     by_cases hq:(q:Int) % 2=1
     ·have hv:tv x (fun i=>hb at_ mask (8 * k+i)) (j+1)=t+p:=ff _ fun h=>by
       rw[h]
       have e1:(q % 2 == 1)=true:=by rw[show q % 2=1 by omega];rfl
       rw[e1];rfl
      have fe:=zhd1 hv
      clear hv
      repeat (with_reducible first|(first|refine pI1 ?_|refine pS1 ?_);intros|refine pA1 ?_|refine pX1 ?_|refine pB1 ?_|exact True.intro)
      refine outM_call hcl ?_
      rintro _ Hk ⟨rfl,rfl⟩
      clear hcl
      repeat (with_reducible first|(first|refine pI1 ?_|refine pS1 ?_);intros|refine pA1 ?_|refine pX1 ?_|refine pB1 ?_|exact True.intro)
      exact loopQ_n (8-(j+1)) (by omega) ⟨_,j+1,rfl,rfl,by omega,zf,zf,zf,zf,zf,by rw[fe _ fun h=>h];exact zf,by rw[f2 _ fun _ h _ _=>h];exact zf,by rw[f2 _ fun _ _ h _=>h];exact zf,zf⟩
     ·have hv:tv x (fun i=>hb at_ mask (8 * k+i)) (j+1)=t:=ff _ fun h=>by
       rw[h]
       have e1:(q % 2 == 1)=false:=by rw[show q % 2=0 by omega];rfl
       rw[e1];rfl
      have fe:=zhd1 hv
      clear hv
      repeat (with_reducible first|(first|refine pI1 ?_|refine pS1 ?_);intros|refine pA1 ?_|refine pX1 ?_|refine pB1 ?_|exact True.intro)
      refine outM_call hcl ?_
      rintro _ Hk ⟨rfl,rfl⟩
      clear hcl
      repeat (with_reducible first|(first|refine pI1 ?_|refine pS1 ?_);intros|refine pA1 ?_|refine pX1 ?_|refine pB1 ?_|exact True.intro)
      exact loopQ_n (8-(j+1)) (by omega) ⟨_,j+1,rfl,rfl,by omega,zf,zf,zf,zf,zf,by rw[fe _ fun h=>h];exact zf,by rw[f2 _ fun _ h _ _=>h];exact zf,by rw[f2 _ fun _ _ h _=>h];exact zf,zf⟩
   have hno:hb at_ mask (8 * k+j)=false:=f2 _ fun _ _ _ hhb=>by rw[hhb];exact decide_eq_false fun h=>c2 (by have:=fP _ fun h=>h;have:=h.2.1;omega)
   have fno:=zhd1 hno
   clear hno
   by_cases c3:8 * (k:Int)+j-at_<9223372036854775808
   ·skip
    have hf:=f2 _ fun hend _ _ hhb=>hend false (by rw[fno _ fun h=>h])
    have ff:=zhd1 hf
    clear hf
    by_cases hq:(q:Int) % 2=1
    ·have hv:tv x (fun i=>hb at_ mask (8 * k+i)) (j+1)=t+p:=ff _ fun h=>by
      rw[h]
      have e1:(q % 2 == 1)=true:=by rw[show q % 2=1 by omega];rfl
      rw[e1];rfl
     have fe:=zhd1 hv
     clear hv
     repeat (with_reducible first|(first|refine pI1 ?_|refine pS1 ?_);intros|refine pA1 ?_|refine pX1 ?_|refine pB1 ?_|exact True.intro)
     exact loopQ_n (8-(j+1)) (by omega) ⟨_,j+1,rfl,rfl,by omega,zf,zf,zf,zf,zf,by rw[fe _ fun h=>h];exact zf,by rw[f2 _ fun _ h _ _=>h];exact zf,by rw[f2 _ fun _ _ h _=>h];exact zf,zf⟩
    ·have hv:tv x (fun i=>hb at_ mask (8 * k+i)) (j+1)=t:=ff _ fun h=>by
      rw[h]
      have e1:(q % 2 == 1)=false:=by rw[show q % 2=0 by omega];rfl
      rw[e1];rfl
     have fe:=zhd1 hv
     clear hv
     repeat (with_reducible first|(first|refine pI1 ?_|refine pS1 ?_);intros|refine pA1 ?_|refine pX1 ?_|refine pB1 ?_|exact True.intro)
     exact loopQ_n (8-(j+1)) (by omega) ⟨_,j+1,rfl,rfl,by omega,zf,zf,zf,zf,zf,by rw[fe _ fun h=>h];exact zf,by rw[f2 _ fun _ h _ _=>h];exact zf,by rw[f2 _ fun _ _ h _=>h];exact zf,zf⟩
   ·have hwl:=wrap_low (x:=8 * (k:Int)+j-at_) (by omega) (by omega)
    have hd1:8 * (k:Int)+j-at_-18446744073709551616<32:=by omega
    have hd2:¬0≤8 * (k:Int)+j-at_-18446744073709551616:=by omega
    have hf:=f2 _ fun hend _ _ hhb=>hend false (by rw[fno _ fun h=>h])
    have ff:=zhd1 hf
    clear hf
    by_cases hq:(q:Int) % 2=1
    ·have hv:tv x (fun i=>hb at_ mask (8 * k+i)) (j+1)=t+p:=ff _ fun h=>by
      rw[h]
      have e1:(q % 2 == 1)=true:=by rw[show q % 2=1 by omega];rfl
      rw[e1];rfl
     have fe:=zhd1 hv
     clear hv
     repeat (with_reducible first|(first|refine pI1 ?_|refine pS1 ?_);intros|refine pA1 ?_|refine pX1 ?_|refine pB1 ?_|exact True.intro)
     exact loopQ_n (8-(j+1)) (by omega) ⟨_,j+1,rfl,rfl,by omega,zf,zf,zf,zf,zf,by rw[fe _ fun h=>h];exact zf,by rw[f2 _ fun _ h _ _=>h];exact zf,by rw[f2 _ fun _ _ h _=>h];exact zf,zf⟩
    ·have hv:tv x (fun i=>hb at_ mask (8 * k+i)) (j+1)=t:=ff _ fun h=>by
      rw[h]
      have e1:(q % 2 == 1)=false:=by rw[show q % 2=0 by omega];rfl
      rw[e1];rfl
     have fe:=zhd1 hv
     clear hv
     repeat (with_reducible first|(first|refine pI1 ?_|refine pS1 ?_);intros|refine pA1 ?_|refine pX1 ?_|refine pB1 ?_|exact True.intro)
     exact loopQ_n (8-(j+1)) (by omega) ⟨_,j+1,rfl,rfl,by omega,zf,zf,zf,zf,zf,by rw[fe _ fun h=>h];exact zf,by rw[f2 _ fun _ h _ _=>h];exact zf,by rw[f2 _ fun _ _ h _=>h];exact zf,zf⟩
  ·obtain rfl:j=8:=by omega
   have hxj:¬((8:Nat):Int)<8:=by omega
   have htl:=tv_lt x (fun i=>hb at_ mask (8 * k+i)) 8
   have htl:tv x (fun i=>hb at_ mask (8 * k+i)) 8<256:=htl
   generalize tv x (fun i=>hb at_ mask (8 * k+i)) 8=t at *
   have f3:=zhd1 htl
   clear e10 e11
   repeat (with_reducible first|(first|refine pI1 ?_|refine pS1 ?_);intros|refine pA1 ?_|refine pX1 ?_|refine pB1 ?_|exact True.intro)
   rename_i b3 H3 p3 g3 x3
   have hgr:Gr H.length H3 1 aa k oo (nats .u8 ((P3.corr l at_ mask).take k)):=f1 _ fun hall _=>hall.1.keepX fun b hb=>x3 b (by omega)
   refine outM_appG (j:=1) hgr (by omega) (Sl.blk g3 rfl) (by omega) (by omega) ?_
   intro a' H4 q1 q2 q3 q4 q5
   rw[show nats .u8 ((P3.corr l at_ mask).take k)++[Cell.int .u8 (t:Nat)]=nats .u8 ((P3.corr l at_ mask).take (k+1)) by rw[f1 _ fun _ h=>h];simp[nats]] at q1
   have f4:=zhd3 q1 q3 x3
   clear q1 q3 q4 q5 hgr x3 g3 hld
   repeat (with_reducible first|(first|refine pI1 ?_|refine pS1 ?_);intros|refine pA1 ?_|refine pX1 ?_|refine pB1 ?_|exact True.intro)
   exact loopQ_n (n-(k+1)) (by omega) ⟨_,k+1,true,H4,a',rfl,rfl,by omega,zf,zf,zf,zf,zf,by omega,f4 _ fun q1 q3 x3=>f1 _ fun hall _=>⟨q1,fun b hb=>by rw[q3 b hb,x3 b (by omega)];exact hall.2 b hb⟩⟩
 ·obtain rfl:k=n:=by omega
  have hxt:¬(k:Int)<(k:Int):=by omega
  have htk:(P3.corr l at_ mask).take k=P3.corr l at_ mask:=List.take_of_length_le (by rw[P3.corr_len];exact fin0 _ fun _ hl _=>by omega)
  rw[htk] at hall
  have fh:=zhd1 hall
  clear hall htk
  repeat (with_reducible first|(first|refine pI1 ?_|refine pS1 ?_);intros|refine pA1 ?_|refine pX1 ?_|refine pB1 ?_|exact True.intro)
  exact⟨⟨aa,oo,rfl,fh _ fun h=>h.1⟩,by omega,fh _ fun h=>h.2⟩
end Go.Proofs.YtjcgdcadflplcaaDoor.AM.D21
namespace Go.Proofs.YtjcgdcadflplcaaDoor.AM.D21
open Go Go.Proofs.YtjcgdcadflplcaaDoor.AM Go.Proofs.YtjcgdcadflplcaaDoor.AM.C02 Go.Proofs.YtjcgdcadflplcaaDoor.AM.C07
set_option maxHeartbeats 2000000
set_option maxRecDepth 100000
attribute [local go_sem] tn_add1 tn_sub1 put_all' nums_len sub12 sub3
theorem s_rNew {N:Nat} {H:Heap} {c:Cfg} {h:Hd} (hc:CfgM N H c h) (hN:N≤H.length) (hf:Few c):WC F fX1w [.agg (c.cells h)] H fun v H'=>Xt H H'∧
  ((c.check≠0∧v=.tup [.agg [.sl none 0 0 false,.int .u64 0,.int .u64 0],.c (.int .i64 c.check)])∨(c.check=0∧v=.tup [.agg [.sl h.a1 c.owners.length h.c1 h.o1,.int .u64 0,.int .u64 0],.c (.int .i64 0)])):=by
 refine WC_start eX1w (by simp) ?_
 unfold cX1w
 have hck:=fun(Hx:Heap) (hx:Xt H Hx)=>s_rCheck (H:=Hx) (hc.keep fun b hb=>hx.2 b (by omega)) (by have:=hx.1;omega) hf
 obtain⟨C,hC⟩:∃C,C=c.cells h:=⟨_,rfl⟩
 have hsub:sub C 0 12=some C:=by rw[hC];rfl
 have hfld:C[1]?=some (.sl h.a1 c.owners.length h.c1 h.o1):=by rw[hC];rfl
 rw[←hC] at hck ⊢
 obtain⟨k,hk⟩:∃k,k=c.check:=⟨_,rfl⟩
 rw[←hk] at hck ⊢
 have fin0:=zhd1 hck
 clear hck hC hc hf hk
 repeat (with_reducible first|(first|refine pI1 ?_|refine pS1 ?_);intros|refine pA1 ?_|refine pX1 ?_|refine pB1 ?_|exact True.intro)
 rename_i b1 H1 p1 g1 x1 b2 H2 p2 g2 x2
 have t2:Xt H H2:=⟨by omega,fun b hb=>by rw[x2 b (by omega),x1 b (by omega)]⟩
 have g12:=(x2 b1 (by omega)).trans g1
 have f2:=zhd1 t2
 clear x1 x2 g1 t2
 refine outM_call (fin0 _ fun h=>f2 _ fun t=>h H2 t) ?_
 rintro _ H3 ⟨rfl,l3,x3⟩
 have g13:=(x3 b1 (by omega)).trans g12
 have g23:=(x3 b2 (by omega)).trans g2
 have t3:Xt H H3:=f2 _ fun t=>⟨by omega,fun b hb=>by rw[x3 b (by omega)];exact t.2 b hb⟩
 have f3:=zhd1 t3
 clear x3 t3 g12 g2
 by_cases h0:k=0
 case neg=>
  repeat (with_reducible first|(first|refine pI1 ?_|refine pS1 ?_);intros|refine pA1 ?_|refine pX1 ?_|refine pB1 ?_|exact True.intro)
  rename_i H4 l4 g4 x4
  repeat (with_reducible first|(first|refine pI1 ?_|refine pS1 ?_);intros|refine pA1 ?_|refine pX1 ?_|refine pB1 ?_|exact True.intro)
  exact⟨⟨by omega,fun b hb=>by rw[x4 b (by omega)];exact f3 _ fun t=>t.2 b hb⟩,.inl ⟨h0,rfl⟩⟩
 subst h0
 repeat (with_reducible first|(first|refine pI1 ?_|refine pS1 ?_);intros|refine pA1 ?_|refine pX1 ?_|refine pB1 ?_|exact True.intro)
 rename_i H4 l4 g4 x4
 repeat (with_reducible first|(first|refine pI1 ?_|refine pS1 ?_);intros|refine pA1 ?_|refine pX1 ?_|refine pB1 ?_|exact True.intro)
 exact⟨⟨by omega,fun b hb=>by rw[x4 b (by omega)];exact f3 _ fun t=>t.2 b hb⟩,.inr ⟨rfl,rfl⟩⟩
end Go.Proofs.YtjcgdcadflplcaaDoor.AM.D21
namespace Go.Proofs.YtjcgdcadflplcaaDoor.AM.D21
open Go Go.Proofs.YtjcgdcadflplcaaDoor.AM Go.Proofs.YtjcgdcadflplcaaDoor.AM.C02 Go.Proofs.YtjcgdcadflplcaaDoor.AM.C07
set_option maxHeartbeats 2000000
set_option maxRecDepth 100000
attribute [local go_sem] tn_add1 tn_sub1 put_all' nums_len sub3k
def RSlot (H:Heap) (x:Option Cell):Option (List Nat)→Prop
 |none=>x=some nilC
 |some l=>∃a c o,x=some (.sl a l.length c o)∧Sl H 1 a l.length (nats .u8 l)∧(∀y∈l,y<256)∧l.length≤c
theorem RSlot.keep {H H':Heap} {x:Option Cell} {r:Option (List Nat)} (h:RSlot H x r) (hx:∀b y n c o,x=some (.sl (some (b,y)) n c o)→H'[b]?=H[b]?):RSlot H' x r:=by
 cases r with
 |none=>exact h
 |some l=>
  obtain⟨a,c,o,h1,h2,h3⟩:=h
  exact⟨a,c,o,h1,h2.keep fun b y e=>hx b y _ _ _ (by rw[h1,e]),h3⟩
def bsC (f:Nat→Option (List Nat)) (k:Nat):List Cell:=(List.range k).map fun j=>Cell.bool (f j).isSome
theorem bsC_s (f:Nat→Option (List Nat)) (k:Nat):bsC f (k+1)=bsC f k++[Cell.bool (f k).isSome]:=by
 unfold bsC;rw[List.range_succ,List.map_append];rfl
def RInv (lo:Nat) (H:Heap) (oa ha:Option Ad) (k1 k2:Nat) (oo ho:Bool) (f:Nat→Option (List Nat)) (p:Nat):Prop:=
 ∃cs,Gr lo H 1 oa k1 oo cs∧Gr lo H 1 ha k2 ho (bsC f k2)∧(∀x y,oa=some x→ha=some y→x.1≠y.1)∧∀j,j<k1→RSlot H cs[j]? (f j)∧∀b y n c o,cs[j]?=some (.sl (some (b,y)) n c o)→(b<H.length∧b≠p)∧away oa b∧away ha b
theorem RInv.keepX {lo p:Nat} {H H':Heap} {oa ha:Option Ad} {k1 k2:Nat} {oo ho:Bool} {f:Nat→Option (List Nat)} (h:RInv lo H oa ha k1 k2 oo ho f p) (hl:H.length≤H'.length) (hx:∀b,b<H.length→H'[b]?=H[b]?):RInv lo H' oa ha k1 k2 oo ho f p:=by
 obtain⟨cs,h1,h2,h3,h4⟩:=h
 refine⟨cs,h1.keepX hx,h2.keepX hx,h3,fun j hj=>⟨(h4 j hj).1.keep fun b y n c o e=>hx b ((h4 j hj).2 b y n c o e).1.1,fun b y n c o e=>?_⟩⟩
 obtain⟨q1,q2,q3⟩:=(h4 j hj).2 b y n c o e
 exact⟨by omega,q2,q3⟩
theorem outM_pushO {H:Heap} {K:V→Heap→Prop} {lo p k k2 bz:Nat} {oa ha:Option Ad} {oo ho:Bool} {f:Nat→Option (List Nat)} {x:Cell} (h:RInv lo H oa ha k k2 oo ho f p) (hlo:lo≤H.length) (hz:H[bz]?=some (.cells [x] false none)) (hx:RSlot H (some x) (f k)) (hxa:∀b y n c o,x=.sl (some (b,y)) n c o→(b<H.length∧b≠p)∧away oa b∧away ha b) (hk:k≤100000)
  (hq:∀a' H',RInv lo H' a' ha (k+1) k2 true ho f p→H.length<H'.length→(∀c,c<lo→H'[c]?=H[c]?)→K (.c (.sl a' (k+1) (k+1) true)) H'):
  outM F (appO 1 24 (.c (.sl oa k k oo)) (.c (.sl (some (bz,0)) 1 1 false)) H) K ⟨⟩:=by
 obtain⟨cs,h1,h2,h3,h4⟩:=h
 have hcl:=h1.len
 rw[Nat.mul_one] at hcl
 refine outM_appG (j:=1) h1 hlo (Sl.blk hz rfl) (by omega) (by omega) fun a' H' q1 q2 q3 q4 q5=>?_
 have hst:∀b,b<H.length→away oa b→H'[b]?=H[b]?:=q4
 refine hq a' H' ⟨cs++[x],q1,h2.keep fun b hb hb' hn=>hst b hb' fun y e=>?_,fun y z e1 e2=>?_,fun j hj=>?_⟩ q2 q3
 ·have:∃z,ha=some z∧z.1=b:=Classical.byContradiction fun hc=>hn fun z e' hz=>hc ⟨z,e',hz.symm⟩
  obtain⟨z,e',hz'⟩:=this
  have:=h3 y z e e'
  omega
 ·have:=q5 z.1 (h2.lt z e2).2 y e1
  omega
 ·by_cases hjk:j<k
  ·rw[List.getElem?_append_left (by omega)]
   obtain⟨r1,r2⟩:=h4 j hjk
   refine⟨r1.keep fun b y n c o e=>?_,fun b y n c o e=>?_⟩
   ·obtain⟨s1,s2,-⟩:=r2 b y n c o e
    exact hst b s1.1 s2
   ·obtain⟨s1,s2,s3⟩:=r2 b y n c o e
    exact⟨by omega,q5 b s1.1,s3⟩
  ·obtain rfl:j=k:=by omega
   rw[List.getElem?_append_right (by omega),hcl,Nat.sub_self]
   refine⟨hx.keep fun b y n c o e=>?_,fun b y n c o e=>?_⟩
   ·obtain⟨s1,s2,-⟩:=hxa b y n c o (Option.some.inj e)
    exact hst b s1.1 s2
   ·obtain⟨s1,s2,s3⟩:=hxa b y n c o (Option.some.inj e)
    exact⟨by omega,q5 b s1.1,s3⟩
theorem outM_pushH {H:Heap} {K:V→Heap→Prop} {lo p k k1 bz:Nat} {oa ha:Option Ad} {oo ho:Bool} {f:Nat→Option (List Nat)} {w:Bool} (h:RInv lo H oa ha k1 k oo ho f p) (hlo:lo≤H.length) (hz:H[bz]?=some (.cells [.bool w] false none)) (hw:w=(f k).isSome) (hk:k≤100000)
  (hq:∀a' H',RInv lo H' oa a' k1 (k+1) oo true f p→H.length<H'.length→(∀c,c<lo→H'[c]?=H[c]?)→K (.c (.sl a' (k+1) (k+1) true)) H'):
  outM F (appO 1 1 (.c (.sl ha k k ho)) (.c (.sl (some (bz,0)) 1 1 false)) H) K ⟨⟩:=by
 obtain⟨cs,h1,h2,h3,h4⟩:=h
 refine outM_appG (j:=1) h2 hlo (Sl.blk hz rfl) (by omega) (by omega) fun a' H' q1 q2 q3 q4 q5=>?_
 rw[hw,←bsC_s] at q1
 have hst:∀b,b<H.length→away ha b→H'[b]?=H[b]?:=q4
 refine hq a' H' ⟨cs,h1.keep fun b hb hb' hn=>hst b hb' fun y e=>?_,q1,fun y z e1 e2=>?_,fun j hj=>?_⟩ q2 q3
 ·have:∃z,oa=some z∧z.1=b:=Classical.byContradiction fun hc=>hn fun z e' hz=>hc ⟨z,e',hz.symm⟩
  obtain⟨z,e',hz'⟩:=this
  have:=h3 z y e' e
  omega
 ·have:=q5 y.1 (h1.lt y e1).2 z e2
  omega
 ·obtain⟨r1,r2⟩:=h4 j hj
  refine⟨r1.keep fun b y n c o e=>?_,fun b y n c o e=>?_⟩
  ·obtain⟨s1,-,s2⟩:=r2 b y n c o e
   exact hst b s1.1 s2
  ·obtain⟨s1,s2,s3⟩:=r2 b y n c o e
   exact⟨by omega,s2,q5 b s1.1⟩
def KpR (ρ ρ':Nat→V):Prop:=ρ' 0=ρ 0∧ρ' 1=ρ 1∧ρ' 3=ρ 3∧ρ' 11=ρ 11∧ρ' 12=ρ 12∧ρ' 13=ρ 13∧ρ' 14=ρ 14∧ρ' 15=ρ 15∧ρ' 16=ρ 16
def KpS (ρ ρ':Nat→V):Prop:=ρ' 0=ρ 0∧ρ' 1=ρ 1∧ρ' 3=ρ 3∧ρ' 11=ρ 11∧ρ' 12=ρ 12∧ρ' 15=ρ 15
theorem rcarry_put {ρ:Nat→V} {H:Heap} {b16 lo p k n c':Nat} {a':Option Ad} {o' oo ho is:Bool} {l:List Nat} {cp:Cpy} {oa ha:Option Ad} {f:Nat→Option (List Nat)} (e11:ρ 11=.c (.sl a' n c' o')) (e12:ρ 12=.c (.bool is)) (e13:ρ 13=.c (.sl oa k k oo)) (e14:ρ 14=.c (.sl ha k k ho)) (e16:ρ 16=.c (.ptr (some (b16,0))))
  (g16:H[b16]?=some (.cells cp.cells false none)) (hs:Sl H 1 a' n (nats .u8 l)) (hln:l.length=n) (hn:n≤100000) (hnc:n≤c') (hby:∀x∈l,x<256) (hpl:p<lo) (hab:∀b x,a'=some (b,x)→b<lo∧b≠p) (hi:RInv lo H oa ha k k oo ho f p) (hk:k≤100000) (hlo:lo≤H.length) (hcp:i64 cp.at_∧cp.mask<4294967296)
  (hf:f k=if is then becomes cp l else none):
  W F none (.seq (.ops oX1t_11) (.seq (.seq (.ops oX1t_12) (.cond (.t 56) (.ops oX1t_13) .skip)) (.seq (.ops oX1t_14) (.seq (.seq (.ops oX1t_15) (.cond (.t 70) (.ops oX1t_16) .skip)) (.seq (.ops oX1t_17) (.ops oX1t_18)))))) ⟨L 81 ρ,[],H⟩
   fun e s=>e=.normal∧∃ρ' H' oa' ha',s=⟨L 81 ρ',[],H'⟩∧KpS ρ ρ'∧ρ' 13=.c (.sl oa' (k+1) (k+1) true)∧ρ' 14=.c (.sl ha' (k+1) (k+1) true)∧H.length≤H'.length∧(∀b,b<lo→H'[b]?=H[b]?)∧RInv lo H' oa' ha' (k+1) (k+1) true true f p:=by
 have hme:∃k1 k2 k3,cp=⟨k1,k2,k3⟩:=⟨_,_,_,rfl⟩
 obtain⟨kd,az,mk,rfl⟩:=hme
 obtain⟨hat,hmk⟩:=hcp
 dsimp only at hat hmk
 dsimp only [Cpy.cells] at g16
 have haw:∀b,b<lo→away oa b∧away ha b:=fun b hb=>by
  obtain⟨cs,h1,h2,-⟩:=hi
  exact⟨h1.away_lt hb,h2.away_lt hb⟩
 have haf:∀b,H.length≤b→away oa b∧away ha b:=fun b hb=>by
  obtain⟨cs,h1,h2,-⟩:=hi
  exact⟨fun x e=>by have:=(h1.lt x e).2;omega,fun x e=>by have:=(h2.lt x e).2;omega⟩
 have fin0:=zhd7 hs hln hby hab hi haw haf
 clear hs hln hby hab hi haw haf
 have lb16:=lt_of_get g16
 by_cases k2:kd=2
 ·have hbe:becomes ⟨kd,az,mk⟩ l=some (P3.corr l az mk):=by unfold becomes;rw[if_neg (by show ¬kd=1;omega),if_pos k2]
  rw[hbe] at hf
  have htu:=s_rturned (c:=c') (o:=o') (at_:=az) (mask:=mk) (fin0 _ fun hs _ _ _ _ _ _=>hs) hn (fin0 _ fun _ hln _ _ _ _ _=>hln) hat hmk (fin0 _ fun _ _ hby _ _ _ _=>hby)
  have fh:=zhd1 hf
  have ftu:=zhd1 htu
  clear hf hbe htu
  subst k2
  repeat (with_reducible first|(first|refine pI1 ?_|refine pS1 ?_);intros|refine pA1 ?_|refine pX1 ?_|refine pB1 ?_|exact True.intro)
  refine outM_call (ftu _ fun h=>h) ?_
  rintro _ H2 ⟨⟨ta,tO,rfl,hgr⟩,l2,x2⟩
  have g16':=(x2 b16 lb16).trans g16
  have hi2:RInv lo H2 oa ha k k oo ho f p:=fin0 _ fun _ _ _ _ hi _ _=>hi.keepX l2 x2
  have f2:=zhd3 hgr x2 hi2
  clear hgr x2 hi2 g16
  cases is with
  |true=>
   have hf:=fh _ fun h=>h
   rw[if_pos rfl] at hf
   repeat (with_reducible first|(first|refine pI1 ?_|refine pS1 ?_);intros|refine pA1 ?_|refine pX1 ?_|refine pB1 ?_|exact True.intro)
   rename_i b7 H7 p7 g7 x7
   have hi7:RInv lo H7 oa ha k k oo ho f p:=(f2 _ fun _ _ h=>h).keepX (by omega) fun b hb=>x7 b (by omega)
   have fx7:=zhd1 x7
   clear x7
   refine outM_pushO hi7 (by omega) g7 (by rw[hf];exact⟨ta,n,tO,by rw[P3.corr_len,fin0 _ fun _ hln _ _ _ _ _=>hln],by rw[P3.corr_len,fin0 _ fun _ hln _ _ _ _ _=>hln];exact f2 _ fun hgr _ _=>hgr.sl.keep fun b y e=>fx7 _ fun h=>h b (by have:=(hgr.lt _ e).2;omega),P3.corr_by (fin0 _ fun _ _ hby _ _ _ _=>hby) _ _,by rw[P3.corr_len,fin0 _ fun _ hln _ _ _ _ _=>hln];exact Nat.le_refl _⟩) (fun b y n c o e=>by
    injection e with e1 _ _ _
    have hb:=f2 _ fun hgr _ _=>hgr.lt _ e1
    exact⟨by have:=hb.2;have:=hb.1;simp only at *;omega,fin0 _ fun _ _ _ _ _ _ haf=>haf b hb.1⟩) hk ?_
   intro oa' H8 hi8 l8 x8
   have f8:=zhd2 hi8 x8
   clear hi8 x8 hi7 g7
   repeat (with_reducible first|(first|refine pI1 ?_|refine pS1 ?_);intros|refine pA1 ?_|refine pX1 ?_|refine pB1 ?_|exact True.intro)
   rename_i b9 H9 p9 g9 x9
   have hi9:RInv lo H9 oa' ha (k+1) k true ho f p:=f8 _ fun h _=>h.keepX (by omega) fun b hb=>x9 b (by omega)
   have fx9:=zhd1 x9
   clear x9
   refine outM_pushH hi9 (by omega) g9 (by rw[hf];rfl) hk ?_
   intro ha' Ha hia la xa
   have fa:=zhd2 hia xa
   clear hia xa hi9 g9
   repeat (with_reducible first|(first|refine pI1 ?_|refine pS1 ?_);intros|refine pA1 ?_|refine pX1 ?_|refine pB1 ?_|exact True.intro)
   refine⟨rfl,_,Ha,oa',ha',rfl,⟨zf,zf,zf,zf,zf,zf⟩,zf,zf,by omega,fun b hb=>?_,fa _ fun h _=>h⟩
   rw[fa _ fun _ h=>h b hb,fx9 _ fun h=>h b (by omega),f8 _ fun _ h=>h b hb,fx7 _ fun h=>h b (by omega)]
   rw[f2 _ fun _ h _=>h b (by omega)]
  |false=>
   have hf:=fh _ fun h=>h
   rw[if_neg (by decide)] at hf
   repeat (with_reducible first|(first|refine pI1 ?_|refine pS1 ?_);intros|refine pA1 ?_|refine pX1 ?_|refine pB1 ?_|exact True.intro)
   rename_i b7 H7 p7 g7 x7
   have hi7:RInv lo H7 oa ha k k oo ho f p:=(f2 _ fun _ _ h=>h).keepX (by omega) fun b hb=>x7 b (by omega)
   have fx7:=zhd1 x7
   clear x7
   refine outM_pushO hi7 (by omega) g7 (by rw[hf];rfl) (fun b y n c o e=>by injection e with e1 _ _ _;cases e1) hk ?_
   intro oa' H8 hi8 l8 x8
   have f8:=zhd2 hi8 x8
   clear hi8 x8 hi7 g7
   repeat (with_reducible first|(first|refine pI1 ?_|refine pS1 ?_);intros|refine pA1 ?_|refine pX1 ?_|refine pB1 ?_|exact True.intro)
   rename_i b9 H9 p9 g9 x9
   have hi9:RInv lo H9 oa' ha (k+1) k true ho f p:=f8 _ fun h _=>h.keepX (by omega) fun b hb=>x9 b (by omega)
   have fx9:=zhd1 x9
   clear x9
   refine outM_pushH hi9 (by omega) g9 (by rw[hf];rfl) hk ?_
   intro ha' Ha hia la xa
   have fa:=zhd2 hia xa
   clear hia xa hi9 g9
   repeat (with_reducible first|(first|refine pI1 ?_|refine pS1 ?_);intros|refine pA1 ?_|refine pX1 ?_|refine pB1 ?_|exact True.intro)
   refine⟨rfl,_,Ha,oa',ha',rfl,⟨zf,zf,zf,zf,zf,zf⟩,zf,zf,by omega,fun b hb=>?_,fa _ fun h _=>h⟩
   rw[fa _ fun _ h=>h b hb,fx9 _ fun h=>h b (by omega),f8 _ fun _ h=>h b hb,fx7 _ fun h=>h b (by omega)]
   rw[f2 _ fun _ h _=>h b (by omega)]
 ·cases is with
  |false=>
   rw[if_neg (by decide)] at hf
   have fh:=zhd1 hf
   clear hf
   have hf:=fh _ fun h=>h
   repeat (with_reducible first|(first|refine pI1 ?_|refine pS1 ?_);intros|refine pA1 ?_|refine pX1 ?_|refine pB1 ?_|exact True.intro)
   rename_i b7 H7 p7 g7 x7
   have hi7:RInv lo H7 oa ha k k oo ho f p:=(fin0 _ fun _ _ _ _ h _ _=>h).keepX (by omega) fun b hb=>x7 b (by omega)
   have fx7:=zhd1 x7
   clear x7
   refine outM_pushO hi7 (by omega) g7 (by rw[hf];rfl) (fun b y n c o e=>by injection e with e1 _ _ _;cases e1) hk ?_
   intro oa' H8 hi8 l8 x8
   have f8:=zhd2 hi8 x8
   clear hi8 x8 hi7 g7
   repeat (with_reducible first|(first|refine pI1 ?_|refine pS1 ?_);intros|refine pA1 ?_|refine pX1 ?_|refine pB1 ?_|exact True.intro)
   rename_i b9 H9 p9 g9 x9
   have hi9:RInv lo H9 oa' ha (k+1) k true ho f p:=f8 _ fun h _=>h.keepX (by omega) fun b hb=>x9 b (by omega)
   have fx9:=zhd1 x9
   clear x9
   refine outM_pushH hi9 (by omega) g9 (by rw[hf];rfl) hk ?_
   intro ha' Ha hia la xa
   have fa:=zhd2 hia xa
   clear hia xa hi9 g9
   repeat (with_reducible first|(first|refine pI1 ?_|refine pS1 ?_);intros|refine pA1 ?_|refine pX1 ?_|refine pB1 ?_|exact True.intro)
   refine⟨rfl,_,Ha,oa',ha',rfl,⟨zf,zf,zf,zf,zf,zf⟩,zf,zf,by omega,fun b hb=>?_,fa _ fun h _=>h⟩
   rw[fa _ fun _ h=>h b hb,fx9 _ fun h=>h b (by omega),f8 _ fun _ h=>h b hb,fx7 _ fun h=>h b (by omega)]
  |true=>
   rw[if_pos rfl] at hf
   by_cases k1:kd=1
   ·have hbe:becomes ⟨kd,az,mk⟩ l=none:=by unfold becomes;rw[if_pos k1]
    rw[hbe] at hf
    clear hbe
    subst k1
    repeat (with_reducible first|(first|refine pI1 ?_|refine pS1 ?_);intros|refine pA1 ?_|refine pX1 ?_|refine pB1 ?_|exact True.intro)
    rename_i b7 H7 p7 g7 x7
    have hi7:RInv lo H7 oa ha k k oo ho f p:=(fin0 _ fun _ _ _ _ h _ _=>h).keepX (by omega) fun b hb=>x7 b (by omega)
    have fx7:=zhd1 x7
    clear x7
    refine outM_pushO hi7 (by omega) g7 (by rw[hf];rfl) (fun b y n c o e=>by injection e with e1 _ _ _;cases e1) hk ?_
    intro oa' H8 hi8 l8 x8
    have f8:=zhd2 hi8 x8
    clear hi8 x8 hi7 g7
    repeat (with_reducible first|(first|refine pI1 ?_|refine pS1 ?_);intros|refine pA1 ?_|refine pX1 ?_|refine pB1 ?_|exact True.intro)
    rename_i b9 H9 p9 g9 x9
    have hi9:RInv lo H9 oa' ha (k+1) k true ho f p:=f8 _ fun h _=>h.keepX (by omega) fun b hb=>x9 b (by omega)
    have fx9:=zhd1 x9
    clear x9
    refine outM_pushH hi9 (by omega) g9 (by rw[hf];rfl) hk ?_
    intro ha' Ha hia la xa
    have fa:=zhd2 hia xa
    clear hia xa hi9 g9
    repeat (with_reducible first|(first|refine pI1 ?_|refine pS1 ?_);intros|refine pA1 ?_|refine pX1 ?_|refine pB1 ?_|exact True.intro)
    refine⟨rfl,_,Ha,oa',ha',rfl,⟨zf,zf,zf,zf,zf,zf⟩,zf,zf,by omega,fun b hb=>?_,fa _ fun h _=>h⟩
    rw[fa _ fun _ h=>h b hb,fx9 _ fun h=>h b (by omega),f8 _ fun _ h=>h b hb,fx7 _ fun h=>h b (by omega)]
   ·have hbe:becomes ⟨kd,az,mk⟩ l=some l:=by unfold becomes;rw[if_neg k1,if_neg k2]
    rw[hbe] at hf
    clear hbe
    repeat (with_reducible first|(first|refine pI1 ?_|refine pS1 ?_);intros|refine pA1 ?_|refine pX1 ?_|refine pB1 ?_|exact True.intro)
    rename_i b7 H7 p7 g7 x7
    have hi7:RInv lo H7 oa ha k k oo ho f p:=(fin0 _ fun _ _ _ _ h _ _=>h).keepX (by omega) fun b hb=>x7 b (by omega)
    have fx7:=zhd1 x7
    clear x7
    refine outM_pushO hi7 (by omega) g7 (by rw[hf];exact⟨a',c',o',by rw[fin0 _ fun _ hln _ _ _ _ _=>hln],by rw[fin0 _ fun _ hln _ _ _ _ _=>hln];exact fin0 _ fun hs _ _ hab _ _ _=>hs.keep fun b y e=>fx7 _ fun h=>h b (by have:=hab b y e;omega),fin0 _ fun _ _ hby _ _ _ _=>hby,by rw[fin0 _ fun _ hln _ _ _ _ _=>hln];exact hnc⟩) (fun b y n c o e=>by
     injection e with e1 _ _ _
     have hb:=fin0 _ fun _ _ _ hab _ _ _=>hab b y e1
     exact⟨by omega,fin0 _ fun _ _ _ _ _ haw _=>haw b hb.1⟩) hk ?_
    intro oa' H8 hi8 l8 x8
    have f8:=zhd2 hi8 x8
    clear hi8 x8 hi7 g7
    repeat (with_reducible first|(first|refine pI1 ?_|refine pS1 ?_);intros|refine pA1 ?_|refine pX1 ?_|refine pB1 ?_|exact True.intro)
    rename_i b9 H9 p9 g9 x9
    have hi9:RInv lo H9 oa' ha (k+1) k true ho f p:=f8 _ fun h _=>h.keepX (by omega) fun b hb=>x9 b (by omega)
    have fx9:=zhd1 x9
    clear x9
    refine outM_pushH hi9 (by omega) g9 (by rw[hf];rfl) hk ?_
    intro ha' Ha hia la xa
    have fa:=zhd2 hia xa
    clear hia xa hi9 g9
    repeat (with_reducible first|(first|refine pI1 ?_|refine pS1 ?_);intros|refine pA1 ?_|refine pX1 ?_|refine pB1 ?_|exact True.intro)
    refine⟨rfl,_,Ha,oa',ha',rfl,⟨zf,zf,zf,zf,zf,zf⟩,zf,zf,by omega,fun b hb=>?_,fa _ fun h _=>h⟩
    rw[fa _ fun _ h=>h b hb,fx9 _ fun h=>h b (by omega),f8 _ fun _ h=>h b hb,fx7 _ fun h=>h b (by omega)]
end Go.Proofs.YtjcgdcadflplcaaDoor.AM.D21
