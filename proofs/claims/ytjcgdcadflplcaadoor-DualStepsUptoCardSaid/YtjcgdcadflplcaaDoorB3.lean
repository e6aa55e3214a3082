/- What the functions that this law reaches come to, each walked once, and the plain laws that stand behind them. -/
import Derived.Test.YtjcgdcadflplcaaDoorB2
import Derived.Test.YtjcgdcadflplcaaDoorA4
set_option linter.unusedVariables false
set_option linter.unusedSimpArgs false
set_option linter.unusedSectionVars false
namespace Go.Proofs.YtjcgdcadflplcaaDoor.AM.D21
open Go Go.Proofs.YtjcgdcadflplcaaDoor.AM Go.Proofs.YtjcgdcadflplcaaDoor.AM.C02
set_option maxHeartbeats 2000000
set_option maxRecDepth 100000
attribute [local go_sem] tn_add1 tn_sub1 put_all' nums_len aop_mn aop_mx mnO_int mxO_int sub12 sub3 sub6 rep6
def LkOk (c:Cfg) (i:Nat):Prop:=(∀j,j<i→c.okLink (c.link j))∧∀x,cn x (Cfg.used (c.links.take i))≤1
def DsOk (c:Cfg) (i k:Nat):Prop:=LkOk c i∧c.okSrc (c.link i)∧(∀j,j<k→c.okDest (c.link i).src (gn (c.link i).dests j))∧∀x,cn x (Cfg.used (c.links.take i)++((c.link i).src :: (c.link i).dests.take k))≤1
theorem DsOk.start {c:Cfg} {i:Nat} (h:LkOk c i) (hs:c.okSrc (c.link i)) (hx:cn (c.link i).src (Cfg.used (c.links.take i))=0):DsOk c i 0:=by
 refine⟨h,hs,fun j hj=>by omega,fun x=>?_⟩
 rw[List.take_zero,cn_app,cn_one]
 have:=h.2 x
 split
 ·rename_i e;subst e;omega
 ·omega
theorem DsOk.next {c:Cfg} {i k:Nat} (h:DsOk c i k) (hk:k<(c.link i).dests.length) (hd:c.okDest (c.link i).src (gn (c.link i).dests k)) (hx:cn (gn (c.link i).dests k) (Cfg.used (c.links.take i)++((c.link i).src :: (c.link i).dests.take k))=0):DsOk c i (k+1):=by
 obtain⟨h1,h2,h3,h4⟩:=h
 refine⟨h1,h2,fun j hj=>?_,fun x=>?_⟩
 ·by_cases e:j=k
  ·subst e;exact hd
  ·exact h3 j (by omega)
 ·have e:(c.link i).dests.take (k+1)=(c.link i).dests.take k++[gn (c.link i).dests k]:=by
   rw[List.take_succ_eq_append_getElem hk];simp[gn,hk]
  rw[e,←List.cons_append,←List.append_assoc,cn_app,cn_one]
  have:=h4 x
  split
  ·rename_i e;subst e;omega
  ·omega
theorem DsOk.fin {c:Cfg} {i:Nat} (hi:i<c.links.length) (h:DsOk c i (c.link i).dests.length):LkOk c (i+1):=by
 obtain⟨h1,h2,h3,h4⟩:=h
 rw[List.take_length] at h4
 refine⟨fun j hj=>?_,fun x=>?_⟩
 ·by_cases e:j=i
  ·subst e
   refine⟨h2,fun n hn=>?_⟩
   obtain⟨t,ht,rfl⟩:=gn_of hn
   exact h3 t ht
  ·exact h1.1 j (by omega)
 ·rw[used_take hi];exact h4 x
theorem no_src {c:Cfg} {i:Nat} (hi:i<c.links.length) (h:¬c.okSrc (c.link i)∨0<cn (c.link i).src (Cfg.used (c.links.take i))):¬c.okLinks:=by
 rintro⟨-,h1,h2,-⟩
 rcases h with h|h
 ·have:c.link i∈c.links:=by
   have e:c.link i=c.links[i]:=by simp[Cfg.link,hi]
   rw[e];exact List.getElem_mem hi
  exact h (h1 _ this).1
 ·have h3:=used_le (c:=c) (i:=i+1) (c.link i).src
  rw[used_take hi,cn_app,←List.singleton_append,cn_app,cn_one,if_pos rfl] at h3
  have:=h2 (c.link i).src
  omega
theorem no_dest {c:Cfg} {i k:Nat} (hi:i<c.links.length) (hk:k<(c.link i).dests.length) (h:¬c.okDest (c.link i).src (gn (c.link i).dests k)∨0<cn (gn (c.link i).dests k) (Cfg.used (c.links.take i)++((c.link i).src :: (c.link i).dests.take k))):¬c.okLinks:=by
 rintro⟨-,h1,h2,-⟩
 rcases h with h|h
 ·have:c.link i∈c.links:=by
   have e:c.link i=c.links[i]:=by simp[Cfg.link,hi]
   rw[e];exact List.getElem_mem hi
  exact h ((h1 _ this).2 _ (gn_mem hk))
 ·have h3:=used_le (c:=c) (i:=i+1) (gn (c.link i).dests k)
  have e:(c.link i).dests=(c.link i).dests.take k++(gn (c.link i).dests k :: (c.link i).dests.drop (k+1)):=by
   have e1:gn (c.link i).dests k=(c.link i).dests[k]:=by simp[gn,hk]
   rw[e1,←List.drop_eq_getElem_cons hk,List.take_append_drop]
  rw[used_take hi] at h3
  have h4:cn (gn (c.link i).dests k) ((c.link i).src :: (c.link i).dests)=cn (gn (c.link i).dests k) ((c.link i).src :: (c.link i).dests.take k)+cn (gn (c.link i).dests k) (gn (c.link i).dests k :: (c.link i).dests.drop (k+1)):=by
   exact(congrArg (cn (gn (c.link i).dests k)) (congrArg (List.cons (c.link i).src) e)).trans (by rw[←List.cons_append,cn_app])
  have h5:0<cn (gn (c.link i).dests k) (gn (c.link i).dests k :: (c.link i).dests.drop (k+1)):=cn_pos.2 (by simp)
  rw[cn_app] at h h3
  have:=h2 (gn (c.link i).dests k)
  omega
end Go.Proofs.YtjcgdcadflplcaaDoor.AM.D21
namespace Go.Proofs.YtjcgdcadflplcaaDoor.AM.D21
open Go Go.Proofs.YtjcgdcadflplcaaDoor.AM Go.Proofs.YtjcgdcadflplcaaDoor.AM.C02
set_option maxHeartbeats 2000000
set_option maxRecDepth 100000
attribute [local go_sem] tn_add1 tn_sub1 put_all' nums_len aop_mn aop_mx mnO_int mxO_int sub12 sub3 sub6 rep6
set_option maxHeartbeats 20000000
theorem W_dest {N:Nat} {H H0:Heap} {c:Cfg} {h:Hd} {C:List Cell} {ρ:Env} {b1 b2 b3 b5 b6 i m n nd:Nat} {ad:Option Ad} {od:Bool} {cd:Nat} {s:Pt} {Q:Ex→St→Prop} {C5:List Cell}
  (hc:CfgM N H0 c h) (hN:N≤H.length) (hC:C=c.cells h) (hH:∀b,b<N→H[b]?=H0[b]?) (hm:c.ports.length=m) (hm64:m≤64) (hi:i<c.links.length) (hnd:(c.link i).dests.length=nd) (hnd0:0<nd) (hndb:nd≤maxLen) (hs:s=c.port (c.link i).src)
  (hC5:C5=[.int .i64 (c.link i).src,.sl ad nd cd od,.int .i64 (c.link i).off]) (had:Sl H 1 ad nd (nums (c.link i).dests)) (hadN:∀b x,ad=some (b,x)→b<N)
  (g1:H[b1]?=some (.cells C false none)) (g2:H[b2]?=some (.cells [.bool false] false none)) (g3:H[b3]?=some (.cells (nums (tkn m (Cfg.used (c.links.take i)++[(c.link i).src]))) false none)) (g5:H[b5]?=some (.cells C5 false none)) (g6:H[b6]?=some (.cells s.cells false none))
  (hb:N≤b1∧b1<b2∧b2<b3∧b3<b5∧b5<b6) (hds:DsOk c i 0)
  (e1:ρ 1=.c (.ptr (some (b1,0)))) (e2:ρ 2=.c (.ptr (some (b2,0)))) (e3:ρ 3=.c (.sl (some (b3,0)) m m false)) (e5:ρ 5=.c (.ptr (some (b5,0)))) (e6:ρ 6=.c (.ptr (some (b6,0)))) (e78:ρ 78=.c (.sl ad nd cd od)) (e79:ρ 79=.c (.int .i64 (nd:Nat))) (e80:ρ 80=.c (.int .i64 0))
  (hok:∀ρ' H',ρ' 1=ρ 1→ρ' 2=ρ 2→ρ' 3=ρ 3→ρ' 27=ρ 27→ρ' 28=ρ 28→ρ' 29=ρ 29→DsOk c i nd→H.length≤H'.length→(∀b,b<H.length→b≠b3→H'[b]?=H[b]?)→H'[b3]?=some (.cells (nums (tkn m (Cfg.used (c.links.take (i+1))))) false none)→Q (.exit 1) ⟨L 195 ρ',[],H'⟩)
  (hno:∀ρ' H',ρ' 2=ρ 2→¬c.okLinks→H.length≤H'.length→(∀b,b<H.length→b≠b2→b≠b3→H'[b]?=H[b]?)→H'[b2]?=some (.cells [.bool false] false none)→Q .ret ⟨L 195 ρ',[],H'⟩):
  W F none (.loop bXg_20) ⟨L 195 ρ,[],H⟩ Q:=by
 have hmx:maxLen=2 ^ 32∨True:=.inr trivial
 refine W_loop (fun q st=>∃ρ' k Hk,st=⟨L 195 ρ',[],Hk⟩∧q=nd-k∧k<nd∧ρ' 1=ρ 1∧ρ' 2=ρ 2∧ρ' 3=ρ 3∧ρ' 5=ρ 5∧ρ' 6=ρ 6∧ρ' 27=ρ 27∧ρ' 28=ρ 28∧ρ' 29=ρ 29∧ρ' 78=.c (.sl ad nd cd od)∧ρ' 79=.c (.int .i64 (nd:Nat))∧ρ' 80=.c (.int .i64 (k:Nat))∧DsOk c i k∧H.length≤Hk.length∧(∀b,b<H.length→b≠b3→Hk[b]?=H[b]?)∧Hk[b3]?=some (.cells (nums (tkn m (Cfg.used (c.links.take i)++((c.link i).src :: (c.link i).dests.take k)))) false none)) nd ⟨_,0,H,rfl,rfl,hnd0,rfl,rfl,rfl,rfl,rfl,rfl,rfl,rfl,e78,e79,e80,hds,Nat.le_refl _,fun _ _ _=>rfl,g3⟩ ?_
 clear e78 e79 e80 g3 hds
 rintro q st ⟨ρ',k,Hk,rfl,rfl,hk,z1,z2,z3,z5,z6,z27,z28,z29,z78,z79,z80,hds,lk,xk,k3⟩
 unfold bXg_20
 have hmx:maxLen=9223372036854775807:=rfl
 obtain⟨hb1,hb2,hb3,hb5,hb6⟩:=hb
 have lb6:=lt_of_get g6
 subst hC
 unfold Cfg.cells at g1
 have yk:∀b,b<N→Hk[b]?=H0[b]?:=fun b hb=>(xk b (by omega) (by omega)).trans (hH b hb)
 have hcp:∀Hx:Heap,(∀b,b<N→Hx[b]?=Hk[b]?)→N≤Hx.length→∀v,_:=fun Hx hx hl v=>s_port (n:=v) (hc.keep (H':=Hx) fun b hb=>(hx b hb).trans (yk b hb)) hl (by rw[hm];exact hm64)
 rw[hm] at hcp
 have k1:Hk[b1]?=_:=(xk b1 (by omega) (by omega)).trans g1
 have k2:Hk[b2]?=_:=(xk b2 (by omega) (by omega)).trans g2
 have k5:Hk[b5]?=_:=(xk b5 (by omega) (by omega)).trans g5
 have k6:Hk[b6]?=_:=(xk b6 (by omega) (by omega)).trans g6
 have hadk:Sl Hk 1 ad nd (nums (c.link i).dests):=had.keep fun b x e=>xk b (by have:=hadN b x e;omega) (by have:=hadN b x e;omega)
 obtain⟨⟨la,y⟩,rfl⟩:=hadk.is_some (by omega)
 have hld:=Sl.gn hadk hnd hk
 dsimp only at hld
 subst hC5
 have hla:la<N:=hadN la y rfl
 have hno':∀v,v=gn (c.link i).dests k→(¬c.okDest (c.link i).src v∨0<cn v (Cfg.used (c.links.take i)++((c.link i).src :: (c.link i).dests.take k)))→¬c.okLinks:=fun v e h'=>by subst e;exact no_dest hi (by omega) h'
 have hstep:∀v,v=gn (c.link i).dests k→c.okDest (c.link i).src v→cn v (Cfg.used (c.links.take i)++((c.link i).src :: (c.link i).dests.take k))=0→DsOk c i (k+1):=fun v e h1 h2=>by subst e;exact hds.next (by omega) h1 h2
 have htk:∀v,v=gn (c.link i).dests k→Cfg.used (c.links.take i)++((c.link i).src :: (c.link i).dests.take k)++[v]=Cfg.used (c.links.take i)++((c.link i).src :: (c.link i).dests.take (k+1)):=fun v e=>by
  subst e
  rw[List.take_succ_eq_append_getElem (show k<(c.link i).dests.length by omega),List.append_assoc,List.cons_append]
  simp[gn,show k<(c.link i).dests.length by omega]
 have hend:k+1=nd→Cfg.used (c.links.take i)++((c.link i).src :: (c.link i).dests.take (k+1))=Cfg.used (c.links.take (i+1)):=fun e=>by
  rw[e,←hnd,List.take_length,used_take hi]
 obtain⟨v,hv⟩:∃v,v=gn (c.link i).dests k:=⟨_,rfl⟩
 rw[←hv] at hld
 have hno':=hno' v hv
 have hstep:=hstep v hv
 have htk:=htk v hv
 have hdest:c.okDest (c.link i).src v↔((0≤v∧v<(m:Int))∧(c.port v).dir=2∧(c.port v).kind=s.kind∧(c.port v).size=s.size):=by unfold Cfg.okDest Cfg.isP;rw[hm,hs]
 have hisP:c.isP v↔(0≤v∧v<(m:Int)):=by unfold Cfg.isP;rw[hm]
 obtain⟨U,hU⟩:∃U,U=Cfg.used (c.links.take i)++((c.link i).src :: (c.link i).dests.take k):=⟨_,rfl⟩
 rw[←hU] at hno' hstep htk k3
 generalize c.okDest (c.link i).src v=P at *
 have hget:0≤v→v<(m:Int)→(nums (tkn m U))[v.toNat]?=some (.int .i64 ((cn v U:Nat):Int)):=fun h1 h2=>by
  rw[nums_get (by rw[tkn_len];omega),tkn_gn (by omega),show ((v.toNat:Nat):Int)=v by omega]
 have hset:0≤v→v<(m:Int)→(nums (tkn m U)).set v.toNat (.int .i64 (((cn v U:Nat):Int)+1))=nums (tkn m (U++[v])):=fun h1 h2=>by
  have:=tkn_set (m:=m) (U:=U) (k:=v.toNat) (by omega)
  rwa [show ((v.toNat:Nat):Int)=v by omega] at this
 have hcl:(nums (tkn m U)).length=m:=by rw[nums_len,tkn_len]
 have hcnb:cn v U≤U.length:=List.countP_le_length
 obtain⟨s1,s2,s3,s4,s5,s6⟩:=s
 dsimp only [Pt.cells] at k6 hdest
 have fin0:=zhd6 hno' hstep htk hdest hisP hend
 have fin1:=zhd7 hcp xk lk hno hok hget hset
 have fin2:=zhd3 hds hU hm
 clear hno' hstep htk hdest hisP hend hcp xk lk hno hok hget hset hds hU had hadk hH yk hc hs hv g1 g2 g5 g6 hm
 have hmk:k<9223372036854775807:=by omega
 repeat (with_reducible first|(first|refine pI1 ?_|refine pS1 ?_);intros|refine pA1 ?_|refine pX1 ?_|refine pB1 ?_|exact True.intro)
 have hcp:=fin1 _ fun hcp _ _ _ _ _ _=>hcp
 refine outM_call (hcp Hk (fun _ _=>rfl) (by have:=lt_of_get k6;omega) v) ?_
 clear hcp
 rintro _ H4 ⟨⟨p,rfl,hp⟩,l4,x4⟩
 have m1:H4[b1]?=_:=(x4 b1 (lt_of_get k1)).trans k1
 have m2:H4[b2]?=_:=(x4 b2 (lt_of_get k2)).trans k2
 have m3:H4[b3]?=_:=(x4 b3 (lt_of_get k3)).trans k3
 have m5:H4[b5]?=_:=(x4 b5 (lt_of_get k5)).trans k5
 have m6:H4[b6]?=_:=(x4 b6 (lt_of_get k6)).trans k6
 have lb6':=lt_of_get k6
 obtain⟨p1,p2,p3,p4,p5,p6⟩:=p
 dsimp only [Pt.cells]
 have fin3:=zhd2 hp x4
 clear hp x4 k1 k2 k3 k5 k6 hld
 have key:∀Hx,Xt H4 Hx→∀b,b<H.length→b≠b3→Hx[b]?=H[b]?:=fun Hx hx b hb hne=>by
  rw[hx.2 b (fin1 _ fun _ _ lk _ _ _ _=>by omega),fin3 _ fun _ x4=>x4 b (fin1 _ fun _ _ lk _ _ _ _=>by omega)]
  exact fin1 _ fun _ xk _ _ _ _ _=>xk b hb hne
 have hlen4:H.length≤H4.length:=fin1 _ fun _ _ lk _ _ _ _=>by omega
 have fin4:=zhd1 key
 clear key
 by_cases hv1:0≤v∧v≤(m:Int)-1
 case neg=>
  have hP:¬P:=fun h=>hv1 (by have:=((fin0 _ fun _ _ _ hd _ _=>hd).1 h).1;omega)
  rw[decide_eq_false hv1]
  repeat (with_reducible first|(first|refine pI1 ?_|refine pS1 ?_);intros|refine pA1 ?_|refine pX1 ?_|refine pB1 ?_|exact True.intro)
  rename_i b8 H8 q8 g8 x8 H9 l9 g9 x9 H10 l10 g10 x10
  have z:Xt H4 H9:=⟨by omega,fun b hb=>by rw[x9 b (by omega),x8 b (by omega)]⟩
  refine fin1 _ fun _ _ _ hno _ _ _=>?_
  exact hno _ _ zf (fin0 _ fun hn _ _ _ _ _=>hn (.inl hP)) (by omega) (fun b hb hn2 hn3=>by rw[x10 b hn2];exact fin4 _ fun key=>key _ z b hb hn3) g10
 rw[decide_eq_true hv1]
 obtain⟨v1,v2⟩:=hv1
 have hpe:=fin3 _ fun hp _=>hp ((fin0 _ fun _ _ _ _ h _=>h).2 ⟨v1,by omega⟩)
 have hdp:P↔(p3=2∧p2=s2∧p4=s4):=by
  have hd:=fin0 _ fun _ _ _ hd _ _=>hd
  rw[←hpe] at hd
  dsimp only at hd
  rw[hd]
  constructor
  ·rintro⟨_,h1,h2,h3⟩;exact⟨h1,h2,h3⟩
  ·rintro⟨h1,h2,h3⟩;exact⟨⟨v1,by omega⟩,h1,h2,h3⟩
 have fin5:=zhd1 hdp
 have hgt:=fin1 _ fun _ _ _ _ _ hg _=>hg v1 (by omega)
 have hvm:v.toNat<m:=by omega
 have hv64:v<9223372036854775807:=by omega
 clear hpe hdp
 by_cases hd:p3=2∧p2=s2∧p4=s4
 case neg=>
  have hP:¬P:=fun h=>hd (fin5 _ fun hi=>hi.1 h)
  by_cases h3:p3=2
  ·by_cases h2:p2=s2
   ·have h4:¬p4=s4:=fun h=>hd ⟨h3,h2,h⟩
    repeat (with_reducible first|(first|refine pI1 ?_|refine pS1 ?_);intros|refine pA1 ?_|refine pX1 ?_|refine pB1 ?_|exact True.intro)
    rename_i b8 H8 q8 g8 x8 H9 l9 g9 x9 H10 l10 g10 x10
    have z:Xt H4 H9:=⟨by omega,fun b hb=>by rw[x9 b (by omega),x8 b (by omega)]⟩
    refine fin1 _ fun _ _ _ hno _ _ _=>?_
    exact hno _ _ zf (fin0 _ fun hn _ _ _ _ _=>hn (.inl hP)) (by omega) (fun b hb hn2 hn3=>by rw[x10 b hn2];exact fin4 _ fun key=>key _ z b hb hn3) g10
   ·repeat (with_reducible first|(first|refine pI1 ?_|refine pS1 ?_);intros|refine pA1 ?_|refine pX1 ?_|refine pB1 ?_|exact True.intro)
    rename_i b8 H8 q8 g8 x8 H9 l9 g9 x9 H10 l10 g10 x10
    have z:Xt H4 H9:=⟨by omega,fun b hb=>by rw[x9 b (by omega),x8 b (by omega)]⟩
    refine fin1 _ fun _ _ _ hno _ _ _=>?_
    exact hno _ _ zf (fin0 _ fun hn _ _ _ _ _=>hn (.inl hP)) (by omega) (fun b hb hn2 hn3=>by rw[x10 b hn2];exact fin4 _ fun key=>key _ z b hb hn3) g10
  ·repeat (with_reducible first|(first|refine pI1 ?_|refine pS1 ?_);intros|refine pA1 ?_|refine pX1 ?_|refine pB1 ?_|exact True.intro)
   rename_i b8 H8 q8 g8 x8 H9 l9 g9 x9 H10 l10 g10 x10
   have z:Xt H4 H9:=⟨by omega,fun b hb=>by rw[x9 b (by omega),x8 b (by omega)]⟩
   refine fin1 _ fun _ _ _ hno _ _ _=>?_
   exact hno _ _ zf (fin0 _ fun hn _ _ _ _ _=>hn (.inl hP)) (by omega) (fun b hb hn2 hn3=>by rw[x10 b hn2];exact fin4 _ fun key=>key _ z b hb hn3) g10
 have hP:P:=fin5 _ fun hi=>hi.2 hd
 obtain⟨rfl,rfl,rfl⟩:=hd
 by_cases hcn:(0:Int)<((cn v U:Nat):Int)
 ·repeat (with_reducible first|(first|refine pI1 ?_|refine pS1 ?_);intros|refine pA1 ?_|refine pX1 ?_|refine pB1 ?_|exact True.intro)
  rename_i b8 H8 q8 g8 x8 H9 l9 g9 x9 H10 l10 g10 x10
  have z:Xt H4 H9:=⟨by omega,fun b hb=>by rw[x9 b (by omega),x8 b (by omega)]⟩
  refine fin1 _ fun _ _ _ hno _ _ _=>?_
  exact hno _ _ zf (fin0 _ fun hn _ _ _ _ _=>hn (.inr (by omega))) (by omega) (fun b hb hn2 hn3=>by rw[x10 b hn2];exact fin4 _ fun key=>key _ z b hb hn3) g10
 have hcz:cn v U=0:=by omega
 have hds':=fin2 _ fun hds hU hm=>(fin0 _ fun _ hstep _ _ _ _=>hstep hP hcz)
 have hst:=fin1 _ fun _ _ _ _ _ _ hs=>hs v1 (by omega)
 rw[hcz] at hgt hst
 have hgt:(nums (tkn m U))[v.toNat]?=some (.int .i64 0):=hgt
 have hst:(nums (tkn m U)).set v.toNat (.int .i64 1)=nums (tkn m (U++[v])):=hst
 rw[fin0 _ fun _ _ h _ _ _=>h] at hst
 have fin6:=zhd2 hds' hst
 clear hcn hcz hds' hst hcnb fin5
 by_cases hlast:k+1=nd
 ·have hl1:(k:Int)=(nd:Int)-1:=by omega
  repeat (with_reducible first|(first|refine pI1 ?_|refine pS1 ?_);intros|refine pA1 ?_|refine pX1 ?_|refine pB1 ?_|exact True.intro)
  rename_i b8 H8 q8 g8 x8 H9 l9 g9 x9 H10 l10 g10 x10
  have z:Xt H4 H9:=⟨by omega,fun b hb=>by rw[x9 b (by omega),x8 b (by omega)]⟩
  have g10':H10[b3]?=some (.cells (nums (tkn m (Cfg.used (c.links.take (i+1))))) false none):=by
   rw[←fin0 _ fun _ _ _ _ _ h=>h hlast,←fin6 _ fun _ h=>h];exact g10
  refine fin1 _ fun _ _ _ _ hok _ _=>?_
  exact hok _ _ zf zf zf zf zf zf (fin6 _ fun h _=>by rw[←hlast];exact h) (by omega) (fun b hb hn=>by rw[x10 b hn];exact fin4 _ fun key=>key _ z b hb hn) g10'
 ·have hl1:¬(k:Int)=(nd:Int)-1:=by omega
  repeat (with_reducible first|(first|refine pI1 ?_|refine pS1 ?_);intros|refine pA1 ?_|refine pX1 ?_|refine pB1 ?_|exact True.intro)
  rename_i b8 H8 q8 g8 x8 H9 l9 g9 x9 H10 l10 g10 x10
  have z:Xt H4 H9:=⟨by omega,fun b hb=>by rw[x9 b (by omega),x8 b (by omega)]⟩
  have g10':H10[b3]?=some (.cells (nums (tkn m (Cfg.used (c.links.take i)++((c.link i).src :: (c.link i).dests.take (k+1))))) false none):=by
   rw[←fin6 _ fun _ h=>h];exact g10
  exact loopQ_n (nd-(k+1)) (by omega) ⟨_,k+1,H10,rfl,rfl,by omega,zf,zf,zf,zf,zf,zf,zf,zf,zf,zf,zf,fin6 _ fun h _=>h,by omega,fun b hb hn=>by rw[x10 b hn];exact fin4 _ fun key=>key _ z b hb hn,g10'⟩
end Go.Proofs.YtjcgdcadflplcaaDoor.AM.D21
namespace Go.Proofs.YtjcgdcadflplcaaDoor.AM.D21
open Go Go.Proofs.YtjcgdcadflplcaaDoor.AM Go.Proofs.YtjcgdcadflplcaaDoor.AM.C02
set_option maxHeartbeats 2000000
set_option maxRecDepth 100000
attribute [local go_sem] tn_add1 tn_sub1 put_all' nums_len aop_mn aop_mx mnO_int mxO_int sub12 sub3 sub6 rep6
set_option maxHeartbeats 20000000
theorem mkslO_tkn {H:Heap} {m:Nat} (h:m≤1000000):mkslO 1 8 [Cell.int .i64 0] (.c (.int .i64 (m:Nat))) (.c (.int .i64 (m:Nat))) H=some (.v (.c (.sl (some (H.length,0)) m m false)),H++[.cells (nums (tkn m [])) false none]):=by
 have e:=mkslO_int (H:=H) (sz:=1) (by_:=8) (z:=[Cell.int .i64 0]) (i:=.i64) (i':=.i64) (l:=(m:Nat)) (c:=(m:Nat)) ⟨by omega,by omega,by omega⟩ rfl
 rw[e,Int.toNat_natCast,tkn_0]
attribute [local go_sem high] mkslO_tkn
theorem s_clinks {N:Nat} {H:Heap} {c:Cfg} {h:Hd} (hc:CfgM N H c h) (hN:N≤H.length) (hps:c.okParts) (hpt:c.okPorts):WC F fXg [.agg (c.cells h)] H fun v H'=>v=.c (.bool (dB c.okLinks))∧Xt H H':=by
 refine WC_start eXg (by simp) ?_
 unfold cXg Cfg.cells
 obtain⟨n,hn⟩:∃n,c.links.length=n:=⟨_,rfl⟩
 obtain⟨m,hm⟩:∃m,c.ports.length=m:=⟨_,rfl⟩
 obtain⟨np,hnp⟩:∃n,c.parts.length=n:=⟨_,rfl⟩
 rw[hn,hm,hnp]
 have hm64:m≤64:=by have:=hpt.1;omega
 have fin0:=zhd6 hc hn hm hnp hps hpt
 clear hc hn hm hnp hps hpt
 repeat (with_reducible first|(first|refine pI1 ?_|refine pS1 ?_);intros|refine pA1 ?_|refine pX1 ?_|refine pB1 ?_|exact True.intro)
 rename_i b1 H1 p1 g1 x1 b2 H2 p2 g2 x2
 by_cases hbig:64<(n:Int)
 ·repeat (with_reducible first|(first|refine pI1 ?_|refine pS1 ?_);intros|refine pA1 ?_|refine pX1 ?_|refine pB1 ?_|exact True.intro)
  rename_i H3 l3 g3 x3
  repeat (with_reducible first|(first|refine pI1 ?_|refine pS1 ?_);intros|refine pA1 ?_|refine pX1 ?_|refine pB1 ?_|exact True.intro)
  exact⟨by rw[dB_f (fun h=>by have:=h.1;have:=fin0 _ fun _ hn _ _ _ _=>hn;omega)],by omega,fun b hb=>by rw[x3 b (by omega),x2 b (by omega),x1 b (by omega)]⟩
 have hn64:n≤64:=by omega
 have g12:H2[b1]?=_:=(x2 b1 (by omega)).trans g1
 have y2:Xt H H2:=⟨by omega,fun b hb=>by rw[x2 b (by omega),x1 b (by omega)]⟩
 have fy2:=zhd1 y2
 clear x1 x2 g1 y2
 repeat (with_reducible first|(first|refine pI1 ?_|refine pS1 ?_);intros|refine pA1 ?_|refine pX1 ?_|refine pB1 ?_|exact True.intro)
 rename_i b3 H3 p3 g3 x3
 have g13:H3[b1]?=_:=(x3 b1 (by omega)).trans g12
 have g23:H3[b2]?=_:=(x3 b2 (by omega)).trans g2
 have y3:Xt H H3:=⟨by omega,fun b hb=>by rw[x3 b (by omega)];exact fy2 _ fun y=>y.2 b hb⟩
 have fy3:=zhd1 y3
 clear x3 g12 g2 y3 fy2
 repeat (with_reducible first|(first|refine pI1 ?_|refine pS1 ?_);intros|refine pA1 ?_|refine pX1 ?_|refine pB1 ?_|exact True.intro)
 refine W_loop (fun q st=>∃ρ i Hk,st=⟨L 195 ρ,[],Hk⟩∧q=n-i∧i≤n∧ρ 1=.c (.ptr (some (b1,0)))∧ρ 2=.c (.ptr (some (b2,0)))∧ρ 3=.c (.sl (some (b3,0)) m m false)∧ρ 27=.c (.sl h.a11 n h.c11 h.o11)∧ρ 28=.c (.int .i64 (n:Nat))∧ρ 29=.c (.int .i64 (i:Nat))∧LkOk c i∧H3.length≤Hk.length∧(∀b,b<H3.length→b≠b3→Hk[b]?=H3[b]?)∧Hk[b3]?=some (.cells (nums (tkn m (Cfg.used (c.links.take i)))) false none)) n ⟨_,0,H3,rfl,rfl,by omega,zf,zf,zf,zf,zf,zf,⟨fun j hj=>by omega,fun x=>by simp[Cfg.used]⟩,Nat.le_refl _,fun _ _ _=>rfl,g3⟩ ?_
 clear g3
 rintro q st ⟨ρ,i,Hk,rfl,rfl,hi,e1,e2,e3,e27,e28,e29,hlk,lk,xk,k3⟩
 unfold bXg_22
 have k1:Hk[b1]?=_:=(xk b1 (by omega) (by omega)).trans g13
 have k2:Hk[b2]?=_:=(xk b2 (by omega) (by omega)).trans g23
 have yk:∀b,b<H.length→Hk[b]?=H[b]?:=fun b hb=>by rw[xk b (by omega) (by omega)];exact fy3 _ fun y=>y.2 b hb
 by_cases hin:i<n
 ·have hxt:(i:Int)<(n:Int):=by omega
  obtain⟨la,y,ad,cd,od,ea,hla,hld,had,hadN,hmem,hndb⟩:=fin0 _ fun hc hn _ _ _ _=>link_at hc (i:=i) (by omega)
  rw[←yk la (by omega)] at hld
  have hi':i<c.links.length:=fin0 _ fun _ hn _ _ _ _=>by omega
  obtain⟨nd,hnd⟩:∃nd,(c.link i).dests.length=nd:=⟨_,rfl⟩
  rw[hnd] at hld had hndb
  have hsrc:c.okSrc (c.link i)↔((0≤(c.link i).src∧(c.link i).src<(m:Int))∧(c.port (c.link i).src).dir=1∧nd≠0∧0≤(c.link i).off∧(c.link i).off≤63-(c.port (c.link i).src).size):=by
   unfold Cfg.okSrc Cfg.isP
   rw[fin0 _ fun _ _ hm _ _ _=>hm]
   have:(c.link i).dests≠[]↔nd≠0:=by rw[←hnd];simp
   rw[this]
  have hisP:c.isP (c.link i).src↔(0≤(c.link i).src∧(c.link i).src<(m:Int)):=by unfold Cfg.isP;rw[fin0 _ fun _ _ hm _ _ _=>hm]
  have hsize:0≤(c.link i).src→(c.link i).src<(m:Int)→1≤(c.port (c.link i).src).size∧(c.port (c.link i).src).size≤32:=fun h1 h2=>fin0 _ fun _ _ hm _ _ hpt=>by
   have hmem2:c.port (c.link i).src∈c.ports:=by
    unfold Cfg.port
    rw[List.getD_eq_getElem?_getD,List.getElem?_eq_getElem (show (c.link i).src.toNat<c.ports.length by omega),Option.getD_some]
    exact List.getElem_mem _
   have:=(hpt.2 _ hmem2).1
   exact⟨this.2.2.1,this.2.2.2.1⟩
  have hno0:(¬c.okSrc (c.link i)∨0<cn (c.link i).src (Cfg.used (c.links.take i)))→¬c.okLinks:=no_src hi'
  have hcp:∀Hx:Heap,(∀b,b<N→Hx[b]?=H[b]?)→N≤Hx.length→_:=fun Hx hx hl=>s_port (n:=(c.link i).src) (fin0 _ fun hc _ _ _ _ _=>hc.keep (H':=Hx) hx) hl (fin0 _ fun _ _ hm _ _ _=>by omega)
  unfold Cfg.cells at hcp
  rw[fin0 _ fun _ _ hm _ _ _=>hm,fin0 _ fun _ hn _ _ _ _=>hn,fin0 _ fun _ _ _ hnp _ _=>hnp] at hcp
  have hU:∃U,U=Cfg.used (c.links.take i):=⟨_,rfl⟩
  obtain⟨U,hU⟩:=hU
  obtain⟨src,hsr⟩:∃s,s=(c.link i).src:=⟨_,rfl⟩
  obtain⟨off,hof⟩:∃s,s=(c.link i).off:=⟨_,rfl⟩
  have hget:0≤src→src<(m:Int)→(nums (tkn m U))[src.toNat]?=some (.int .i64 ((cn src U:Nat):Int)):=fun h1 h2=>by
   rw[nums_get (by rw[tkn_len];omega),tkn_gn (by omega),show ((src.toNat:Nat):Int)=src by omega]
  have hset:0≤src→src<(m:Int)→(nums (tkn m U)).set src.toNat (.int .i64 (((cn src U:Nat):Int)+1))=nums (tkn m (U++[src])):=fun h1 h2=>by
   have:=tkn_set (m:=m) (U:=U) (k:=src.toNat) (by omega)
   rwa [show ((src.toNat:Nat):Int)=src by omega] at this
  have hcl:(nums (tkn m U)).length=m:=by rw[nums_len,tkn_len]
  rw[←hU] at k3
  rw[←hsr] at hld hsrc hisP
  rw[←hof] at hld hsrc
  rw[←hsr] at hno0 hcp hsize
  rw[←hU] at hno0
  rw[ea] at e27
  have fea:=zhd1 ea
  have hDest:=fun hs:c.okSrc (c.link i)=>fun hx:cn src U=0=>DsOk.start (c:=c) (i:=i) hlk hs (by rw[←hsr,←hU];exact hx)
  generalize c.okSrc (c.link i)=P at *
  have fin1:=zhd8 hsrc hisP hsize hno0 hcp hget hset hDest
  have fin2:=zhd10 hlk xk yk had hadN hnd hU hsr hof hi'
  have lb1:=lt_of_get k1
  have hlk3:=lt_of_get k3
  clear hsrc hisP hsize hno0 hcp hget hset hDest hlk xk yk had hadN hnd hU hsr hof hi' hmem ea g13 g23
  have lk0:H3.length≤Hk.length:=lk
  repeat (with_reducible first|(first|refine pI1 ?_|refine pS1 ?_);intros|refine pA1 ?_|refine pX1 ?_|refine pB1 ?_|exact True.intro)
  rename_i b5 H5 p5 g5 x5 H6 l6 g6 x6
  have z6:∀b,b<Hk.length→H6[b]?=Hk[b]?:=fun b hb=>by rw[x6 b (by omega),x5 b (by omega)]
  have m1:H6[b1]?=_:=(z6 b1 (by omega)).trans k1
  have m2:H6[b2]?=_:=(z6 b2 (by omega)).trans k2
  have m3:H6[b3]?=_:=(z6 b3 (by omega)).trans k3
  have y6:∀b,b<H.length→H6[b]?=H[b]?:=fun b hb=>(z6 b (by omega)).trans (fin2 _ fun _ _ yk _ _ _ _ _ _ _=>yk b hb)
  have f6:=zhd2 z6 y6
  clear x5 x6 z6 y6 g5 k1 k2 k3 hld
  have hcp:=fin1 _ fun _ _ _ _ hcp _ _ _=>hcp
  refine outM_call (hcp H6 (fun b hb=>f6 _ fun _ y=>y b (by omega)) (by omega)) ?_
  clear hcp
  rintro _ H7 ⟨⟨p,rfl,hp⟩,l7,x7⟩
  have m17:H7[b1]?=_:=(x7 b1 (by omega)).trans m1
  have m27:H7[b2]?=_:=(x7 b2 (by omega)).trans m2
  have m37:H7[b3]?=_:=(x7 b3 (by omega)).trans m3
  have m57:H7[b5]?=_:=(x7 b5 (by omega)).trans g6
  obtain⟨p1,p2,p3,p4,p5_,p6⟩:=p
  dsimp only [Pt.cells]
  have y7:∀b,b<H.length→H7[b]?=H[b]?:=fun b hb=>(x7 b (by omega)).trans (f6 _ fun _ y=>y b hb)
  have w7:∀b,b<H3.length→b≠b3→H7[b]?=H3[b]?:=fun b hb hne=>by rw[x7 b (by omega),f6 _ fun z _=>z b (by omega)];exact fin2 _ fun _ xk _ _ _ _ _ _ _ _=>xk b hb hne
  have f7:=zhd3 hp y7 w7
  clear hp x7 m1 m2 m3 g6 y7 w7
  have hl7:H6.length≤H7.length:=l7
  by_cases hv1:0≤src∧src≤(m:Int)-1
  case neg=>
   have hP:¬P:=fun h=>hv1 (by have:=((fin1 _ fun hs _ _ _ _ _ _ _=>hs).1 h).1;omega)
   rw[decide_eq_false hv1]
   repeat (with_reducible first|(first|refine pI1 ?_|refine pS1 ?_);intros|refine pA1 ?_|refine pX1 ?_|refine pB1 ?_|exact True.intro)
   rename_i b8 H8 q8 g8 x8 H9 l9 g9 x9 H10 l10 g10 x10
   exact⟨by rw[dB_f (fin1 _ fun _ _ _ hn _ _ _ _=>hn (.inl hP))],by omega,fun b hb=>by rw[x10 b (by omega),x9 b (by omega),x8 b (by omega)];exact f7 _ fun _ y _=>y b hb⟩
  rw[decide_eq_true hv1]
  obtain⟨v1,v2⟩:=hv1
  have hpe:=f7 _ fun hp _ _=>hp ((fin1 _ fun _ hi _ _ _ _ _ _=>hi).2 ⟨v1,by omega⟩)
  have hsz:=fin1 _ fun _ _ hs _ _ _ _ _=>hs v1 (by omega)
  have hsr:=fin1 _ fun hs _ _ _ _ _ _ _=>hs
  have hpe':(⟨p1,p2,p3,p4,p5_,p6⟩:Pt)=c.port src:=hpe
  rw[←hpe'] at hsz
  rw[←hpe'] at hsr
  dsimp only at hsz hsr
  obtain⟨sz1,sz2⟩:=hsz
  have hPi:P↔(p3=1∧nd≠0∧0≤off∧off≤63-p4):=by
   rw[hsr]
   constructor
   ·rintro⟨_,h1,h2,h3,h4⟩;exact⟨h1,h2,h3,h4⟩
   ·rintro⟨h1,h2,h3,h4⟩;exact⟨⟨v1,by omega⟩,h1,h2,h3,h4⟩
  have f8:=zhd2 hPi hpe'
  clear hpe hpe' hsr hPi
  by_cases c1:p3=1
  case neg=>
   have hP:¬P:=fun h=>c1 (f8 _ fun hi _=>(hi.1 h).1)
   repeat (with_reducible first|(first|refine pI1 ?_|refine pS1 ?_);intros|refine pA1 ?_|refine pX1 ?_|refine pB1 ?_|exact True.intro)
   rename_i b8 H8 q8 g8 x8 H9 l9 g9 x9 H10 l10 g10 x10
   exact⟨by rw[dB_f (fin1 _ fun _ _ _ hn _ _ _ _=>hn (.inl hP))],by omega,fun b hb=>by rw[x10 b (by omega),x9 b (by omega),x8 b (by omega)];exact f7 _ fun _ y _=>y b hb⟩
  by_cases c2:nd=0
  ·have hP:¬P:=fun h=>(f8 _ fun hi _=>(hi.1 h).2.1) c2
   have c2':(nd:Int)=0:=by omega
   repeat (with_reducible first|(first|refine pI1 ?_|refine pS1 ?_);intros|refine pA1 ?_|refine pX1 ?_|refine pB1 ?_|exact True.intro)
   rename_i b8 H8 q8 g8 x8 H9 l9 g9 x9 H10 l10 g10 x10
   exact⟨by rw[dB_f (fin1 _ fun _ _ _ hn _ _ _ _=>hn (.inl hP))],by omega,fun b hb=>by rw[x10 b (by omega),x9 b (by omega),x8 b (by omega)];exact f7 _ fun _ y _=>y b hb⟩
  have c2':¬(nd:Int)=0:=by omega
  subst c1
  repeat (with_reducible first|(first|refine pI1 ?_|refine pS1 ?_);intros|refine pA1 ?_|refine pX1 ?_|refine pB1 ?_|exact True.intro)
  rename_i b8 H8 q8 g8 x8 H9 l9 g9 x9
  have z9:∀b,b<H7.length→H9[b]?=H7[b]?:=fun b hb=>by rw[x9 b (by omega),x8 b (by omega)]
  have m19:H9[b1]?=_:=(z9 b1 (by omega)).trans m17
  have m29:H9[b2]?=_:=(z9 b2 (by omega)).trans m27
  have m39:H9[b3]?=_:=(z9 b3 (by omega)).trans m37
  have m59:H9[b5]?=_:=(z9 b5 (by omega)).trans m57
  have f9:=zhd1 z9
  clear x8 x9 z9 m17 m27 m37 m57 g8
  refine outM_call s_within ?_
  rintro _ H9 ⟨rfl,rfl⟩
  by_cases c3:0≤off∧off≤63-p4
  case neg=>
   have hP:¬P:=fun h=>c3 (f8 _ fun hi _=>(hi.1 h).2.2)
   rw[decide_eq_false c3]
   repeat (with_reducible first|(first|refine pI1 ?_|refine pS1 ?_);intros|refine pA1 ?_|refine pX1 ?_|refine pB1 ?_|exact True.intro)
   rename_i H10 l10 g10 x10
   exact⟨by rw[dB_f (fin1 _ fun _ _ _ hn _ _ _ _=>hn (.inl hP))],by omega,fun b hb=>by rw[x10 b (by omega),f9 _ fun z=>z b (by omega)];exact f7 _ fun _ y _=>y b hb⟩
  have hP:P:=(f8 _ fun hi _=>hi.2 ⟨rfl,c2,c3⟩)
  rw[decide_eq_true c3]
  obtain⟨c3,c4⟩:=c3
  have hgt:=fin1 _ fun _ _ _ _ _ hg _ _=>hg v1 (by omega)
  have hvm:src.toNat<m:=by omega
  have hcnb:cn src U≤U.length:=List.countP_le_length
  by_cases hcn:(0:Int)<((cn src U:Nat):Int)
  ·repeat (with_reducible first|(first|refine pI1 ?_|refine pS1 ?_);intros|refine pA1 ?_|refine pX1 ?_|refine pB1 ?_|exact True.intro)
   rename_i H10 l10 g10 x10
   exact⟨by rw[dB_f (fin1 _ fun _ _ _ hn _ _ _ _=>hn (.inr (by omega)))],by omega,fun b hb=>by rw[x10 b (by omega),f9 _ fun z=>z b (by omega)];exact f7 _ fun _ y _=>y b hb⟩
  have hcz:cn src U=0:=by omega
  have hds:=fin1 _ fun _ _ _ _ _ _ _ hD=>hD hP hcz
  have hst:=fin1 _ fun _ _ _ _ _ _ hs _=>hs v1 (by omega)
  rw[hcz] at hgt hst
  have hgt:(nums (tkn m U))[src.toNat]?=some (.int .i64 0):=hgt
  have hst:(nums (tkn m U)).set src.toNat (.int .i64 1)=nums (tkn m (U++[src])):=hst
  have fa:=zhd2 hds hst
  clear hcn hcz hds hst hcnb
  repeat (with_reducible first|(first|refine pI1 ?_|refine pS1 ?_);intros|refine pA1 ?_|refine pX1 ?_|refine pB1 ?_|exact True.intro)
  rename_i H10 l10 g10 x10
  have n1:H10[b1]?=_:=(x10 b1 (by omega)).trans m19
  have n2:H10[b2]?=_:=(x10 b2 (by omega)).trans m29
  have n5:H10[b5]?=_:=(x10 b5 (by omega)).trans m59
  have n6:H10[b8]?=_:=(x10 b8 (by omega)).trans g9
  have y10:∀b,b<H.length→H10[b]?=H[b]?:=fun b hb=>by rw[x10 b (by omega),f9 _ fun z=>z b (by omega)];exact f7 _ fun _ y _=>y b hb
  have w10:∀b,b<H3.length→b≠b3→H10[b]?=H3[b]?:=fun b hb hne=>by rw[x10 b hne,f9 _ fun z=>z b (by omega)];exact f7 _ fun _ _ w=>w b hb hne
  have hsrc:=fin2 _ fun _ _ _ _ _ _ _ h _ _=>h
  have hoff:=fin2 _ fun _ _ _ _ _ _ _ _ h _=>h
  have hUU:=fin2 _ fun _ _ _ _ _ _ h _ _ _=>h
  have g10':H10[b3]?=some (.cells (nums (tkn m (Cfg.used (c.links.take i)++[(c.link i).src]))) false none):=by
   rw[←hUU,←hsrc,←fa _ fun _ h=>h];exact g10
  refine fin0 _ fun hc hn hm hnp _ _=>fin2 _ fun _ _ _ had hadN hnd _ _ _ hi'=>?_
  have hn1:H10[b1]?=some (.cells (c.cells h) false none):=by
   unfold Cfg.cells
   rw[hn,hm,hnp];exact n1
  refine W_dest (n:=0) (N:=N) (H0:=H) (h:=h) (C:=c.cells h) (s:=⟨p1,p2,1,p4,p5_,p6⟩) (b5:=b5) (b6:=b8) (nd:=nd) (cd:=cd) (ad:=ad) (od:=od) (C5:=[.int .i64 src,.sl ad nd cd od,.int .i64 off]) hc (by omega) rfl (fun b hb=>y10 b (by omega)) hm hm64 hi' hnd (by omega) hndb (by rw[←hsrc];exact f8 _ fun _ h=>h) (by rw[hsrc,hoff]) (had.keep fun b x e=>y10 b (by have:=hadN b x e;omega)) hadN hn1 n2 g10' n5 n6 (by omega) (fa _ fun h _=>h) zf zf zf zf zf zf zf zf ?_ ?_
  ·intro ρ' H' u1 u2 u3 u27 u28 u29 hds lH xH gH
   replace u1:ρ' 1=.c (.ptr (some (b1,0))):=by rw[u1];simp (disch:=first|with_reducible assumption|omega) only [go_sem, *,reduceCtorEq,↓reduceIte,Nat.reduceLT,Nat.reduceBEq,Nat.reduceAdd,Nat.reduceSub,Nat.reduceMul,Nat.reduceDiv,Nat.reduceMod,Nat.reducePow,Nat.reduceEqDiff,Nat.reduceLeDiff,Int.reduceLT,Int.reduceLE,Int.reduceNeg,Int.reduceToNat,Int.reduceAdd,Int.reduceSub,Int.reduceMul,Int.reduceEq,Int.reduceNe,Int.reduceBEq,Int.reduceBNe,Int.reducePow]
   replace u2:ρ' 2=.c (.ptr (some (b2,0))):=by rw[u2];simp (disch:=first|with_reducible assumption|omega) only [go_sem, *,reduceCtorEq,↓reduceIte,Nat.reduceLT,Nat.reduceBEq,Nat.reduceAdd,Nat.reduceSub,Nat.reduceMul,Nat.reduceDiv,Nat.reduceMod,Nat.reducePow,Nat.reduceEqDiff,Nat.reduceLeDiff,Int.reduceLT,Int.reduceLE,Int.reduceNeg,Int.reduceToNat,Int.reduceAdd,Int.reduceSub,Int.reduceMul,Int.reduceEq,Int.reduceNe,Int.reduceBEq,Int.reduceBNe,Int.reducePow]
   replace u3:ρ' 3=.c (.sl (some (b3,0)) m m false):=by rw[u3];simp (disch:=first|with_reducible assumption|omega) only [go_sem, *,reduceCtorEq,↓reduceIte,Nat.reduceLT,Nat.reduceBEq,Nat.reduceAdd,Nat.reduceSub,Nat.reduceMul,Nat.reduceDiv,Nat.reduceMod,Nat.reducePow,Nat.reduceEqDiff,Nat.reduceLeDiff,Int.reduceLT,Int.reduceLE,Int.reduceNeg,Int.reduceToNat,Int.reduceAdd,Int.reduceSub,Int.reduceMul,Int.reduceEq,Int.reduceNe,Int.reduceBEq,Int.reduceBNe,Int.reducePow]
   replace u27:ρ' 27=.c (.sl h.a11 n h.c11 h.o11):=by rw[u27,fea _ fun e=>e];simp (disch:=first|with_reducible assumption|omega) only [go_sem, *,reduceCtorEq,↓reduceIte,Nat.reduceLT,Nat.reduceBEq,Nat.reduceAdd,Nat.reduceSub,Nat.reduceMul,Nat.reduceDiv,Nat.reduceMod,Nat.reducePow,Nat.reduceEqDiff,Nat.reduceLeDiff,Int.reduceLT,Int.reduceLE,Int.reduceNeg,Int.reduceToNat,Int.reduceAdd,Int.reduceSub,Int.reduceMul,Int.reduceEq,Int.reduceNe,Int.reduceBEq,Int.reduceBNe,Int.reducePow]
   replace u28:ρ' 28=.c (.int .i64 (n:Nat)):=by rw[u28];simp (disch:=first|with_reducible assumption|omega) only [go_sem, *,reduceCtorEq,↓reduceIte,Nat.reduceLT,Nat.reduceBEq,Nat.reduceAdd,Nat.reduceSub,Nat.reduceMul,Nat.reduceDiv,Nat.reduceMod,Nat.reducePow,Nat.reduceEqDiff,Nat.reduceLeDiff,Int.reduceLT,Int.reduceLE,Int.reduceNeg,Int.reduceToNat,Int.reduceAdd,Int.reduceSub,Int.reduceMul,Int.reduceEq,Int.reduceNe,Int.reduceBEq,Int.reduceBNe,Int.reducePow]
   replace u29:ρ' 29=.c (.int .i64 (i:Nat)):=by rw[u29];simp (disch:=first|with_reducible assumption|omega) only [go_sem, *,reduceCtorEq,↓reduceIte,Nat.reduceLT,Nat.reduceBEq,Nat.reduceAdd,Nat.reduceSub,Nat.reduceMul,Nat.reduceDiv,Nat.reduceMod,Nat.reducePow,Nat.reduceEqDiff,Nat.reduceLeDiff,Int.reduceLT,Int.reduceLE,Int.reduceNeg,Int.reduceToNat,Int.reduceAdd,Int.reduceSub,Int.reduceMul,Int.reduceEq,Int.reduceNe,Int.reduceBEq,Int.reduceBNe,Int.reducePow]
   have hfin:LkOk c (i+1):=DsOk.fin hi' (by rw[hnd];exact hds)
   have fb:=zhd3 hfin gH (fun b (hb:b<H3.length) (hne:b≠b3)=>(xH b (by omega) hne).trans (w10 b hb hne))
   clear hc hn hm hnp had hadN hnd hi' hds xH gH hfin w10 y10 n1 n2 n5 n6 g10 g10' x10 hn1 hsrc hoff hUU m19 m29 m39 m59 g9
   repeat (with_reducible first|(first|refine pI1 ?_|refine pS1 ?_);intros|refine pA1 ?_|refine pX1 ?_|refine pB1 ?_|exact True.intro)
   exact loopQ_n (n-(i+1)) (by omega) ⟨_,i+1,H',rfl,rfl,by omega,zf,zf,zf,zf,zf,zf,fb _ fun a _ _=>a,by omega,fb _ fun _ _ a=>a,fb _ fun _ a _=>a⟩
  ·intro ρ' H' u2 hnot lH xH gH
   replace u2:ρ' 2=.c (.ptr (some (b2,0))):=by rw[u2];simp (disch:=first|with_reducible assumption|omega) only [go_sem, *,reduceCtorEq,↓reduceIte,Nat.reduceLT,Nat.reduceBEq,Nat.reduceAdd,Nat.reduceSub,Nat.reduceMul,Nat.reduceDiv,Nat.reduceMod,Nat.reducePow,Nat.reduceEqDiff,Nat.reduceLeDiff,Int.reduceLT,Int.reduceLE,Int.reduceNeg,Int.reduceToNat,Int.reduceAdd,Int.reduceSub,Int.reduceMul,Int.reduceEq,Int.reduceNe,Int.reduceBEq,Int.reduceBNe,Int.reducePow]
   have fb:=zhd1 (fun b (hb:b<H.length)=>(xH b (by omega) (by omega) (by omega)).trans (y10 b hb))
   clear hc hn hm hnp had hadN hnd hi' xH w10 y10 n1 n2 n5 n6 g10 g10' x10 hn1 hsrc hoff hUU m19 m29 m39 m59 g9
   repeat (with_reducible first|(first|refine pI1 ?_|refine pS1 ?_);intros|refine pA1 ?_|refine pX1 ?_|refine pB1 ?_|exact True.intro)
   exact⟨by rw[dB_f hnot],by omega,fb _ fun a=>a⟩
 ·obtain rfl:i=n:=by omega
  have hxt:¬(i:Int)<(i:Int):=by omega
  have hlk':(∀j,j<i→c.okLink (c.link j))∧∀x,cn x (Cfg.used c.links)≤1:=by
   refine⟨hlk.1,?_⟩
   have:=hlk.2
   rw[fin0 _ fun _ hn _ _ _ _=>hn.symm,List.take_length] at this
   exact this
  have fyk:=zhd2 yk hlk'
  clear xk g13 g23 yk hlk hlk' k3
  repeat (with_reducible first|(first|refine pI1 ?_|refine pS1 ?_);intros|refine pA1 ?_|refine pX1 ?_|refine pB1 ?_|exact True.intro)
  refine outM_call s_pairs ?_
  rintro _ H4 ⟨b4,rfl,q4,r4,g4,l4,x4⟩
  have k14:H4[b1]?=_:=(x4 b1 (by omega)).trans k1
  have k24:H4[b2]?=_:=(x4 b2 (by omega)).trans k2
  have y4:∀b,b<H.length→H4[b]?=H[b]?:=fun b hb=>(x4 b (by omega)).trans (fyk _ fun yk _=>yk b hb)
  have fy4:=zhd1 y4
  clear x4 k1 k2 y4
  repeat (with_reducible first|(first|refine pI1 ?_|refine pS1 ?_);intros|refine pA1 ?_|refine pX1 ?_|refine pB1 ?_|exact True.intro)
  unfold aXg_30
  refine W_rangeM (F:=F) (enc:=enp) (xs:=rest i 0) kF zf (it_pairs (fun d=>d=b2) (by omega))
   (fun d r Hx=>Hx[b1]?=H4[b1]?∧Hx[b2]?=H4[b2]?∧(∀b,b<H.length→Hx[b]?=H[b]?)∧∀p∈d,c.apartL p.1 p.2)
   (fun e Hx=>e=.ret∧Hx[b2]?=some (.cells [.bool false] false none)∧(∀b,b<H.length→Hx[b]?=H[b]?)∧¬c.okLinks)
   (fun J=>get_app' J g4) (fun b hb=>by omega) (fun _=>rfl) ?_ ?_ ?_ ?_ ?_ ?_
  ·rintro d r H7 H8 ⟨w1,w2,w3,w4⟩ l7 l8 x8
   exact⟨(x8 b1 (by omega) (by omega)).trans w1,(x8 b2 (by omega) (by omega)).trans w2,fun b hb=>(x8 b (by omega) (by omega)).trans (w3 b hb),w4⟩
  ·rintro e H7 H8 ⟨w1,w2,w3,w4⟩ l7 l8 x8
   exact⟨w1,(x8 b2 (by omega) (by omega)).trans w2,fun b hb=>(x8 b (by omega) (by omega)).trans (w3 b hb),w4⟩
  ·intro H7 l7 x7
   exact⟨x7 b1 (by omega),x7 b2 (by omega),fun b hb=>(x7 b (by omega)).trans (fy4 _ fun y=>y b hb),fun p hp=>by simp at hp⟩
  ·intro d p r Ha hd
   obtain⟨j,k⟩:=p
   obtain⟨hjk,hkn⟩:=rest_is (show (j,k)∈rest i 0 by rw[hd];simp)
   simp only[enp,List.zip_cons_cons,List.zip_nil_left,List.foldl_cons,List.foldl_nil,L_set]
   have hone:∀t,t<i→∃la y ad cd od lp yp lq yq,h.a11=some (la,y)∧h.a10=some (lp,yp)∧h.a8=some (lq,yq)∧la<N∧lp<N∧lq<N∧
     ldnB H[la]? (y+t * 3) 3=some [.int .i64 (c.link t).src,.sl ad (c.link t).dests.length cd od,.int .i64 (c.link t).off]∧
     ldnB H[lp]? (yp+(c.link t).src.toNat * 6) 6=some (c.port (c.link t).src).cells∧ldB H[lq]? (yq+(c.port (c.link t).src).part.toNat * 3)=some (.int .i64 (c.part (c.port (c.link t).src).part).node)∧
     0≤(c.link t).src∧(c.link t).src<(m:Int)∧0≤(c.port (c.link t).src).part∧(c.port (c.link t).src).part<(np:Int)∧0≤(c.link t).off∧(c.link t).off≤63∧1≤(c.port (c.link t).src).size∧(c.port (c.link t).src).size≤32:=by
    intro t ht
    refine fin0 _ fun hc hn hm hnp _ hpt=>fyk _ fun _ hlk=>?_
    obtain⟨la,y,ad,cd,od,ea,hla,hld,-,-,-,-⟩:=link_at hc (i:=t) (by omega)
    obtain⟨⟨hs1,hs2,hs3,hs4,hs5⟩,-⟩:=hlk.1 t ht
    obtain⟨hs6,hs7⟩:=hs1
    obtain⟨lp,yp,ep,hlp,hldp,hmem⟩:=port_at hc (i:=(c.link t).src.toNat) (by omega)
    rw[show (((c.link t).src.toNat:Nat):Int)=(c.link t).src by omega] at hldp hmem
    obtain⟨hq1,hq2,hq3⟩:=hpt.2 _ hmem
    obtain⟨lq,yq,eq,hlq,hldq,-⟩:=part_at hc (i:=(c.port (c.link t).src).part.toNat) (by omega)
    rw[show (((c.port (c.link t).src).part.toNat:Nat):Int)=(c.port (c.link t).src).part by omega] at hldq
    have hz:=hq1.2.2
    exact⟨la,y,ad,cd,od,lp,yp,lq,yq,ea,ep,eq,hla,hlp,hlq,hld,hldp,ld_of_ldn3 hldq,hs6,by omega,hq2,by omega,hs4,by omega,hz.1,hz.2.1⟩
   obtain⟨la,y,ad,cd,od,lp,yp,lq,yq,ea,ep,eq,hla,hlp,hlq,hld,hldp,hldq,t1,t2,t3,t4,t5,t6,t7,t8⟩:=hone j (by omega)
   obtain⟨la',y',ad',cd',od',lp',yp',lq',yq',ea',ep',eq',-,-,-,hld',hldp',hldq',u1,u2,u3,u4,u5,u6,u7,u8⟩:=hone k (by omega)
   rw[ea] at ea'
   rw[ep] at ep'
   rw[eq] at eq'
   cases ea'
   cases ep'
   cases eq'
   clear hone
   have hnp:¬c.apartL j k→¬c.okLinks:=fun h h'=>h (h'.2.2.2 j k hjk (fin0 _ fun _ hn _ _ _ _=>by omega))
   have hap:c.apartL j k↔¬((c.part (c.port (c.link j).src).part).node=(c.part (c.port (c.link k).src).part).node∧
     Cfg.meets (c.link j).off ((c.link j).off+1+(c.port (c.link j).src).size) (c.link k).off ((c.link k).off+1+(c.port (c.link k).src).size)):=Iff.rfl
   have hnext:c.apartL j k→(∀p∈d,c.apartL p.1 p.2)→∀p∈d++[(j,k)],c.apartL p.1 p.2:=fun h h' p hp=>by
    rcases List.mem_append.1 hp with hp|hp
    ·exact h' p hp
    ·obtain rfl:p=(j,k):=by simpa using hp
     exact h
   clear hd
   generalize c.apartL j k=P at *
   generalize (c.link j).dests.length=nj at *
   generalize (c.link k).dests.length=nk at *
   generalize (c.part (c.port (c.link j).src).part).node=dj at *
   generalize (c.part (c.port (c.link k).src).part).node=dk at *
   generalize c.port (c.link j).src=pj at *
   generalize c.port (c.link k).src=pk at *
   generalize (c.link j).src=sj at *
   generalize (c.link k).src=sk at *
   generalize (c.link j).off=oj at *
   generalize (c.link k).off=ok at *
   obtain⟨pj1,pj2,pj3,pj4,pj5,pj6⟩:=pj
   obtain⟨pk1,pk2,pk3,pk4,pk5,pk6⟩:=pk
   dsimp only [Pt.cells] at *
   have fin2:=zhd3 hnp hnext hap
   clear hnp hnext hap
   repeat (with_reducible first|(first|refine pI1 ?_|refine pS1 ?_);intros|refine pA1 ?_|refine pX1 ?_|refine pB1 ?_|exact True.intro)
   refine⟨rfl,rfl,rfl,?_⟩
   rintro H7 ⟨w1,w2,w3,w4⟩ hll l7
   have fw:=zhd2 w1 w2
   rw[←w3 la (by omega)] at hld hld'
   rw[←w3 lp (by omega)] at hldp hldp'
   rw[←w3 lq (by omega)] at hldq hldq'
   rw[k14,ea,ep,eq] at w1
   rw[k24] at w2
   have fin3:=zhd2 w3 w4
   have v1:sj.toNat<m:=by omega
   have v2:sk.toNat<m:=by omega
   have v3:pj1.toNat<np:=by omega
   have v4:pk1.toNat<np:=by omega
   clear w3 w4 k14 k24 ea ep eq
   unfold bXg_31
   have hmt:∀Hx,WC F fXh [.c (.int .i64 oj),.c (.int .i64 (oj+1+pj4)),.c (.int .i64 ok),.c (.int .i64 (ok+1+pk4))] Hx fun v H'=>v=.c (.bool (dB (Cfg.meets oj (oj+1+pj4) ok (ok+1+pk4))))∧H'=Hx:=fun Hx=>s_meet
   have fm:=zhd1 hmt
   clear hmt
   by_cases hne:dj=dk
   case neg=>
    have hP:P:=fin2 _ fun _ _ hap=>hap.2 fun h=>hne h.1
    repeat (with_reducible first|(first|refine pI1 ?_|refine pS1 ?_);intros|refine pA1 ?_|refine pX1 ?_|refine pB1 ?_|exact True.intro)
    rename_i c1 G1 _ _ z1 c2 G2 _ _ z2 G3 _ _ z3 G4 _ _ z4 c5 G5 _ _ z5 c6 G6 _ _ z6 G7 _ _ z7 G8 _ _ z8
    have z:∀b,b<H7.length→G8[b]?=H7[b]?:=fun b hb=>by rw[z8 b (by omega),z7 b (by omega),z6 b (by omega),z5 b (by omega),z4 b (by omega),z3 b (by omega),z2 b (by omega),z1 b (by omega)]
    exact turnQ_n (by omega) (z _ (by omega)) (fun b hb=>z b hb.1) ⟨(z b1 (by omega)).trans (fw _ fun w _=>w),(z b2 (by omega)).trans (fw _ fun _ w=>w),fun b hb=>(z b (by omega)).trans (fin3 _ fun w3 _=>w3 b hb),fin3 _ fun _ w4=>fin2 _ fun _ hnext _=>hnext hP w4⟩
   subst hne
   repeat (with_reducible first|(first|refine pI1 ?_|refine pS1 ?_);intros|refine pA1 ?_|refine pX1 ?_|refine pB1 ?_|exact True.intro)
   rename_i c1 G1 _ _ z1 c2 G2 _ _ z2 G3 _ _ z3 G4 _ _ z4 c5 G5 _ _ z5 c6 G6 _ _ z6 G7 _ _ z7 G8 _ g8 z8
   have z:∀b,b<H7.length→G8[b]?=H7[b]?:=fun b hb=>by rw[z8 b (by omega),z7 b (by omega),z6 b (by omega),z5 b (by omega),z4 b (by omega),z3 b (by omega),z2 b (by omega),z1 b (by omega)]
   have hlen:H7.length+4≤G8.length:=by omega
   have fz:=zhd1 z
   have w2':=(z b2 (by omega)).trans w2
   clear z z1 z2 z3 z4 z5 z6 z7 z8 g8
   refine outM_call (fm _ fun h=>h G8) ?_
   rintro _ G8 ⟨rfl,rfl⟩
   by_cases hm:Cfg.meets oj (oj+1+pj4) ok (ok+1+pk4)
   ·have hP:¬P:=fun h=>fin2 _ fun _ _ hap=>hap.1 h ⟨rfl,hm⟩
    rw[dB_t hm]
    repeat (with_reducible first|(first|refine pI1 ?_|refine pS1 ?_);intros|refine pA1 ?_|refine pX1 ?_|refine pB1 ?_|exact True.intro)
    rename_i H12 l12 g12 x12
    refine fz _ fun z=>?_
    exact turnQ_r (by omega) (by rw[x12 _ (by omega)];exact z _ (by omega)) (fun b hb=>by rw[x12 b hb.2.1];exact z b hb.1) ⟨rfl,g12,fun b hb=>by rw[x12 b (by omega),z b (by omega)];exact fin3 _ fun w3 _=>w3 b hb,fin2 _ fun hnp _ _=>hnp hP⟩
   ·have hP:P:=fin2 _ fun _ _ hap=>hap.2 fun h=>hm h.2
    rw[dB_f hm]
    repeat (with_reducible first|(first|refine pI1 ?_|refine pS1 ?_);intros|refine pA1 ?_|refine pX1 ?_|refine pB1 ?_|exact True.intro)
    refine fz _ fun z=>?_
    exact turnQ_n (by omega) (z _ (by omega)) (fun b hb=>z b hb.1) ⟨(z b1 (by omega)).trans (fw _ fun w _=>w),(z b2 (by omega)).trans (fw _ fun _ w=>w),fun b hb=>(z b (by omega)).trans (fin3 _ fun w3 _=>w3 b hb),fin3 _ fun _ w4=>fin2 _ fun _ hnext _=>hnext hP w4⟩
  ·rintro H7 ⟨w1,w2,w3,w4⟩ hd l7
   rw[k14] at w1
   rw[k24] at w2
   have fin3:=zhd2 w3 w4
   clear w3 w4 k14 k24
   repeat (with_reducible first|(first|refine pI1 ?_|refine pS1 ?_);intros|refine pA1 ?_|refine pX1 ?_|refine pB1 ?_|exact True.intro)
   rename_i H8 l8 g8 x8
   have hd8:H8[H4.length]?=some .defd:=by rw[x8 _ (by omega)];exact hd
   have fy8:∀b,b<H.length→H8[b]?=H[b]?:=fun b hb=>by rw[x8 b (by omega)];exact fin3 _ fun w3 _=>w3 b hb
   have fy8:=zhd1 fy8
   clear x8
   refine callQ_1 hd8 fun H9 l9 x9=>?_
   have g9:H9[b2]?=_:=(x9 b2 (by omega)).trans g8
   have y9:∀b,b<H.length→H9[b]?=H[b]?:=fun b hb=>(x9 b (by omega)).trans (fy8 _ fun y8=>y8 b hb)
   have fy9:=zhd1 y9
   clear x9 g8 y9
   repeat (with_reducible first|(first|refine pI1 ?_|refine pS1 ?_);intros|refine pA1 ?_|refine pX1 ?_|refine pB1 ?_|exact True.intro)
   have hT:c.okLinks:=by
    refine fin0 _ fun _ hn _ _ _ _=>fyk _ fun _ hlk=>⟨by omega,fun l hl=>?_,hlk.2,fun j k h1 h2=>fin3 _ fun _ w4=>w4 (j,k) (rest_mem h1 (by omega))⟩
    obtain⟨t,ht,rfl⟩:=List.mem_iff_getElem.1 hl
    have e:c.link t=c.links[t]:=by simp[Cfg.link,ht]
    rw[←e];exact hlk.1 t (by omega)
   exact⟨by rw[dB_t hT],by omega,fy9 _ fun h=>h⟩
  ·rintro e H7 ⟨rfl,w2,w3,w4⟩ hd l7
   have fin3:=zhd2 w3 w4
   clear w3 w4 k14 k24
   repeat (with_reducible first|(first|refine pI1 ?_|refine pS1 ?_);intros|refine pA1 ?_|refine pX1 ?_|refine pB1 ?_|exact True.intro)
   refine callQ_1 hd fun H9 l9 x9=>?_
   have g9:H9[b2]?=_:=(x9 b2 (by omega)).trans w2
   have y9:∀b,b<H.length→H9[b]?=H[b]?:=fun b hb=>(x9 b (by omega)).trans (fin3 _ fun w3 _=>w3 b hb)
   have fy9:=zhd1 y9
   clear x9 w2 y9
   repeat (with_reducible first|(first|refine pI1 ?_|refine pS1 ?_);intros|refine pA1 ?_|refine pX1 ?_|refine pB1 ?_|exact True.intro)
   exact⟨by rw[dB_f (fin3 _ fun _ w4=>w4)],by omega,fy9 _ fun h=>h⟩
end Go.Proofs.YtjcgdcadflplcaaDoor.AM.D21
namespace Go.Proofs.YtjcgdcadflplcaaDoor.AM.D21
open Go Go.Proofs.YtjcgdcadflplcaaDoor.AM Go.Proofs.YtjcgdcadflplcaaDoor.AM.C02
set_option maxHeartbeats 2000000
set_option maxRecDepth 100000
attribute [local go_sem] tn_add1 tn_sub1 put_all' nums_len sub12
def okE (c:Cfg) (e:Int):Prop:=if e=21 then c.okNodes else if e=22 then c.okClock else if e=23 then c.okParts else if e=24 then c.okWins else if e=25 then c.okPorts else c.okLinks
def okA (c:Cfg) (e:Int):Prop:=∀d,21≤d→d<e→okE c d
theorem s_fine {N:Nat} {H:Heap} {c:Cfg} {h:Hd} {e:Int} (he:21≤e∧e≤26) (ha:okA c e) (hc:CfgM N H c h) (hN:N≤H.length):WC F fXf [.c (.int .i64 e),.agg (c.cells h)] H fun v H'=>v=.c (.bool (dB (okE c e)))∧Xt H H':=by
 refine WC_start eXf (by simp) ?_
 unfold cXf
 obtain⟨C,hC⟩:∃C,C=c.cells h:=⟨_,rfl⟩
 have hsub:sub C 0 12=some C:=by rw[hC];rfl
 rw[←hC]
 have a1:21<e→c.okNodes:=fun h=>by have:=ha 21 (by omega) h;unfold okE at this;rwa [if_pos rfl] at this
 have a3:23<e→c.okParts:=fun h=>by have:=ha 23 (by omega) h;unfold okE at this;rwa [if_neg (by omega),if_neg (by omega),if_pos rfl] at this
 have a5:25<e→c.okPorts:=fun h=>by have:=ha 25 (by omega) h;unfold okE at this;rwa [if_neg (by omega),if_neg (by omega),if_neg (by omega),if_neg (by omega),if_pos rfl] at this
 have fin0:=zhd5 a1 a3 a5 hc hC
 have hcases:e=21∨e=22∨e=23∨e=24∨e=25∨e=26:=by omega
 clear a1 a3 a5 hc ha he hC
 repeat (with_reducible first|(first|refine pI1 ?_|refine pS1 ?_);intros|refine pA1 ?_|refine pX1 ?_|refine pB1 ?_|exact True.intro)
 rename_i b1 H1 p1 g1 x1
 have hk:∀b,b<N→H1[b]?=H[b]?:=fun b hb=>x1 b (by omega)
 have fk:=zhd2 hk x1
 clear hk x1
 rcases hcases with rfl|rfl|rfl|rfl|rfl|rfl
 ·repeat (with_reducible first|(first|refine pI1 ?_|refine pS1 ?_);intros|refine pA1 ?_|refine pX1 ?_|refine pB1 ?_|exact True.intro)
  refine fin0 _ fun a1 a3 a5 hc hC=>fk _ fun hk x1=>?_
  subst hC
  refine outM_call (s_cnodes (hc.keep (H':=H1) hk) (by omega)) ?_
  rintro _ H2 ⟨rfl,l2,x2⟩
  have fe:okE c 21=c.okNodes:=by unfold okE;rw[if_pos rfl]
  rw[fe]
  clear hc hk a1 a3 a5 fin0 fk
  repeat (with_reducible first|(first|refine pI1 ?_|refine pS1 ?_);intros|refine pA1 ?_|refine pX1 ?_|refine pB1 ?_|exact True.intro)
  exact⟨rfl,by omega,fun b hb=>by rw[x2 b (by omega),x1 b (by omega)]⟩
 ·repeat (with_reducible first|(first|refine pI1 ?_|refine pS1 ?_);intros|refine pA1 ?_|refine pX1 ?_|refine pB1 ?_|exact True.intro)
  refine fin0 _ fun a1 a3 a5 hc hC=>fk _ fun hk x1=>?_
  subst hC
  refine outM_call (s_cclocks (c:=c) (h:=h)) ?_
  rintro _ H2 ⟨rfl,l2,x2⟩
  have fe:okE c 22=c.okClock:=by unfold okE;rw[if_neg (by omega),if_pos rfl]
  rw[fe]
  clear hc hk a1 a3 a5 fin0 fk
  repeat (with_reducible first|(first|refine pI1 ?_|refine pS1 ?_);intros|refine pA1 ?_|refine pX1 ?_|refine pB1 ?_|exact True.intro)
  exact⟨rfl,by omega,fun b hb=>by rw[x2 b (by omega),x1 b (by omega)]⟩
 ·repeat (with_reducible first|(first|refine pI1 ?_|refine pS1 ?_);intros|refine pA1 ?_|refine pX1 ?_|refine pB1 ?_|exact True.intro)
  refine fin0 _ fun a1 a3 a5 hc hC=>fk _ fun hk x1=>?_
  subst hC
  have hn:=a1 (by omega)
  refine outM_call (s_cparts (hc.keep (H':=H1) hk) (by omega) ⟨hn.1,hn.2.1⟩) ?_
  rintro _ H2 ⟨rfl,l2,x2⟩
  have fe:okE c 23=c.okParts:=by unfold okE;rw[if_neg (by omega),if_neg (by omega),if_pos rfl]
  rw[fe]
  clear hc hk a1 a3 a5 fin0 fk hn
  repeat (with_reducible first|(first|refine pI1 ?_|refine pS1 ?_);intros|refine pA1 ?_|refine pX1 ?_|refine pB1 ?_|exact True.intro)
  exact⟨rfl,by omega,fun b hb=>by rw[x2 b (by omega),x1 b (by omega)]⟩
 ·repeat (with_reducible first|(first|refine pI1 ?_|refine pS1 ?_);intros|refine pA1 ?_|refine pX1 ?_|refine pB1 ?_|exact True.intro)
  refine fin0 _ fun a1 a3 a5 hc hC=>fk _ fun hk x1=>?_
  subst hC
  have hn:=a1 (by omega)
  refine outM_call (s_cwins (hc.keep (H':=H1) hk) (by omega) ⟨hn.1,hn.2.1⟩ (a3 (by omega)).1) ?_
  rintro _ H2 ⟨rfl,l2,x2⟩
  have fe:okE c 24=c.okWins:=by unfold okE;rw[if_neg (by omega),if_neg (by omega),if_neg (by omega),if_pos rfl]
  rw[fe]
  clear hc hk a1 a3 a5 fin0 fk hn
  repeat (with_reducible first|(first|refine pI1 ?_|refine pS1 ?_);intros|refine pA1 ?_|refine pX1 ?_|refine pB1 ?_|exact True.intro)
  exact⟨rfl,by omega,fun b hb=>by rw[x2 b (by omega),x1 b (by omega)]⟩
 ·repeat (with_reducible first|(first|refine pI1 ?_|refine pS1 ?_);intros|refine pA1 ?_|refine pX1 ?_|refine pB1 ?_|exact True.intro)
  refine fin0 _ fun a1 a3 a5 hc hC=>fk _ fun hk x1=>?_
  subst hC
  refine outM_call (s_cports (hc.keep (H':=H1) hk) (by omega) (a3 (by omega)).1) ?_
  rintro _ H2 ⟨rfl,l2,x2⟩
  have fe:okE c 25=c.okPorts:=by unfold okE;rw[if_neg (by omega),if_neg (by omega),if_neg (by omega),if_neg (by omega),if_pos rfl]
  rw[fe]
  clear hc hk a1 a3 a5 fin0 fk
  repeat (with_reducible first|(first|refine pI1 ?_|refine pS1 ?_);intros|refine pA1 ?_|refine pX1 ?_|refine pB1 ?_|exact True.intro)
  exact⟨rfl,by omega,fun b hb=>by rw[x2 b (by omega),x1 b (by omega)]⟩
 ·repeat (with_reducible first|(first|refine pI1 ?_|refine pS1 ?_);intros|refine pA1 ?_|refine pX1 ?_|refine pB1 ?_|exact True.intro)
  refine fin0 _ fun a1 a3 a5 hc hC=>fk _ fun hk x1=>?_
  subst hC
  refine outM_call (s_clinks (hc.keep (H':=H1) hk) (by omega) (a3 (by omega)) (a5 (by omega))) ?_
  rintro _ H2 ⟨rfl,l2,x2⟩
  have fe:okE c 26=c.okLinks:=by unfold okE;rw[if_neg (by omega),if_neg (by omega),if_neg (by omega),if_neg (by omega),if_neg (by omega)]
  rw[fe]
  clear hc hk a1 a3 a5 fin0 fk
  repeat (with_reducible first|(first|refine pI1 ?_|refine pS1 ?_);intros|refine pA1 ?_|refine pX1 ?_|refine pB1 ?_|exact True.intro)
  exact⟨rfl,by omega,fun b hb=>by rw[x2 b (by omega),x1 b (by omega)]⟩
theorem check_is {c:Cfg} {e:Int} (he:21≤e∧e≤26) (ha:okA c e) (h:¬okE c e):c.check=e:=by
 have k:∀d,21≤d→d<e→okE c d:=ha
 have h1:21<e→dB c.okNodes=true:=fun h=>dB_t (by have:=k 21 (by omega) h;unfold okE at this;rwa [if_pos rfl] at this)
 have h2:22<e→dB c.okClock=true:=fun h=>dB_t (by have:=k 22 (by omega) h;unfold okE at this;rwa [if_neg (by omega),if_pos rfl] at this)
 have h3:23<e→dB c.okParts=true:=fun h=>dB_t (by have:=k 23 (by omega) h;unfold okE at this;rwa [if_neg (by omega),if_neg (by omega),if_pos rfl] at this)
 have h4:24<e→dB c.okWins=true:=fun h=>dB_t (by have:=k 24 (by omega) h;unfold okE at this;rwa [if_neg (by omega),if_neg (by omega),if_neg (by omega),if_pos rfl] at this)
 have h5:25<e→dB c.okPorts=true:=fun h=>dB_t (by have:=k 25 (by omega) h;unfold okE at this;rwa [if_neg (by omega),if_neg (by omega),if_neg (by omega),if_neg (by omega),if_pos rfl] at this)
 have hcases:e=21∨e=22∨e=23∨e=24∨e=25∨e=26:=by omega
 unfold okE at h
 unfold Cfg.check
 rcases hcases with rfl|rfl|rfl|rfl|rfl|rfl
 ·rw[if_pos rfl] at h;rw[dB_f h];rfl
 ·rw[if_neg (by omega),if_pos rfl] at h;rw[dB_f h,h1 (by omega)];rfl
 ·rw[if_neg (by omega),if_neg (by omega),if_pos rfl] at h;rw[dB_f h,h1 (by omega),h2 (by omega)];rfl
 ·rw[if_neg (by omega),if_neg (by omega),if_neg (by omega),if_pos rfl] at h;rw[dB_f h,h1 (by omega),h2 (by omega),h3 (by omega)];rfl
 ·rw[if_neg (by omega),if_neg (by omega),if_neg (by omega),if_neg (by omega),if_pos rfl] at h;rw[dB_f h,h1 (by omega),h2 (by omega),h3 (by omega),h4 (by omega)];rfl
 ·rw[if_neg (by omega),if_neg (by omega),if_neg (by omega),if_neg (by omega),if_neg (by omega)] at h;rw[dB_f h,h1 (by omega),h2 (by omega),h3 (by omega),h4 (by omega),h5 (by omega)];rfl
theorem check_all {c:Cfg} (ha:okA c 27):c.check=0:=by
 have k:∀d,21≤d→d<27→okE c d:=ha
 refine Cfg.check_ok.2 ⟨?_,?_,?_,?_,?_,?_⟩
 ·have:=k 21 (by omega) (by omega);unfold okE at this;rwa [if_pos rfl] at this
 ·have:=k 22 (by omega) (by omega);unfold okE at this;rwa [if_neg (by omega),if_pos rfl] at this
 ·have:=k 23 (by omega) (by omega);unfold okE at this;rwa [if_neg (by omega),if_neg (by omega),if_pos rfl] at this
 ·have:=k 24 (by omega) (by omega);unfold okE at this;rwa [if_neg (by omega),if_neg (by omega),if_neg (by omega),if_pos rfl] at this
 ·have:=k 25 (by omega) (by omega);unfold okE at this;rwa [if_neg (by omega),if_neg (by omega),if_neg (by omega),if_neg (by omega),if_pos rfl] at this
 ·have:=k 26 (by omega) (by omega);unfold okE at this;rwa [if_neg (by omega),if_neg (by omega),if_neg (by omega),if_neg (by omega),if_neg (by omega)] at this
theorem s_Check {N:Nat} {H:Heap} {c:Cfg} {h:Hd} (hc:CfgM N H c h) (hN:N≤H.length):WC F fXb [.agg (c.cells h)] H fun v H'=>v=.c (.int .i64 c.check)∧Xt H H':=by
 refine WC_start eXb (by simp) ?_
 unfold cXb
 obtain⟨C,hC⟩:∃C,C=c.cells h:=⟨_,rfl⟩
 have hsub:sub C 0 12=some C:=by rw[hC];rfl
 rw[←hC]
 have fin0:=zhd2 hc hC
 clear hc hC
 repeat (with_reducible first|(first|refine pI1 ?_|refine pS1 ?_);intros|refine pA1 ?_|refine pX1 ?_|refine pB1 ?_|exact True.intro)
 rename_i b1 H1 p1 g1 x1
 refine W_loop (fun m st=>∃ρ,∃k:Nat,∃Hk,st=⟨L 13 ρ,[],Hk⟩∧m=6-k∧k≤6∧ρ 1=.c (.ptr (some (b1,0)))∧ρ 3=.c (.int .i64 (21+k:Int))∧okA c (21+k)∧Xt H1 Hk) 6 ⟨_,0,H1,rfl,rfl,by omega,zf,zf,fun d h1 h2=>by omega,Nat.le_refl _,fun _ _=>rfl⟩ ?_
 rintro m st ⟨ρ,k,Hk,rfl,rfl,hk,e1,e3,ha,lk,xk⟩
 unfold bXb_6
 have k1:Hk[b1]?=_:=(xk b1 (by omega)).trans g1
 have yk:∀b,b<H.length→Hk[b]?=H[b]?:=fun b hb=>by rw[xk b (by omega),x1 b (by omega)]
 have fy:=zhd3 yk xk ha
 clear yk xk ha x1
 by_cases h6:(21+k:Int)≤26
 ·repeat (with_reducible first|(first|refine pI1 ?_|refine pS1 ?_);intros|refine pA1 ?_|refine pX1 ?_|refine pB1 ?_|exact True.intro)
  refine fin0 _ fun hc hC=>fy _ fun yk xk ha=>?_
  subst hC
  refine outM_call (s_fine (e:=21+k) (by omega) ha (hc.keep (H':=Hk) fun b hb=>yk b (by omega)) (by omega)) ?_
  rintro _ H2 ⟨rfl,l2,x2⟩
  have fz:=zhd1 x2
  clear hc yk xk ha x2
  by_cases hok:okE c (21+k)
  ·rw[dB_t hok]
   repeat (with_reducible first|(first|refine pI1 ?_|refine pS1 ?_);intros|refine pA1 ?_|refine pX1 ?_|refine pB1 ?_|exact True.intro)
   exact loopQ_n (6-(k+1)) (by omega) ⟨_,k+1,H2,rfl,rfl,by omega,zf,by rw[show (21+((k+1:Nat):Int))=21+(k:Int)+1 by omega];simp (disch:=first|with_reducible assumption|omega) only [go_sem, *,reduceCtorEq,↓reduceIte,Nat.reduceLT,Nat.reduceBEq,Nat.reduceAdd,Nat.reduceSub,Nat.reduceMul,Nat.reduceDiv,Nat.reduceMod,Nat.reducePow,Nat.reduceEqDiff,Nat.reduceLeDiff,Int.reduceLT,Int.reduceLE,Int.reduceNeg,Int.reduceToNat,Int.reduceAdd,Int.reduceSub,Int.reduceMul,Int.reduceEq,Int.reduceNe,Int.reduceBEq,Int.reduceBNe,Int.reducePow];first|done|rfl,fun d h1 h2=>by
    by_cases e:d=21+k
    ·subst e;exact hok
    ·exact fy _ fun _ _ ha=>ha d h1 (by omega),by omega,fun b hb=>by rw[fz _ fun x2=>x2 b (by omega)];exact fy _ fun _ xk _=>xk b hb⟩
  ·rw[dB_f hok]
   repeat (with_reducible first|(first|refine pI1 ?_|refine pS1 ?_);intros|refine pA1 ?_|refine pX1 ?_|refine pB1 ?_|exact True.intro)
   exact⟨by rw[check_is (by omega) (fy _ fun _ _ ha=>ha) hok],by omega,fun b hb=>by rw[fz _ fun x2=>x2 b (by omega)];exact fy _ fun yk _ _=>yk b hb⟩
 ·obtain rfl:k=6:=by omega
  repeat (with_reducible first|(first|refine pI1 ?_|refine pS1 ?_);intros|refine pA1 ?_|refine pX1 ?_|refine pB1 ?_|exact True.intro)
  exact⟨by rw[check_all (fy _ fun _ _ ha=>ha)],by omega,fy _ fun yk _ _=>yk⟩
end Go.Proofs.YtjcgdcadflplcaaDoor.AM.D21
namespace Go.Proofs.YtjcgdcadflplcaaDoor.AM.D21
open Go Go.Proofs.YtjcgdcadflplcaaDoor.AM Go.Proofs.YtjcgdcadflplcaaDoor.AM.C02
set_option maxHeartbeats 2000000
set_option maxRecDepth 100000
attribute [local go_sem] tn_add1 tn_sub1 put_all' nums_len sub12 sub3 sub6
theorem cn_take {ws:List Int} {x:Int} {i:Nat} (h:i<ws.length):cn x (ws.take (i+1))=cn x (ws.take i)+if gn ws i=x then 1 else 0:=by
 have e:gn ws i=ws[i]:=by simp[gn,h]
 rw[List.take_succ_eq_append_getElem h,cn_app,cn_one,e]
theorem s_rcount {H:Heap} {n c:Nat} {a:Option Ad} {o:Bool} {ws:List Int} {x:Int} (hn:n≤10000000) (hl:ws.length=n) (hs:Sl H 1 a n (nums ws)):
  WC F fX1h [.c (.sl a n c o),.c (.int .i64 x)] H fun v H'=>v=.c (.int .i64 (cn x ws:Nat))∧H'=H:=by
 refine WC_start eX1h (by simp) ?_
 unfold cX1h
 have fin0:=zhd2 hs hl
 have hcl:∀i,cn x (ws.take i)≤n:=fun i=>by
  have h1:cn x (ws.take i)≤(ws.take i).length:=List.countP_le_length
  rw[List.length_take] at h1;omega
 have fcl:=zhd1 hcl
 clear hs hl hcl
 repeat (with_reducible first|(first|refine pI1 ?_|refine pS1 ?_);intros|refine pA1 ?_|refine pX1 ?_|refine pB1 ?_|exact True.intro)
 refine W_loop (fun m st=>∃ρ,∃i:Nat,st=⟨L 22 ρ,[],H⟩∧m=n-i∧i≤n∧ρ 0=.c (.sl a n c o)∧ρ 1=.c (.int .i64 x)∧ρ 5=.c (.int .i64 (cn x (ws.take i):Nat))∧ρ 6=.c (.int .i64 (i:Nat))) n ⟨_,0,rfl,by omega,by omega,zf,zf,zf,zf⟩ ?_
 rintro m st ⟨ρ,i,rfl,rfl,hi,e0,e1,e5,e6⟩
 unfold bX1h_7
 by_cases hin:i<n
 ·obtain⟨⟨lb,y⟩,ea⟩:=fin0 _ fun hs _=>hs.is_some (by omega)
  have hld:=fin0 _ fun hs hl=>Sl.gn (by rw[ea] at hs;exact hs) hl hin
  dsimp only at hld
  have hct:=fin0 _ fun _ hl=>cn_take (x:=x) (by rw[hl];exact hin)
  have hc1:=fcl _ fun h=>h i
  rw[ea] at e0
  have hxt:(i:Int)<(n:Int):=by omega
  generalize cn x (ws.take i)=k at *
  generalize gn ws i=u at *
  have f1:=zhd2 hct ea
  clear hct ea
  by_cases h1:u=x
  ·have hk:cn x (ws.take (i+1))=k+1:=f1 _ fun h _=>by rw[h,if_pos h1]
   have fk:=zhd1 hk
   clear hk
   subst h1
   repeat (with_reducible first|(first|refine pI1 ?_|refine pS1 ?_);intros|refine pA1 ?_|refine pX1 ?_|refine pB1 ?_|exact True.intro)
   exact loopQ_n (n-(i+1)) (by omega) ⟨_,i+1,rfl,by omega,by omega,by rw[f1 _ fun _ h=>h];exact zf,zf,by rw[fk _ fun h=>h];exact zf,zf⟩
  ·have hk:cn x (ws.take (i+1))=k:=f1 _ fun h _=>by rw[h,if_neg h1];rfl
   have fk:=zhd1 hk
   clear hk
   repeat (with_reducible first|(first|refine pI1 ?_|refine pS1 ?_);intros|refine pA1 ?_|refine pX1 ?_|refine pB1 ?_|exact True.intro)
   exact loopQ_n (n-(i+1)) (by omega) ⟨_,i+1,rfl,by omega,by omega,by rw[f1 _ fun _ h=>h];exact zf,zf,by rw[fk _ fun h=>h];exact zf,zf⟩
 ·obtain rfl:i=n:=by omega
  have e:ws.take i=ws:=fin0 _ fun _ hl=>by rw[←hl];exact List.take_length
  rw[e] at e5
  have hxt:¬(i:Int)<(i:Int):=by omega
  clear fcl fin0 e
  repeat (with_reducible first|(first|refine pI1 ?_|refine pS1 ?_);intros|refine pA1 ?_|refine pX1 ?_|refine pB1 ?_|exact True.intro)
  exact⟨rfl,rfl⟩
theorem s_rmeet {H:Heap} {a b c d:Nat} (hb:b≤1000000):WC F fX1k [.c (.int .i64 (a:Nat)),.c (.int .i64 (b:Nat)),.c (.int .i64 (c:Nat)),.c (.int .i64 (d:Nat))] H fun v H'=>v=.c (.bool (dB (Cfg.meets a b c d)))∧H'=H:=by
 refine WC_start eX1k (by simp) ?_
 unfold cX1k
 have hmt:Cfg.meets a b c d↔max (a:Int) c<min (b:Int) d:=Iff.rfl
 have fm:=zhd1 hmt
 clear hmt
 repeat (with_reducible first|(first|refine pI1 ?_|refine pS1 ?_);intros|refine pA1 ?_|refine pX1 ?_|refine pB1 ?_|exact True.intro)
 refine W_loop (fun m st=>∃ρ,∃i:Nat,st=⟨L 24 ρ,[],H⟩∧m=b-i∧a≤i∧ρ 0=.c (.int .i64 (a:Nat))∧ρ 1=.c (.int .i64 (b:Nat))∧ρ 2=.c (.int .i64 (c:Nat))∧ρ 3=.c (.int .i64 (d:Nat))∧ρ 9=.c (.int .i64 (i:Nat))∧∀j,a≤j→j<i→j<b→¬(c≤j∧j<d)) (b-a) ⟨_,a,rfl,by omega,by omega,zf,zf,zf,zf,zf,fun j h1 h2=>by omega⟩ ?_
 rintro m st ⟨ρ,i,rfl,rfl,hi,e0,e1,e2,e3,e9,hall⟩
 unfold bX1k_6
 have fa:=zhd1 hall
 clear hall
 by_cases hin:i<b
 ·have hxt:(i:Int)<(b:Int):=by omega
  by_cases h1:c≤i
  ·by_cases h2:i<d
   ·have e:dB (Cfg.meets a b c d)=true:=dB_t (fm _ fun h=>h.2 (by omega))
    rw[e]
    repeat (with_reducible first|(first|refine pI1 ?_|refine pS1 ?_);intros|refine pA1 ?_|refine pX1 ?_|refine pB1 ?_|exact True.intro)
    exact⟨rfl,rfl⟩
   ·repeat (with_reducible first|(first|refine pI1 ?_|refine pS1 ?_);intros|refine pA1 ?_|refine pX1 ?_|refine pB1 ?_|exact True.intro)
    exact loopQ_n (b-(i+1)) (by omega) ⟨_,i+1,rfl,by omega,by omega,zf,zf,zf,zf,zf,fun j q1 q2 q3=>by
     by_cases e:j=i
     ·subst e;omega
     ·exact fa _ fun h=>h j q1 (by omega) q3⟩
  ·repeat (with_reducible first|(first|refine pI1 ?_|refine pS1 ?_);intros|refine pA1 ?_|refine pX1 ?_|refine pB1 ?_|exact True.intro)
   exact loopQ_n (b-(i+1)) (by omega) ⟨_,i+1,rfl,by omega,by omega,zf,zf,zf,zf,zf,fun j q1 q2 q3=>by
    by_cases e:j=i
    ·subst e;omega
    ·exact fa _ fun h=>h j q1 (by omega) q3⟩
 ·have hxt:¬(i:Int)<(b:Int):=by omega
  have e:dB (Cfg.meets a b c d)=false:=dB_f (fm _ fun hm h=>by
   have h:=hm.1 h
   exact fa _ fun hall=>hall (max a c) (by omega) (by omega) (by omega) ⟨by omega,by omega⟩)
  rw[e]
  repeat (with_reducible first|(first|refine pI1 ?_|refine pS1 ?_);intros|refine pA1 ?_|refine pX1 ?_|refine pB1 ?_|exact True.intro)
  exact⟨rfl,rfl⟩
section
variable {N:Nat} {H:Heap} {c:Cfg} {h:Hd}
theorem s_rPrec (hd:0≤c.drift∧c.drift≤1048576∧0≤c.reading∧c.reading≤1048576):WC F fX1e [.agg (c.cells h)] H fun v H'=>v=.c (.int .i64 c.prec)∧Xt H H':=by
 refine WC_start eX1e (by simp) ?_
 unfold cX1e Cfg.prec Cfg.cells
 obtain⟨d1,d2,d3,d4⟩:=hd
 repeat (with_reducible first|(first|refine pI1 ?_|refine pS1 ?_);intros|refine pA1 ?_|refine pX1 ?_|refine pB1 ?_|exact True.intro)
 rename_i b1 H1 p1 g1 x1
 repeat (with_reducible first|(first|refine pI1 ?_|refine pS1 ?_);intros|refine pA1 ?_|refine pX1 ?_|refine pB1 ?_|exact True.intro)
 exact⟨rfl,by omega,fun b hb=>x1 b (by omega)⟩
theorem s_ris {n:Int}:WC F fX1i [.agg (c.cells h),.c (.int .i64 n)] H fun v H'=>v=.c (.bool (decide (0≤n∧n<(c.ports.length:Int))))∧Xt H H':=by
 refine WC_start eX1i (by simp) ?_
 unfold cX1i Cfg.cells
 obtain⟨k,hk⟩:∃k,c.ports.length=k:=⟨_,rfl⟩
 rw[hk]
 clear hk
 by_cases h1:0≤n
 ·by_cases h2:n<k
  ·repeat (with_reducible first|(first|refine pI1 ?_|refine pS1 ?_);intros|refine pA1 ?_|refine pX1 ?_|refine pB1 ?_|exact True.intro)
   rename_i b1 H1 p1 g1 x1
   repeat (with_reducible first|(first|refine pI1 ?_|refine pS1 ?_);intros|refine pA1 ?_|refine pX1 ?_|refine pB1 ?_|exact True.intro)
   exact⟨by simp[h1,h2],by omega,fun b hb=>x1 b (by omega)⟩
  ·repeat (with_reducible first|(first|refine pI1 ?_|refine pS1 ?_);intros|refine pA1 ?_|refine pX1 ?_|refine pB1 ?_|exact True.intro)
   rename_i b1 H1 p1 g1 x1
   repeat (with_reducible first|(first|refine pI1 ?_|refine pS1 ?_);intros|refine pA1 ?_|refine pX1 ?_|refine pB1 ?_|exact True.intro)
   exact⟨by simp[h2],by omega,fun b hb=>x1 b (by omega)⟩
 ·repeat (with_reducible first|(first|refine pI1 ?_|refine pS1 ?_);intros|refine pA1 ?_|refine pX1 ?_|refine pB1 ?_|exact True.intro)
  rename_i b1 H1 p1 g1 x1
  repeat (with_reducible first|(first|refine pI1 ?_|refine pS1 ?_);intros|refine pA1 ?_|refine pX1 ?_|refine pB1 ?_|exact True.intro)
  exact⟨by simp[h1],by omega,fun b hb=>x1 b (by omega)⟩
theorem s_rnodes (hc:CfgM N H c h) (hN:N≤H.length) (hw:c.owners.length≤10000000):WC F fX1l [.agg (c.cells h)] H fun v H'=>v=.c (.bool (dB c.okNodes))∧Xt H H':=by
 refine WC_start eX1l (by simp) ?_
 unfold cX1l Cfg.cells
 obtain⟨n,hn⟩:∃n,c.owners.length=n:=⟨_,rfl⟩
 rw[hn] at hw ⊢
 obtain⟨nd,hnd⟩:∃nd,c.nodes=nd:=⟨_,rfl⟩
 rw[hnd]
 have ho:=hc.owners
 rw[hn] at ho
 have hlt:∀b x,h.a1=some (b,x)→b<H.length:=fun b x e=>by have:=hc.ownersN b x e;omega
 have hok:c.okNodes↔(4≤nd∧nd≤16∧(n:Int)=nd∧∀k:Nat,(k:Int)<nd→(k:Int)∈c.owners):=by unfold Cfg.okNodes;rw[hnd,hn]
 have fin0:=zhd4 ho hn hlt hok
 clear hnd hc hok ho hn hlt
 by_cases h1:nd<4
 ·have e:dB c.okNodes=false:=dB_f fun h=>fin0 _ fun _ _ _ hok=>by have:=(hok.1 h).1;omega
  rw[e]
  repeat (with_reducible first|(first|refine pI1 ?_|refine pS1 ?_);intros|refine pA1 ?_|refine pX1 ?_|refine pB1 ?_|exact True.intro)
  rename_i b1 H1 p1 g1 x1
  repeat (with_reducible first|(first|refine pI1 ?_|refine pS1 ?_);intros|refine pA1 ?_|refine pX1 ?_|refine pB1 ?_|exact True.intro)
  exact⟨rfl,by omega,fun b hb=>x1 b (by omega)⟩
 by_cases h2:16<nd
 ·have e:dB c.okNodes=false:=dB_f fun h=>fin0 _ fun _ _ _ hok=>by have:=(hok.1 h).2.1;omega
  rw[e]
  repeat (with_reducible first|(first|refine pI1 ?_|refine pS1 ?_);intros|refine pA1 ?_|refine pX1 ?_|refine pB1 ?_|exact True.intro)
  rename_i b1 H1 p1 g1 x1
  repeat (with_reducible first|(first|refine pI1 ?_|refine pS1 ?_);intros|refine pA1 ?_|refine pX1 ?_|refine pB1 ?_|exact True.intro)
  exact⟨rfl,by omega,fun b hb=>x1 b (by omega)⟩
 by_cases h3:(n:Int)=nd
 case neg=>
  have e:dB c.okNodes=false:=dB_f fun h=>fin0 _ fun _ _ _ hok=>h3 (hok.1 h).2.2.1
  rw[e]
  repeat (with_reducible first|(first|refine pI1 ?_|refine pS1 ?_);intros|refine pA1 ?_|refine pX1 ?_|refine pB1 ?_|exact True.intro)
  rename_i b1 H1 p1 g1 x1
  repeat (with_reducible first|(first|refine pI1 ?_|refine pS1 ?_);intros|refine pA1 ?_|refine pX1 ?_|refine pB1 ?_|exact True.intro)
  exact⟨rfl,by omega,fun b hb=>x1 b (by omega)⟩
 subst h3
 repeat (with_reducible first|(first|refine pI1 ?_|refine pS1 ?_);intros|refine pA1 ?_|refine pX1 ?_|refine pB1 ?_|exact True.intro)
 rename_i b1 H1 p1 g1 x1
 have ho1:Sl H1 1 h.a1 n (nums c.owners):=fin0 _ fun ho _ hlt _=>ho.keep fun b x e=>x1 b (by have:=hlt b x e;omega)
 have fx:=zhd2 x1 ho1
 clear x1 ho1
 repeat (with_reducible first|(first|refine pI1 ?_|refine pS1 ?_);intros|refine pA1 ?_|refine pX1 ?_|refine pB1 ?_|exact True.intro)
 refine W_loop (fun m st=>∃ρ,∃i:Nat,st=⟨L 31 ρ,[],H1⟩∧m=n-i∧i≤n∧ρ 1=.c (.ptr (some (b1,0)))∧ρ 3=.c (.int .i64 (i:Nat))∧∀j:Nat,j<i→cn (j:Int) c.owners=1) n ⟨_,0,rfl,by omega,by omega,zf,zf,fun j hj=>by omega⟩ ?_
 rintro m st ⟨ρ,i,rfl,rfl,hi,e1,e3,hall⟩
 unfold bX1l_8
 have fa:=zhd1 hall
 clear hall
 by_cases hin:i<n
 ·have hxt:(i:Int)<(n:Int):=by omega
  have hcnt:=fx _ fun _ ho1=>fin0 _ fun _ hn _ _=>s_rcount (c:=h.c1) (o:=h.o1) (x:=(i:Nat)) hw hn ho1
  have hyes:cn (i:Int) c.owners=1→∀j:Nat,j<i+1→cn (j:Int) c.owners=1:=fun h1 j hj=>by
   by_cases e:j=i
   ·subst e;exact h1
   ·exact fa _ fun hall=>hall j (by omega)
  have hno:cn (i:Int) c.owners≠1→dB c.okNodes=false:=fun hne=>dB_f fun h=>fin0 _ fun _ hn _ hok=>by
   obtain⟨q1,q2,q3,q4⟩:=hok.1 h
   exact hne (once hn (fun k hk=>q4 k (by omega)) i hin)
  have hkb:cn (i:Int) c.owners≤n:=fin0 _ fun _ hn _ _=>by rw[←hn];exact List.countP_le_length
  generalize cn (i:Int) c.owners=k at *
  have fy:=zhd2 hyes hno
  clear hyes hno
  repeat (with_reducible first|(first|refine pI1 ?_|refine pS1 ?_);intros|refine pA1 ?_|refine pX1 ?_|refine pB1 ?_|exact True.intro)
  refine outM_call hcnt ?_
  rintro _ H1 ⟨rfl,rfl⟩
  clear hcnt
  by_cases hk:k=1
  ·have hk':=fy _ fun hy _=>hy hk
   have fk:=zhd1 hk'
   clear hk'
   subst hk
   repeat (with_reducible first|(first|refine pI1 ?_|refine pS1 ?_);intros|refine pA1 ?_|refine pX1 ?_|refine pB1 ?_|exact True.intro)
   exact loopQ_n (n-(i+1)) (by omega) ⟨_,i+1,rfl,by omega,by omega,zf,zf,fk _ fun h=>h⟩
  ·have hk':¬(k:Int)=1:=by omega
   have e:=fy _ fun _ hno=>hno hk
   rw[e]
   repeat (with_reducible first|(first|refine pI1 ?_|refine pS1 ?_);intros|refine pA1 ?_|refine pX1 ?_|refine pB1 ?_|exact True.intro)
   exact⟨rfl,by omega,fx _ fun x1 _ b hb=>x1 b (by omega)⟩
 ·obtain rfl:i=n:=by omega
  have hxt:¬(i:Int)<(i:Int):=by omega
  have e:dB c.okNodes=true:=dB_t (fin0 _ fun _ hn _ hok=>hok.2 ⟨by omega,by omega,rfl,fun k hk=>cn_pos.1 (by have:=fa _ fun hall=>hall k (by omega);omega)⟩)
  rw[e]
  repeat (with_reducible first|(first|refine pI1 ?_|refine pS1 ?_);intros|refine pA1 ?_|refine pX1 ?_|refine pB1 ?_|exact True.intro)
  exact⟨rfl,by omega,fx _ fun x1 _ b hb=>x1 b (by omega)⟩
end
end Go.Proofs.YtjcgdcadflplcaaDoor.AM.D21
namespace Go.Proofs.YtjcgdcadflplcaaDoor.AM.D21
open Go Go.Proofs.YtjcgdcadflplcaaDoor.AM Go.Proofs.YtjcgdcadflplcaaDoor.AM.C02
set_option maxHeartbeats 2000000
set_option maxRecDepth 100000
attribute [local go_sem] tn_add1 tn_sub1 put_all' nums_len sub12 sub3 sub6
section
variable {N:Nat} {H:Heap} {c:Cfg} {h:Hd}
theorem s_rclock:WC F fX1g [.agg (c.cells h)] H fun v H'=>v=.c (.bool (dB c.okClock))∧Xt H H':=by
 have hP:∀Hx:Heap,(0≤c.drift∧c.drift≤1048576∧0≤c.reading∧c.reading≤1048576)→_:=fun Hx h1=>s_rPrec (H:=Hx) (c:=c) (h:=h) h1
 have hpr:c.prec=2 * (c.drift+c.reading)+1:=rfl
 have hok:c.okClock↔(0≤c.drift∧c.drift≤1048576∧0≤c.reading∧c.reading≤1048576∧2 * c.prec+c.reading≤c.margin∧c.margin≤16777216∧2 * c.prec+c.reading≤c.bound∧c.bound≤16777216∧1≤c.rejoin∧c.rejoin≤8∧1≤c.quota∧c.quota≤16):=Iff.rfl
 rw[dB_iff hok]
 clear hok
 unfold Cfg.cells at *
 generalize c.prec=p at *
 generalize c.drift=d at *
 generalize c.reading=r at *
 generalize c.margin=m at *
 generalize c.bound=bo at *
 generalize c.rejoin=rj at *
 generalize c.quota=q at *
 refine WC_start eX1g (by simp) ?_
 unfold cX1g
 by_cases h1:d<0
 ·clear hP
  repeat (with_reducible first|(first|refine pI1 ?_|refine pS1 ?_);intros|refine pA1 ?_|refine pX1 ?_|refine pB1 ?_|exact True.intro)
  rename_i b1 H1 p1 g1 x1
  repeat (with_reducible first|(first|refine pI1 ?_|refine pS1 ?_);intros|refine pA1 ?_|refine pX1 ?_|refine pB1 ?_|exact True.intro)
  exact⟨by rw[dB_f (by omega)],by omega,fun b hb=>x1 b (by omega)⟩
 by_cases h2:1048576<d
 ·clear hP
  repeat (with_reducible first|(first|refine pI1 ?_|refine pS1 ?_);intros|refine pA1 ?_|refine pX1 ?_|refine pB1 ?_|exact True.intro)
  rename_i b1 H1 p1 g1 x1
  repeat (with_reducible first|(first|refine pI1 ?_|refine pS1 ?_);intros|refine pA1 ?_|refine pX1 ?_|refine pB1 ?_|exact True.intro)
  exact⟨by rw[dB_f (by omega)],by omega,fun b hb=>x1 b (by omega)⟩
 by_cases h3:r<0
 ·clear hP
  repeat (with_reducible first|(first|refine pI1 ?_|refine pS1 ?_);intros|refine pA1 ?_|refine pX1 ?_|refine pB1 ?_|exact True.intro)
  rename_i b1 H1 p1 g1 x1
  repeat (with_reducible first|(first|refine pI1 ?_|refine pS1 ?_);intros|refine pA1 ?_|refine pX1 ?_|refine pB1 ?_|exact True.intro)
  exact⟨by rw[dB_f (by omega)],by omega,fun b hb=>x1 b (by omega)⟩
 by_cases h4:1048576<r
 ·clear hP
  repeat (with_reducible first|(first|refine pI1 ?_|refine pS1 ?_);intros|refine pA1 ?_|refine pX1 ?_|refine pB1 ?_|exact True.intro)
  rename_i b1 H1 p1 g1 x1
  repeat (with_reducible first|(first|refine pI1 ?_|refine pS1 ?_);intros|refine pA1 ?_|refine pX1 ?_|refine pB1 ?_|exact True.intro)
  exact⟨by rw[dB_f (by omega)],by omega,fun b hb=>x1 b (by omega)⟩
 have hP:=fun Hx=>hP Hx ⟨by omega,by omega,by omega,by omega⟩
 have hpb:1≤p∧p≤4194305:=by omega
 obtain⟨p1,p2⟩:=hpb
 have fp:=zhd2 hP hpr
 clear hP hpr
 repeat (with_reducible first|(first|refine pI1 ?_|refine pS1 ?_);intros|refine pA1 ?_|refine pX1 ?_|refine pB1 ?_|exact True.intro)
 rename_i b1 H1 q1 g1 x1
 have fx:=zhd1 x1
 clear x1
 repeat (with_reducible first|(first|refine pI1 ?_|refine pS1 ?_);intros|refine pA1 ?_|refine pX1 ?_|refine pB1 ?_|exact True.intro)
 refine outM_call (fp _ fun hP _=>hP H1) ?_
 rintro _ H2 ⟨rfl,l2,x2⟩
 have g2:H2[b1]?=_:=(x2 b1 (by omega)).trans g1
 have fx2:=zhd1 x2
 clear x2 g1
 repeat (with_reducible first|(first|refine pI1 ?_|refine pS1 ?_);intros|refine pA1 ?_|refine pX1 ?_|refine pB1 ?_|exact True.intro)
 refine outM_call (fp _ fun hP _=>hP H2) ?_
 rintro _ H3 ⟨rfl,l3,x3⟩
 have g3:H3[b1]?=_:=(x3 b1 (by omega)).trans g2
 have y3:∀b,b<H.length→H3[b]?=H[b]?:=fun b hb=>by rw[x3 b (by omega),fx2 _ fun x2=>x2 b (by omega)];exact fx _ fun x1=>x1 b (by omega)
 have fy:=zhd1 y3
 clear x3 g2 y3 fx fx2
 obtain⟨least,hle⟩:∃least,p+p+r=least:=⟨_,rfl⟩
 by_cases m1:least≤m
 case neg=>
  have m1':¬m≥least:=m1
  repeat (with_reducible first|(first|refine pI1 ?_|refine pS1 ?_);intros|refine pA1 ?_|refine pX1 ?_|refine pB1 ?_|exact True.intro)
  exact⟨by rw[dB_f (by omega)],by omega,fy _ fun y=>y⟩
 by_cases m2:m≤16777216
 case neg=>
  repeat (with_reducible first|(first|refine pI1 ?_|refine pS1 ?_);intros|refine pA1 ?_|refine pX1 ?_|refine pB1 ?_|exact True.intro)
  exact⟨by rw[dB_f (by omega)],by omega,fy _ fun y=>y⟩
 by_cases m3:least≤bo
 case neg=>
  repeat (with_reducible first|(first|refine pI1 ?_|refine pS1 ?_);intros|refine pA1 ?_|refine pX1 ?_|refine pB1 ?_|exact True.intro)
  exact⟨by rw[dB_f (by omega)],by omega,fy _ fun y=>y⟩
 by_cases m4:bo≤16777216
 case neg=>
  repeat (with_reducible first|(first|refine pI1 ?_|refine pS1 ?_);intros|refine pA1 ?_|refine pX1 ?_|refine pB1 ?_|exact True.intro)
  exact⟨by rw[dB_f (by omega)],by omega,fy _ fun y=>y⟩
 by_cases m5:1≤rj
 case neg=>
  repeat (with_reducible first|(first|refine pI1 ?_|refine pS1 ?_);intros|refine pA1 ?_|refine pX1 ?_|refine pB1 ?_|exact True.intro)
  exact⟨by rw[dB_f (by omega)],by omega,fy _ fun y=>y⟩
 by_cases m6:rj≤8
 case neg=>
  repeat (with_reducible first|(first|refine pI1 ?_|refine pS1 ?_);intros|refine pA1 ?_|refine pX1 ?_|refine pB1 ?_|exact True.intro)
  exact⟨by rw[dB_f (by omega)],by omega,fy _ fun y=>y⟩
 by_cases m7:1≤q
 case neg=>
  repeat (with_reducible first|(first|refine pI1 ?_|refine pS1 ?_);intros|refine pA1 ?_|refine pX1 ?_|refine pB1 ?_|exact True.intro)
  exact⟨by rw[dB_f (by omega)],by omega,fy _ fun y=>y⟩
 by_cases m8:q≤16
 case neg=>
  repeat (with_reducible first|(first|refine pI1 ?_|refine pS1 ?_);intros|refine pA1 ?_|refine pX1 ?_|refine pB1 ?_|exact True.intro)
  exact⟨by rw[dB_f (by omega)],by omega,fy _ fun y=>y⟩
 repeat (with_reducible first|(first|refine pI1 ?_|refine pS1 ?_);intros|refine pA1 ?_|refine pX1 ?_|refine pB1 ?_|exact True.intro)
 exact⟨by rw[dB_t (by omega)],by omega,fy _ fun y=>y⟩
end
end Go.Proofs.YtjcgdcadflplcaaDoor.AM.D21
namespace Go.Proofs.YtjcgdcadflplcaaDoor.AM.D21
open Go Go.Proofs.YtjcgdcadflplcaaDoor.AM Go.Proofs.YtjcgdcadflplcaaDoor.AM.C02
set_option maxHeartbeats 2000000
set_option maxRecDepth 100000
attribute [local go_sem] tn_add1 tn_sub1 put_all' nums_len sub12 sub3 sub6
section
variable {N:Nat} {H:Heap} {c:Cfg} {h:Hd}
theorem s_rparts (hc:CfgM N H c h) (hN:N≤H.length) (hnd:4≤c.nodes∧c.nodes≤16):WC F fX1m [.agg (c.cells h)] H fun v H'=>v=.c (.bool (dB c.okParts))∧Xt H H':=by
 refine WC_start eX1m (by simp) ?_
 unfold cX1m Cfg.cells
 obtain⟨n,hn⟩:∃n,c.parts.length=n:=⟨_,rfl⟩
 rw[hn]
 obtain⟨n1,n2⟩:=hnd
 obtain⟨nd,hnd⟩:∃nd,c.nodes=nd:=⟨_,rfl⟩
 rw[hnd] at n1 n2 ⊢
 have fin0:=zhd3 hc hn hnd
 clear hc hn hnd
 by_cases hbig:32<n
 ·have e:dB c.okParts=false:=dB_f fun h=>fin0 _ fun _ hn _=>by have:=h.1;omega
  rw[e]
  repeat (with_reducible first|(first|refine pI1 ?_|refine pS1 ?_);intros|refine pA1 ?_|refine pX1 ?_|refine pB1 ?_|exact True.intro)
  rename_i b1 H1 p1 g1 x1
  repeat (with_reducible first|(first|refine pI1 ?_|refine pS1 ?_);intros|refine pA1 ?_|refine pX1 ?_|refine pB1 ?_|exact True.intro)
  exact⟨rfl,by omega,fun b hb=>x1 b (by omega)⟩
 repeat (with_reducible first|(first|refine pI1 ?_|refine pS1 ?_);intros|refine pA1 ?_|refine pX1 ?_|refine pB1 ?_|exact True.intro)
 rename_i b1 H1 p1 g1 x1
 have fx:=zhd1 x1
 clear x1
 repeat (with_reducible first|(first|refine pI1 ?_|refine pS1 ?_);intros|refine pA1 ?_|refine pX1 ?_|refine pB1 ?_|exact True.intro)
 refine W_loop (fun m st=>∃ρ,∃i:Nat,∃Hk,st=⟨L 90 ρ,[],Hk⟩∧m=n-i∧i≤n∧ρ 1=.c (.ptr (some (b1,0)))∧ρ 3=.c (.int .i64 (i:Nat))∧H1.length≤Hk.length∧Hid ((∀d,d<H1.length→Hk[d]?=H1[d]?)∧∀j,j<i→c.okPart (c.part (j:Nat)))) n ⟨_,0,H1,rfl,rfl,by omega,zf,zf,Nat.le_refl _,fun _ _=>rfl,fun j hj=>by omega⟩ ?_
 rintro m st ⟨ρ,i,Hk,rfl,rfl,hi,e1,e3,lk,hall⟩
 unfold bX1m_9
 have k1:Hk[b1]?=_:=(hall.1 b1 (by omega)).trans g1
 by_cases hin:i<n
 ·have hxt:(i:Int)<(n:Int):=by omega
  obtain⟨la,y,ea,hla,hld,hmem⟩:=fin0 _ fun hc hn _=>part_at hc (i:=i) (by omega)
  have yk:∀b,b<H.length→Hk[b]?=H[b]?:=fun b hb=>(hall.1 b (by omega)).trans (fx _ fun x1=>x1 b (by omega))
  rw[←yk la (by omega)] at hld
  have hokp:c.okPart (c.part (i:Nat))↔(0≤(c.part (i:Nat)).node∧(c.part (i:Nat)).node≤nd-1∧0≤(c.part (i:Nat)).lo∧(c.part (i:Nat)).lo≤(c.part (i:Nat)).hi∧(c.part (i:Nat)).hi≤256):=fin0 _ fun _ _ hnd=>by rw[←hnd];exact Iff.rfl
  have hnot:¬c.okPart (c.part (i:Nat))→dB c.okParts=false:=fun h=>dB_f fun h'=>h (h'.2.1 _ hmem)
  have hnext:c.okPart (c.part (i:Nat))→∀j,j<i+1→c.okPart (c.part (j:Nat)):=fun h j hj=>by
   by_cases e:j=i
   ·subst e;exact h
   ·exact hall.2 j (by omega)
  generalize c.okPart (c.part (i:Nat))=P at *
  generalize c.part (i:Nat)=p at *
  obtain⟨pn,lo,hi_⟩:=p
  dsimp only [Pa.cells] at hld hokp
  have fin2:=zhd5 hnot hnext hall yk hokp
  clear hnot hnext hmem hall yk hokp
  have hout:¬(0≤pn∧pn≤nd-1∧0≤lo∧lo≤hi_∧hi_≤256)→dB c.okParts=false:=fun h=>fin2 _ fun hnot _ _ _ hokp=>hnot fun hp=>h (hokp.1 hp)
  have fo:=zhd1 hout
  clear hout
  rw[ea] at k1
  have fea:=zhd1 ea
  clear ea
  have hend:∀H',Hk.length≤H'.length→(∀b,b<Hk.length→H'[b]?=Hk[b]?)→Xt H H':=fun H' l x=>⟨by omega,fun b hb=>by rw[x b (by omega)];exact fin2 _ fun _ _ _ yk _=>yk b hb⟩
  have fe:=zhd1 hend
  clear hend
  by_cases c1:pn<0
  ·have e:=fo _ fun h=>h (by omega)
   rw[e]
   repeat (with_reducible first|(first|refine pI1 ?_|refine pS1 ?_);intros|refine pA1 ?_|refine pX1 ?_|refine pB1 ?_|exact True.intro)
   rename_i b3 H3 p3 g3 x3 H4 l4 g4 x4
   repeat (with_reducible first|(first|refine pI1 ?_|refine pS1 ?_);intros|refine pA1 ?_|refine pX1 ?_|refine pB1 ?_|exact True.intro)
   exact⟨rfl,fe _ fun h=>h _ (by omega) fun b hb=>by rw[x4 b (by omega),x3 b (by omega)]⟩
  by_cases c2:nd≤pn
  ·have e:=fo _ fun h=>h (by omega)
   rw[e]
   repeat (with_reducible first|(first|refine pI1 ?_|refine pS1 ?_);intros|refine pA1 ?_|refine pX1 ?_|refine pB1 ?_|exact True.intro)
   rename_i b3 H3 p3 g3 x3 H4 l4 g4 x4
   have k1':=(x4 b1 (by omega)).trans ((x3 b1 (by omega)).trans k1)
   repeat (with_reducible first|(first|refine pI1 ?_|refine pS1 ?_);intros|refine pA1 ?_|refine pX1 ?_|refine pB1 ?_|exact True.intro)
   exact⟨rfl,fe _ fun h=>h _ (by omega) fun b hb=>by rw[x4 b (by omega),x3 b (by omega)]⟩
  by_cases c3:lo<0
  ·have e:=fo _ fun h=>h (by omega)
   rw[e]
   repeat (with_reducible first|(first|refine pI1 ?_|refine pS1 ?_);intros|refine pA1 ?_|refine pX1 ?_|refine pB1 ?_|exact True.intro)
   rename_i b3 H3 p3 g3 x3 H4 l4 g4 x4
   have k1':=(x4 b1 (by omega)).trans ((x3 b1 (by omega)).trans k1)
   repeat (with_reducible first|(first|refine pI1 ?_|refine pS1 ?_);intros|refine pA1 ?_|refine pX1 ?_|refine pB1 ?_|exact True.intro)
   exact⟨rfl,fe _ fun h=>h _ (by omega) fun b hb=>by rw[x4 b (by omega),x3 b (by omega)]⟩
  by_cases c4:hi_<lo
  ·have e:=fo _ fun h=>h (by omega)
   rw[e]
   repeat (with_reducible first|(first|refine pI1 ?_|refine pS1 ?_);intros|refine pA1 ?_|refine pX1 ?_|refine pB1 ?_|exact True.intro)
   rename_i b3 H3 p3 g3 x3 H4 l4 g4 x4
   have k1':=(x4 b1 (by omega)).trans ((x3 b1 (by omega)).trans k1)
   repeat (with_reducible first|(first|refine pI1 ?_|refine pS1 ?_);intros|refine pA1 ?_|refine pX1 ?_|refine pB1 ?_|exact True.intro)
   exact⟨rfl,fe _ fun h=>h _ (by omega) fun b hb=>by rw[x4 b (by omega),x3 b (by omega)]⟩
  by_cases c5:256<hi_
  ·have e:=fo _ fun h=>h (by omega)
   rw[e]
   repeat (with_reducible first|(first|refine pI1 ?_|refine pS1 ?_);intros|refine pA1 ?_|refine pX1 ?_|refine pB1 ?_|exact True.intro)
   rename_i b3 H3 p3 g3 x3 H4 l4 g4 x4
   have k1':=(x4 b1 (by omega)).trans ((x3 b1 (by omega)).trans k1)
   repeat (with_reducible first|(first|refine pI1 ?_|refine pS1 ?_);intros|refine pA1 ?_|refine pX1 ?_|refine pB1 ?_|exact True.intro)
   exact⟨rfl,fe _ fun h=>h _ (by omega) fun b hb=>by rw[x4 b (by omega),x3 b (by omega)]⟩
  repeat (with_reducible first|(first|refine pI1 ?_|refine pS1 ?_);intros|refine pA1 ?_|refine pX1 ?_|refine pB1 ?_|exact True.intro)
  rename_i b3 H3 p3 g3 x3 H4 l4 g4 x4
  have k1':=(x4 b1 (by omega)).trans ((x3 b1 (by omega)).trans k1)
  repeat (with_reducible first|(first|refine pI1 ?_|refine pS1 ?_);intros|refine pA1 ?_|refine pX1 ?_|refine pB1 ?_|exact True.intro)
  exact loopQ_n (n-(i+1)) (by omega) ⟨_,i+1,H4,rfl,rfl,by omega,zf,zf,by omega,fin2 _ fun _ hnext hall _ hokp=>⟨fun d hd=>by rw[x4 d (by omega),x3 d (by omega)];exact hall.1 d hd,hnext (hokp.2 (by omega))⟩⟩
 obtain rfl:i=n:=by omega
 have hxt:¬(i:Int)<(i:Int):=by omega
 have f1:=zhd1 hall
 clear hall g1
 repeat (with_reducible first|(first|refine pI1 ?_|refine pS1 ?_);intros|refine pA1 ?_|refine pX1 ?_|refine pB1 ?_|exact True.intro)
 refine W_loop (fun m st=>∃ρ,∃k:Nat,∃Hl,st=⟨L 90 ρ,[],Hl⟩∧m=i-k∧k≤i∧ρ 1=.c (.ptr (some (b1,0)))∧ρ 5=.c (.int .i64 (k:Nat))∧Hk.length≤Hl.length∧Hid ((∀d,d<Hk.length→Hl[d]?=Hk[d]?)∧∀j l,l<j→j<k→c.apartP l j)) i ⟨_,0,Hk,rfl,rfl,by omega,zf,zf,Nat.le_refl _,fun _ _=>rfl,fun j l hl hj=>by omega⟩ ?_
 clear e1 e3
 rintro m st ⟨ρ,k,Hl,rfl,rfl,hk,e1,e5,ll,hap⟩
 unfold bX1m_21
 have k2:Hl[b1]?=_:=(hap.1 b1 (by omega)).trans k1
 by_cases hkn:k<i
 ·have hxt:(k:Int)<(i:Int):=by omega
  have f2:=zhd1 hap
  clear hap k1
  repeat (with_reducible first|(first|refine pI1 ?_|refine pS1 ?_);intros|refine pA1 ?_|refine pX1 ?_|refine pB1 ?_|exact True.intro)
  refine W_loop (fun m st=>∃ρ,∃l:Nat,∃Hm,st=⟨L 90 ρ,[],Hm⟩∧m=k-l∧l≤k∧ρ 1=.c (.ptr (some (b1,0)))∧ρ 5=.c (.int .i64 (k:Nat))∧ρ 6=.c (.int .i64 (l:Nat))∧Hl.length≤Hm.length∧Hid ((∀d,d<Hl.length→Hm[d]?=Hl[d]?)∧∀j,j<l→c.apartP j k)) k ⟨_,0,Hl,rfl,rfl,by omega,zf,zf,zf,Nat.le_refl _,fun _ _=>rfl,fun j hj=>by omega⟩ ?_
  clear e1 e5
  rintro m st ⟨ρ,l,Hm,rfl,rfl,hl,e1,e5,e6,lm,hal⟩
  unfold bX1m_19
  have k3:Hm[b1]?=_:=(hal.1 b1 (by omega)).trans k2
  by_cases hlk:l<k
  ·have hxl:(l:Int)<(k:Int):=by omega
   obtain⟨la,y,ea,hla,hldk,-⟩:=fin0 _ fun hc hn _=>part_at hc (i:=k) (by omega)
   obtain⟨la',y',ea',-,hldl,-⟩:=fin0 _ fun hc hn _=>part_at hc (i:=l) (by omega)
   rw[ea] at ea'
   cases ea'
   have ym:∀b,b<H.length→Hm[b]?=H[b]?:=fun b hb=>(hal.1 b (by omega)).trans (f2 _ fun hap=>(hap.1 b (by omega)).trans (f1 _ fun hall=>(hall.1 b (by omega)).trans (fx _ fun x1=>x1 b (by omega))))
   rw[←ym la (by omega)] at hldk hldl
   have okk:c.okPart (c.part (k:Nat)):=f1 _ fun hall=>hall.2 k hkn
   have okl:c.okPart (c.part (l:Nat)):=f1 _ fun hall=>hall.2 l (by omega)
   have hapd:c.apartP l k↔¬((c.part (l:Nat)).node=(c.part (k:Nat)).node∧Cfg.meets (c.part (l:Nat)).lo (c.part (l:Nat)).hi (c.part (k:Nat)).lo (c.part (k:Nat)).hi):=Iff.rfl
   have hnot:¬c.apartP l k→dB c.okParts=false:=fun h=>dB_f fun h'=>h (h'.2.2 l k hlk (fin0 _ fun _ hn _=>by omega))
   have hnext:c.apartP l k→∀j,j<l+1→c.apartP j k:=fun h j hj=>by
    by_cases e:j=l
    ·subst e;exact h
    ·exact hal.2 j (by omega)
   unfold Cfg.okPart at okk okl
   generalize c.apartP l k=P at *
   generalize c.part (k:Nat)=p at *
   generalize c.part (l:Nat)=q at *
   obtain⟨pn,lo,hi_⟩:=p
   obtain⟨qn,lo',hi'⟩:=q
   obtain⟨-,-,w1,w2,w3⟩:=okk
   obtain⟨-,-,w4,w5,w6⟩:=okl
   dsimp only [Pa.cells] at hldk hldl hapd w1 w2 w3 w4 w5 w6
   obtain⟨a,rfl⟩:∃a:Nat,lo=a:=⟨lo.toNat,by omega⟩
   obtain⟨b,rfl⟩:∃b:Nat,hi_=b:=⟨hi_.toNat,by omega⟩
   obtain⟨a',rfl⟩:∃a':Nat,lo'=a':=⟨lo'.toNat,by omega⟩
   obtain⟨b',rfl⟩:∃b':Nat,hi'=b':=⟨hi'.toNat,by omega⟩
   have hcom:Cfg.meets a b a' b'↔Cfg.meets a' b' a b:=by unfold Cfg.meets;omega
   have fin2:=zhd6 hnot hnext hal ym hapd hcom
   clear hnot hnext hal ym hapd hcom
   rw[ea] at k3
   have fea:=zhd1 ea
   clear ea k2
   by_cases c1:pn=qn
   ·subst c1
    repeat (with_reducible first|(first|refine pI1 ?_|refine pS1 ?_);intros|refine pA1 ?_|refine pX1 ?_|refine pB1 ?_|exact True.intro)
    rename_i b3 H3 p3 g3 x3 H4 l4 g4 x4 b5 H5 p5 g5 x5 H6 l6 g6 x6
    have k3':=(x4 b1 (by omega)).trans ((x3 b1 (by omega)).trans k3)
    have f4:=zhd2 x3 x4
    clear x3 x4 hldk hldl g3 k3
    have k4:=(x6 b1 (by omega)).trans ((x5 b1 (by omega)).trans k3')
    have g4':=(x6 b3 (by omega)).trans ((x5 b3 (by omega)).trans g4)
    have f5:=zhd2 x5 x6
    have hmt:=s_rmeet (H:=H6) (a:=a) (b:=b) (c:=a') (d:=b') (by omega)
    clear x5 x6 g4 k3' g5
    repeat (with_reducible first|(first|refine pI1 ?_|refine pS1 ?_);intros|refine pA1 ?_|refine pX1 ?_|refine pB1 ?_|exact True.intro)
    refine outM_call hmt ?_
    rintro _ H6 ⟨rfl,rfl⟩
    clear hmt
    have hx6:∀d,d<Hm.length→H6[d]?=Hm[d]?:=fun d hd=>by rw[f5 _ fun _ x6=>x6 d (by omega),f5 _ fun x5 _=>x5 d (by omega),f4 _ fun _ x4=>x4 d (by omega)];exact f4 _ fun x3 _=>x3 d (by omega)
    by_cases hme:Cfg.meets a b a' b'
    ·have e:=fin2 _ fun hnot _ _ _ hapd hcom=>hnot fun hp=>(hapd.1 hp) ⟨rfl,hcom.1 hme⟩
     rw[dB_t hme,e]
     have fh:=zhd1 hx6
     clear hme hx6 e
     repeat (with_reducible first|(first|refine pI1 ?_|refine pS1 ?_);intros|refine pA1 ?_|refine pX1 ?_|refine pB1 ?_|exact True.intro)
     exact⟨rfl,by omega,fun b hb=>by rw[fh _ fun h=>h b (by omega)];exact fin2 _ fun _ _ _ ym _ _=>ym b hb⟩
    ·rw[dB_f hme]
     have fh:=zhd2 hx6 hme
     clear hme hx6
     repeat (with_reducible first|(first|refine pI1 ?_|refine pS1 ?_);intros|refine pA1 ?_|refine pX1 ?_|refine pB1 ?_|exact True.intro)
     exact loopQ_n (k-(l+1)) (by omega) ⟨_,l+1,H6,rfl,rfl,by omega,zf,zf,zf,by omega,fh _ fun hx6 hme=>fin2 _ fun _ hnext hal _ hapd hcom=>⟨fun d hd=>by rw[hx6 d (by omega)];exact hal.1 d hd,hnext (hapd.2 fun h=>hme (hcom.2 h.2))⟩⟩
   ·repeat (with_reducible first|(first|refine pI1 ?_|refine pS1 ?_);intros|refine pA1 ?_|refine pX1 ?_|refine pB1 ?_|exact True.intro)
    rename_i b3 H3 p3 g3 x3 H4 l4 g4 x4 b5 H5 p5 g5 x5 H6 l6 g6 x6
    have k3':=(x4 b1 (by omega)).trans ((x3 b1 (by omega)).trans k3)
    have f4:=zhd2 x3 x4
    clear x3 x4 hldk hldl g3 k3
    have k4:=(x6 b1 (by omega)).trans ((x5 b1 (by omega)).trans k3')
    have g4':=(x6 b3 (by omega)).trans ((x5 b3 (by omega)).trans g4)
    have f5:=zhd2 x5 x6
    clear x5 x6 g4 k3' g5
    repeat (with_reducible first|(first|refine pI1 ?_|refine pS1 ?_);intros|refine pA1 ?_|refine pX1 ?_|refine pB1 ?_|exact True.intro)
    have hx6:∀d,d<Hm.length→H6[d]?=Hm[d]?:=fun d hd=>by rw[f5 _ fun _ x6=>x6 d (by omega),f5 _ fun x5 _=>x5 d (by omega),f4 _ fun _ x4=>x4 d (by omega)];exact f4 _ fun x3 _=>x3 d (by omega)
    exact loopQ_n (k-(l+1)) (by omega) ⟨_,l+1,H6,rfl,rfl,by omega,zf,zf,zf,by omega,fin2 _ fun _ hnext hal _ hapd hcom=>⟨fun d hd=>by rw[hx6 d (by omega)];exact hal.1 d hd,hnext (hapd.2 fun h=>c1 h.1.symm)⟩⟩
  ·obtain rfl:l=k:=by omega
   have hxl:¬(l:Int)<(l:Int):=by omega
   have fl:=zhd1 hal
   clear hal
   repeat (with_reducible first|(first|refine pI1 ?_|refine pS1 ?_);intros|refine pA1 ?_|refine pX1 ?_|refine pB1 ?_|exact True.intro)
   exact loopQ_n (i-(l+1)) (by omega) ⟨_,l+1,Hm,rfl,rfl,by omega,zf,zf,by omega,fl _ fun hal=>f2 _ fun hap=>⟨fun d hd=>by rw[hal.1 d (by omega)];exact hap.1 d hd,fun j q h1 h2=>by
    by_cases e:j=l
    ·subst e;exact hal.2 q h1
    ·exact hap.2 j q h1 (by omega)⟩⟩
 ·obtain rfl:k=i:=by omega
  have hxk:¬(k:Int)<(k:Int):=by omega
  have e:dB c.okParts=true:=dB_t (fin0 _ fun _ hn _=>⟨by omega,fun p hp=>by
   obtain⟨j,hj,rfl⟩:=part_of hp
   exact f1 _ fun hall=>hall.2 j (by omega),fun j l h1 h2=>hap.2 l j h1 (by omega)⟩)
  rw[e]
  have fl:=zhd1 hap
  clear hap
  repeat (with_reducible first|(first|refine pI1 ?_|refine pS1 ?_);intros|refine pA1 ?_|refine pX1 ?_|refine pB1 ?_|exact True.intro)
  exact⟨rfl,by omega,fun b hb=>by rw[fl _ fun hap=>hap.1 b (by omega),f1 _ fun hall=>hall.1 b (by omega)];exact fx _ fun x1=>x1 b (by omega)⟩
end
end Go.Proofs.YtjcgdcadflplcaaDoor.AM.D21
namespace Go.Proofs.YtjcgdcadflplcaaDoor.AM.D21
open Go Go.Proofs.YtjcgdcadflplcaaDoor.AM Go.Proofs.YtjcgdcadflplcaaDoor.AM.C02
set_option maxHeartbeats 2000000
set_option maxRecDepth 100000
attribute [local go_sem] tn_add1 tn_sub1 put_all' nums_len sub12 sub3 sub6
section
variable {N:Nat} {H:Heap} {c:Cfg} {h:Hd}
theorem s_rwins (hc:CfgM N H c h) (hN:N≤H.length) (hnd:4≤c.nodes∧c.nodes≤16) (hps:c.parts.length≤32):WC F fX1o [.agg (c.cells h)] H fun v H'=>v=.c (.bool (dB c.okWins))∧Xt H H':=by
 refine WC_start eX1o (by simp) ?_
 unfold cX1o Cfg.cells
 obtain⟨n,hn⟩:∃n,c.wins.length=n:=⟨_,rfl⟩
 obtain⟨np,hnp⟩:∃n,c.parts.length=n:=⟨_,rfl⟩
 rw[hn,hnp]
 rw[hnp] at hps
 obtain⟨nd,hnd'⟩:∃nd:Nat,c.nodes=nd:=⟨c.nodes.toNat,by omega⟩
 rw[hnd'] at hnd ⊢
 obtain⟨n1,n2⟩:=hnd
 have fin0:=zhd4 hc hn hnp hnd'
 clear hc hn hnp hnd'
 by_cases hlen:n=nd
 case neg=>
  have hlen':¬(n:Int)=(nd:Int):=by omega
  have e:dB c.okWins=false:=dB_f fun h=>fin0 _ fun _ hn _ hnd=>by have:=h.1;omega
  rw[e]
  repeat (with_reducible first|(first|refine pI1 ?_|refine pS1 ?_);intros|refine pA1 ?_|refine pX1 ?_|refine pB1 ?_|exact True.intro)
  rename_i b1 H1 p1 g1 x1
  repeat (with_reducible first|(first|refine pI1 ?_|refine pS1 ?_);intros|refine pA1 ?_|refine pX1 ?_|refine pB1 ?_|exact True.intro)
  exact⟨rfl,by omega,fun b hb=>x1 b (by omega)⟩
 subst hlen
 repeat (with_reducible first|(first|refine pI1 ?_|refine pS1 ?_);intros|refine pA1 ?_|refine pX1 ?_|refine pB1 ?_|exact True.intro)
 rename_i b1 H1 p1 g1 x1
 have fx:=zhd1 x1
 clear x1
 repeat (with_reducible first|(first|refine pI1 ?_|refine pS1 ?_);intros|refine pA1 ?_|refine pX1 ?_|refine pB1 ?_|exact True.intro)
 refine W_loop (fun m st=>∃ρ,∃i:Nat,st=⟨L 64 ρ,[],H1⟩∧m=n-i∧i≤n∧ρ 1=.c (.ptr (some (b1,0)))∧ρ 3=.c (.int .i64 (i:Nat))∧∀(j:Nat) row,j<i→c.wins[j]?=some row→(row.length:Int)=c.nodes∧∀p∈row,c.okWin j p) n ⟨_,0,rfl,rfl,by omega,zf,zf,fun j r hj=>by omega⟩ ?_
 rintro m st ⟨ρ,i,rfl,rfl,hi,e1,e3,hall⟩
 unfold bX1o_15
 have fin1:=zhd1 hall
 clear hall
 by_cases hin:i<n
 ·have hxt:(i:Int)<(n:Int):=by omega
  obtain⟨la,y,a,cc,orr,row,ea,hla,hld,hrow,hsl,hsN⟩:=fin0 _ fun hc hn _ _=>win_at hc (i:=i) (by omega)
  rw[←fx _ fun x1=>x1 la (by omega)] at hld
  rw[ea] at g1
  have hsl1:Sl H1 1 a row.length (nums row):=hsl.keep fun b x e=>fx _ fun x1=>x1 b (by have:=hsN b x e;omega)
  clear hsl
  obtain⟨rl,hrl⟩:∃rl,row.length=rl:=⟨_,rfl⟩
  rw[hrl] at hld hsl1
  have hbad:¬((row.length:Int)=c.nodes∧∀p∈row,c.okWin i p)→dB c.okWins=false:=fun h=>dB_f fun h'=>h (h'.2 i row hrow)
  have hnext:((row.length:Int)=c.nodes∧∀p∈row,c.okWin i p)→∀(j:Nat) r,j<i+1→c.wins[j]?=some r→(r.length:Int)=c.nodes∧∀p∈r,c.okWin j p:=fun h j r hj hr=>by
   by_cases e:j=i
   ·subst e;rw[hrow] at hr;cases hr;exact h
   ·exact fin1 _ fun hall=>hall j r (by omega) hr
  have f2:=zhd5 hbad hnext hsl1 hrl ea
  clear hbad hnext hsl1 hrow hsN ea
  by_cases hr:rl=n
  case neg=>
   have hr':¬(rl:Int)=(n:Int):=by omega
   have e:=f2 _ fun hbad _ _ _ _=>hbad fun h=>hr (fin0 _ fun _ _ _ hnd=>by have:=h.1;omega)
   have fr:=zhd1 hrl
   clear hrl
   rw[e]
   repeat (with_reducible first|(first|refine pI1 ?_|refine pS1 ?_);intros|refine pA1 ?_|refine pX1 ?_|refine pB1 ?_|exact True.intro)
   exact⟨rfl,by omega,fx _ fun x1 b hb=>x1 b (by omega)⟩
  subst hr
  have fr:=zhd1 hrl
  clear hrl
  repeat (with_reducible first|(first|refine pI1 ?_|refine pS1 ?_);intros|refine pA1 ?_|refine pX1 ?_|refine pB1 ?_|exact True.intro)
  refine W_loop (fun m st=>∃ρ,∃k:Nat,st=⟨L 64 ρ,[],H1⟩∧m=rl-k∧k≤rl∧ρ 1=.c (.ptr (some (b1,0)))∧ρ 3=.c (.int .i64 (i:Nat))∧ρ 4=.c (.int .i64 (k:Nat))∧∀j,j<k→c.okWin i (gn row j)) rl ⟨_,0,rfl,rfl,by omega,zf,zf,zf,fun j hj=>by omega⟩ ?_
  clear e1 e3
  rintro m st ⟨ρ,k,rfl,rfl,hk,e1,e3,e4,hwk⟩
  unfold bX1o_13
  have f3:=zhd1 hwk
  clear hwk
  by_cases hkn:k<rl
  ·have hxk:(k:Int)<(rl:Int):=by omega
   obtain⟨⟨lb,z⟩,eb⟩:=f2 _ fun _ _ hsl _ _=>hsl.is_some (by omega)
   have hld2:=f2 _ fun _ _ hsl hrl _=>Sl.gn (by rw[eb] at hsl;exact hsl) hrl hkn
   dsimp only at hld2
   rw[eb] at hld
   have hokw:c.okWin i (gn row k)↔(gn row k=-1∨(0≤gn row k∧gn row k<c.parts.length∧(c.part (gn row k)).node=i)):=Iff.rfl
   have hbad:¬c.okWin i (gn row k)→dB c.okWins=false:=fun h=>f2 _ fun hbad _ _ hrl _=>hbad fun h'=>h (h'.2 _ (gn_mem (by omega)))
   have hnext:c.okWin i (gn row k)→∀j,j<k+1→c.okWin i (gn row j):=fun h j hj=>by
    by_cases e:j=k
    ·subst e;exact h
    ·exact f3 _ fun h=>h j (by omega)
   have hpart:0≤gn row k→gn row k<np→∃la y,h.a8=some (la,y)∧la<N∧ldnB H[la]? (y+(gn row k).toNat * 3) 3=some (c.part (gn row k)).cells:=fun h0 h1=>fin0 _ fun hc _ hnp _=>by
    obtain⟨la,y,q1,q2,q3,-⟩:=part_at hc (i:=(gn row k).toNat) (by omega)
    rw[show ((gn row k).toNat:Int)=gn row k by omega] at q3
    exact⟨la,y,q1,q2,q3⟩
   have hnpe:(c.parts.length:Int)=np:=fin0 _ fun _ _ hnp _=>by rw[hnp]
   rw[hnpe] at hokw
   clear hnpe
   generalize c.okWin i (gn row k)=P at *
   generalize gn row k=u at *
   have f4:=zhd5 hbad hnext hokw eb hpart
   clear hbad hnext hokw eb hpart
   by_cases c1:u=-1
   ·have hP:=f4 _ fun _ hnext hokw _ _=>hnext (hokw.2 (.inl c1))
    have fP:=zhd2 hP c1
    clear hP
    subst c1
    repeat (with_reducible first|(first|refine pI1 ?_|refine pS1 ?_);intros|refine pA1 ?_|refine pX1 ?_|refine pB1 ?_|exact True.intro)
    exact loopQ_n (rl-(k+1)) (by omega) ⟨_,k+1,rfl,rfl,by omega,zf,zf,zf,fP _ fun h _=>h⟩
   by_cases c2:u<0
   ·have e:=f4 _ fun hbad _ hokw _ _=>hbad fun h=>by rcases hokw.1 h with h|h;exact c1 h;omega
    rw[e]
    repeat (with_reducible first|(first|refine pI1 ?_|refine pS1 ?_);intros|refine pA1 ?_|refine pX1 ?_|refine pB1 ?_|exact True.intro)
    exact⟨rfl,by omega,fx _ fun x1 b hb=>x1 b (by omega)⟩
   by_cases c3:(np:Int)≤u
   ·have e:=f4 _ fun hbad _ hokw _ _=>hbad fun h=>by rcases hokw.1 h with h|h;exact c1 h;omega
    rw[e]
    repeat (with_reducible first|(first|refine pI1 ?_|refine pS1 ?_);intros|refine pA1 ?_|refine pX1 ?_|refine pB1 ?_|exact True.intro)
    exact⟨rfl,by omega,fx _ fun x1 b hb=>x1 b (by omega)⟩
   obtain⟨u,rfl⟩:∃w:Nat,u=w:=⟨u.toNat,by omega⟩
   obtain⟨la',y',ea',hla',hlp⟩:=f4 _ fun _ _ _ _ hp=>hp (by omega) (by omega)
   rw[Int.toNat_natCast] at hlp
   have hlp1:=ld_of_ldn3 hlp
   rw[←fx _ fun x1=>x1 la' (by omega)] at hlp1
   rw[ea'] at g1
   clear hlp
   generalize (c.part (u:Nat)).node=pn at *
   have fe':=fun(A:Prop) (h:_→A)=>h ea'
   clear ea'
   by_cases c4:pn=i
   ·have hP:=f4 _ fun _ hnext hokw _ _=>hnext (hokw.2 (.inr ⟨by omega,by omega,c4⟩))
    have fP:=zhd2 hP c4
    clear hP
    subst c4
    repeat (with_reducible first|(first|refine pI1 ?_|refine pS1 ?_);intros|refine pA1 ?_|refine pX1 ?_|refine pB1 ?_|exact True.intro)
    exact loopQ_n (rl-(k+1)) (by omega) ⟨_,k+1,rfl,rfl,by omega,zf,zf,zf,fP _ fun h _=>h⟩
   ·have e:=f4 _ fun hbad _ hokw _ _=>hbad fun h=>by rcases hokw.1 h with h|h;exact c1 h;exact c4 h.2.2
    rw[e]
    repeat (with_reducible first|(first|refine pI1 ?_|refine pS1 ?_);intros|refine pA1 ?_|refine pX1 ?_|refine pB1 ?_|exact True.intro)
    exact⟨rfl,by omega,fx _ fun x1 b hb=>x1 b (by omega)⟩
  ·obtain rfl:k=rl:=by omega
   have hxk:¬(k:Int)<(k:Int):=by omega
   have hg:=f2 _ fun _ hnext _ hrl _=>hnext ⟨fin0 _ fun _ _ _ hnd=>by rw[hrl,hnd],fun p hp=>by
    obtain⟨j,hj,rfl⟩:=gn_of hp
    exact f3 _ fun h=>h j (by omega)⟩
   have fg:=zhd1 hg
   clear hg
   repeat (with_reducible first|(first|refine pI1 ?_|refine pS1 ?_);intros|refine pA1 ?_|refine pX1 ?_|refine pB1 ?_|exact True.intro)
   exact loopQ_n (k-(i+1)) (by omega) ⟨_,i+1,rfl,rfl,by omega,zf,zf,fg _ fun h=>h⟩
 ·obtain rfl:i=n:=by omega
  have hxt:¬(i:Int)<(i:Int):=by omega
  have e:dB c.okWins=true:=dB_t (fin0 _ fun _ hn _ hnd=>⟨by rw[hn,hnd],fun j row hr=>fin1 _ fun hall=>hall j row (by have:=(List.getElem?_eq_some_iff.1 hr).1;omega) hr⟩)
  rw[e]
  repeat (with_reducible first|(first|refine pI1 ?_|refine pS1 ?_);intros|refine pA1 ?_|refine pX1 ?_|refine pB1 ?_|exact True.intro)
  exact⟨rfl,by omega,fx _ fun x1 b hb=>x1 b (by omega)⟩
end
end Go.Proofs.YtjcgdcadflplcaaDoor.AM.D21
namespace Go.Proofs.YtjcgdcadflplcaaDoor.AM.D21
open Go Go.Proofs.YtjcgdcadflplcaaDoor.AM Go.Proofs.YtjcgdcadflplcaaDoor.AM.C02
set_option maxHeartbeats 2000000
set_option maxRecDepth 100000
attribute [local go_sem] tn_add1 tn_sub1 put_all' nums_len sub12 sub3 sub6
section
variable {N:Nat} {H:Heap} {c:Cfg} {h:Hd}
theorem s_rAlone {p:Pt}:WC F fX1b [.agg p.cells] H fun v H'=>v=.c (.bool (dB p.ok))∧Xt H H':=by
 refine WC_start eX1b (by simp) ?_
 unfold cX1b Pt.cells
 have hok:p.ok↔((p.kind=1∨p.kind=2)∧(p.dir=1∨p.dir=2)∧1≤p.size∧p.size≤32∧(p.kind=2→1≤p.depth∧p.depth≤8∧p.fresh=0)∧(p.kind≠2→p.depth=0∧(p.dir=2→1≤p.fresh∧p.fresh≤65535)∧(p.dir≠2→p.fresh=0))):=Iff.rfl
 generalize p.ok=P at *
 obtain⟨pa,kd,dr,sz,dp,fr⟩:=p
 dsimp only at hok ⊢
 have fo:=zhd1 hok
 clear hok
 by_cases a1:kd<1
 ·have e:dB P=false:=dB_f fun h=>fo _ fun hok=>by have:=(hok.1 h).1;omega
  rw[e]
  repeat (with_reducible first|(first|refine pI1 ?_|refine pS1 ?_);intros|refine pA1 ?_|refine pX1 ?_|refine pB1 ?_|exact True.intro)
  rename_i b1 H1 p1 g1 x1
  repeat (with_reducible first|(first|refine pI1 ?_|refine pS1 ?_);intros|refine pA1 ?_|refine pX1 ?_|refine pB1 ?_|exact True.intro)
  exact⟨rfl,by omega,fun b hb=>x1 b (by omega)⟩
 by_cases a2:2<kd
 ·have e:dB P=false:=dB_f fun h=>fo _ fun hok=>by have:=(hok.1 h).1;omega
  rw[e]
  repeat (with_reducible first|(first|refine pI1 ?_|refine pS1 ?_);intros|refine pA1 ?_|refine pX1 ?_|refine pB1 ?_|exact True.intro)
  rename_i b1 H1 p1 g1 x1
  repeat (with_reducible first|(first|refine pI1 ?_|refine pS1 ?_);intros|refine pA1 ?_|refine pX1 ?_|refine pB1 ?_|exact True.intro)
  exact⟨rfl,by omega,fun b hb=>x1 b (by omega)⟩
 by_cases a3:dr<1
 ·have e:dB P=false:=dB_f fun h=>fo _ fun hok=>by have:=(hok.1 h).2.1;omega
  rw[e]
  repeat (with_reducible first|(first|refine pI1 ?_|refine pS1 ?_);intros|refine pA1 ?_|refine pX1 ?_|refine pB1 ?_|exact True.intro)
  rename_i b1 H1 p1 g1 x1
  repeat (with_reducible first|(first|refine pI1 ?_|refine pS1 ?_);intros|refine pA1 ?_|refine pX1 ?_|refine pB1 ?_|exact True.intro)
  exact⟨rfl,by omega,fun b hb=>x1 b (by omega)⟩
 by_cases a4:2<dr
 ·have e:dB P=false:=dB_f fun h=>fo _ fun hok=>by have:=(hok.1 h).2.1;omega
  rw[e]
  repeat (with_reducible first|(first|refine pI1 ?_|refine pS1 ?_);intros|refine pA1 ?_|refine pX1 ?_|refine pB1 ?_|exact True.intro)
  rename_i b1 H1 p1 g1 x1
  repeat (with_reducible first|(first|refine pI1 ?_|refine pS1 ?_);intros|refine pA1 ?_|refine pX1 ?_|refine pB1 ?_|exact True.intro)
  exact⟨rfl,by omega,fun b hb=>x1 b (by omega)⟩
 by_cases a5:sz<1
 ·have e:dB P=false:=dB_f fun h=>fo _ fun hok=>by have:=(hok.1 h).2.2.1;omega
  rw[e]
  repeat (with_reducible first|(first|refine pI1 ?_|refine pS1 ?_);intros|refine pA1 ?_|refine pX1 ?_|refine pB1 ?_|exact True.intro)
  rename_i b1 H1 p1 g1 x1
  repeat (with_reducible first|(first|refine pI1 ?_|refine pS1 ?_);intros|refine pA1 ?_|refine pX1 ?_|refine pB1 ?_|exact True.intro)
  exact⟨rfl,by omega,fun b hb=>x1 b (by omega)⟩
 by_cases a6:32<sz
 ·have e:dB P=false:=dB_f fun h=>fo _ fun hok=>by have:=(hok.1 h).2.2.2.1;omega
  rw[e]
  repeat (with_reducible first|(first|refine pI1 ?_|refine pS1 ?_);intros|refine pA1 ?_|refine pX1 ?_|refine pB1 ?_|exact True.intro)
  rename_i b1 H1 p1 g1 x1
  repeat (with_reducible first|(first|refine pI1 ?_|refine pS1 ?_);intros|refine pA1 ?_|refine pX1 ?_|refine pB1 ?_|exact True.intro)
  exact⟨rfl,by omega,fun b hb=>x1 b (by omega)⟩
 by_cases k2:kd=2
 ·by_cases d1:1≤dp
  case neg=>
   have e:dB P=false:=dB_f fun h=>fo _ fun hok=>by have:=(hok.1 h).2.2.2.2.1 k2;omega
   rw[e]
   repeat (with_reducible first|(first|refine pI1 ?_|refine pS1 ?_);intros|refine pA1 ?_|refine pX1 ?_|refine pB1 ?_|exact True.intro)
   rename_i b1 H1 p1 g1 x1
   repeat (with_reducible first|(first|refine pI1 ?_|refine pS1 ?_);intros|refine pA1 ?_|refine pX1 ?_|refine pB1 ?_|exact True.intro)
   exact⟨rfl,by omega,fun b hb=>x1 b (by omega)⟩
  by_cases d2:dp≤8
  case neg=>
   have e:dB P=false:=dB_f fun h=>fo _ fun hok=>by have:=(hok.1 h).2.2.2.2.1 k2;omega
   rw[e]
   repeat (with_reducible first|(first|refine pI1 ?_|refine pS1 ?_);intros|refine pA1 ?_|refine pX1 ?_|refine pB1 ?_|exact True.intro)
   rename_i b1 H1 p1 g1 x1
   repeat (with_reducible first|(first|refine pI1 ?_|refine pS1 ?_);intros|refine pA1 ?_|refine pX1 ?_|refine pB1 ?_|exact True.intro)
   exact⟨rfl,by omega,fun b hb=>x1 b (by omega)⟩
  by_cases d3:fr=0
  ·have e:dB P=true:=dB_t (fo _ fun hok=>hok.2 ⟨by omega,by omega,by omega,by omega,fun _=>⟨d1,d2,d3⟩,fun h=>absurd k2 h⟩)
   rw[e]
   repeat (with_reducible first|(first|refine pI1 ?_|refine pS1 ?_);intros|refine pA1 ?_|refine pX1 ?_|refine pB1 ?_|exact True.intro)
   rename_i b1 H1 p1 g1 x1
   repeat (with_reducible first|(first|refine pI1 ?_|refine pS1 ?_);intros|refine pA1 ?_|refine pX1 ?_|refine pB1 ?_|exact True.intro)
   exact⟨rfl,by omega,fun b hb=>x1 b (by omega)⟩
  ·have e:dB P=false:=dB_f fun h=>fo _ fun hok=>by have:=(hok.1 h).2.2.2.2.1 k2;omega
   rw[e]
   repeat (with_reducible first|(first|refine pI1 ?_|refine pS1 ?_);intros|refine pA1 ?_|refine pX1 ?_|refine pB1 ?_|exact True.intro)
   rename_i b1 H1 p1 g1 x1
   repeat (with_reducible first|(first|refine pI1 ?_|refine pS1 ?_);intros|refine pA1 ?_|refine pX1 ?_|refine pB1 ?_|exact True.intro)
   exact⟨rfl,by omega,fun b hb=>x1 b (by omega)⟩
 by_cases d1:dp=0
 case neg=>
  have e:dB P=false:=dB_f fun h=>fo _ fun hok=>d1 ((hok.1 h).2.2.2.2.2 k2).1
  rw[e]
  by_cases r2:dr=2
  ·repeat (with_reducible first|(first|refine pI1 ?_|refine pS1 ?_);intros|refine pA1 ?_|refine pX1 ?_|refine pB1 ?_|exact True.intro)
   rename_i b1 H1 p1 g1 x1
   repeat (with_reducible first|(first|refine pI1 ?_|refine pS1 ?_);intros|refine pA1 ?_|refine pX1 ?_|refine pB1 ?_|exact True.intro)
   exact⟨rfl,by omega,fun b hb=>x1 b (by omega)⟩
  ·repeat (with_reducible first|(first|refine pI1 ?_|refine pS1 ?_);intros|refine pA1 ?_|refine pX1 ?_|refine pB1 ?_|exact True.intro)
   rename_i b1 H1 p1 g1 x1
   repeat (with_reducible first|(first|refine pI1 ?_|refine pS1 ?_);intros|refine pA1 ?_|refine pX1 ?_|refine pB1 ?_|exact True.intro)
   exact⟨rfl,by omega,fun b hb=>x1 b (by omega)⟩
 by_cases r2:dr=2
 ·by_cases f1:1≤fr
  case neg=>
   have e:dB P=false:=dB_f fun h=>fo _ fun hok=>by have:=((hok.1 h).2.2.2.2.2 k2).2.1 r2;omega
   rw[e]
   repeat (with_reducible first|(first|refine pI1 ?_|refine pS1 ?_);intros|refine pA1 ?_|refine pX1 ?_|refine pB1 ?_|exact True.intro)
   rename_i b1 H1 p1 g1 x1
   repeat (with_reducible first|(first|refine pI1 ?_|refine pS1 ?_);intros|refine pA1 ?_|refine pX1 ?_|refine pB1 ?_|exact True.intro)
   exact⟨rfl,by omega,fun b hb=>x1 b (by omega)⟩
  by_cases f2:fr≤65535
  ·have e:dB P=true:=dB_t (fo _ fun hok=>hok.2 ⟨by omega,by omega,by omega,by omega,fun h=>absurd h k2,fun _=>⟨d1,fun _=>⟨f1,f2⟩,fun h=>absurd r2 h⟩⟩)
   rw[e]
   repeat (with_reducible first|(first|refine pI1 ?_|refine pS1 ?_);intros|refine pA1 ?_|refine pX1 ?_|refine pB1 ?_|exact True.intro)
   rename_i b1 H1 p1 g1 x1
   repeat (with_reducible first|(first|refine pI1 ?_|refine pS1 ?_);intros|refine pA1 ?_|refine pX1 ?_|refine pB1 ?_|exact True.intro)
   exact⟨rfl,by omega,fun b hb=>x1 b (by omega)⟩
  ·have e:dB P=false:=dB_f fun h=>fo _ fun hok=>by have:=((hok.1 h).2.2.2.2.2 k2).2.1 r2;omega
   rw[e]
   repeat (with_reducible first|(first|refine pI1 ?_|refine pS1 ?_);intros|refine pA1 ?_|refine pX1 ?_|refine pB1 ?_|exact True.intro)
   rename_i b1 H1 p1 g1 x1
   repeat (with_reducible first|(first|refine pI1 ?_|refine pS1 ?_);intros|refine pA1 ?_|refine pX1 ?_|refine pB1 ?_|exact True.intro)
   exact⟨rfl,by omega,fun b hb=>x1 b (by omega)⟩
 ·by_cases f1:fr=0
  ·have e:dB P=true:=dB_t (fo _ fun hok=>hok.2 ⟨by omega,by omega,by omega,by omega,fun h=>absurd h k2,fun _=>⟨d1,fun h=>absurd h r2,fun _=>f1⟩⟩)
   rw[e]
   repeat (with_reducible first|(first|refine pI1 ?_|refine pS1 ?_);intros|refine pA1 ?_|refine pX1 ?_|refine pB1 ?_|exact True.intro)
   rename_i b1 H1 p1 g1 x1
   repeat (with_reducible first|(first|refine pI1 ?_|refine pS1 ?_);intros|refine pA1 ?_|refine pX1 ?_|refine pB1 ?_|exact True.intro)
   exact⟨rfl,by omega,fun b hb=>x1 b (by omega)⟩
  ·have e:dB P=false:=dB_f fun h=>fo _ fun hok=>f1 (((hok.1 h).2.2.2.2.2 k2).2.2 r2)
   rw[e]
   repeat (with_reducible first|(first|refine pI1 ?_|refine pS1 ?_);intros|refine pA1 ?_|refine pX1 ?_|refine pB1 ?_|exact True.intro)
   rename_i b1 H1 p1 g1 x1
   repeat (with_reducible first|(first|refine pI1 ?_|refine pS1 ?_);intros|refine pA1 ?_|refine pX1 ?_|refine pB1 ?_|exact True.intro)
   exact⟨rfl,by omega,fun b hb=>x1 b (by omega)⟩
theorem s_rports (hc:CfgM N H c h) (hN:N≤H.length) (hps:c.parts.length≤32) (hpo:c.ports.length≤10000000):WC F fX1n [.agg (c.cells h)] H fun v H'=>v=.c (.bool (dB c.okPorts))∧Xt H H':=by
 refine WC_start eX1n (by simp) ?_
 unfold cX1n Cfg.cells
 obtain⟨n,hn⟩:∃n,c.ports.length=n:=⟨_,rfl⟩
 obtain⟨np,hnp⟩:∃n,c.parts.length=n:=⟨_,rfl⟩
 rw[hn,hnp]
 rw[hnp] at hps
 rw[hn] at hpo
 have fin0:=zhd3 hc hn hnp
 clear hc hn hnp
 repeat (with_reducible first|(first|refine pI1 ?_|refine pS1 ?_);intros|refine pA1 ?_|refine pX1 ?_|refine pB1 ?_|exact True.intro)
 rename_i b1 H1 p1 g1 x1
 have fx:=zhd1 x1
 clear x1
 repeat (with_reducible first|(first|refine pI1 ?_|refine pS1 ?_);intros|refine pA1 ?_|refine pX1 ?_|refine pB1 ?_|exact True.intro)
 refine W_loop (fun m st=>∃ρ,∃i:Nat,∃Hk,st=⟨L 43 ρ,[],Hk⟩∧m=n-i∧i≤n∧ρ 1=.c (.ptr (some (b1,0)))∧ρ 3=.c (.int .i64 (i:Nat))∧H1.length≤Hk.length∧Hid ((∀d,d<H1.length→Hk[d]?=H1[d]?)∧∀j,j<i→c.okPort (c.port (j:Nat)))) n ⟨_,0,H1,rfl,rfl,by omega,zf,zf,Nat.le_refl _,fun _ _=>rfl,fun j hj=>by omega⟩ ?_
 rintro m st ⟨ρ,i,Hk,rfl,rfl,hi,e1,e3,lk,hall⟩
 unfold bX1n_6
 have k1:=(hall.1 b1 (by omega)).trans g1
 clear g1
 by_cases hin:i<n
 ·have hxt:(i:Int)<(n:Int):=by omega
  obtain⟨la,y,ea,hla,hld,hmem⟩:=fin0 _ fun hc hn _=>port_at hc (i:=i) (by omega)
  have yk:∀b,b<H.length→Hk[b]?=H[b]?:=fun b hb=>(hall.1 b (by omega)).trans (fx _ fun x1=>x1 b (by omega))
  rw[←yk la (by omega)] at hld
  have hokp:c.okPort (c.port (i:Nat))↔((c.port (i:Nat)).ok∧0≤(c.port (i:Nat)).part∧(c.port (i:Nat)).part<np):=fin0 _ fun _ _ hnp=>by rw[←hnp];exact Iff.rfl
  have hnot:¬c.okPort (c.port (i:Nat))→dB c.okPorts=false:=fun h=>dB_f fun h'=>h (h'.2 _ hmem)
  have hnext:c.okPort (c.port (i:Nat))→∀j,j<i+1→c.okPort (c.port (j:Nat)):=fun h j hj=>by
   by_cases e:j=i
   ·subst e;exact h
   ·exact hall.2 j (by omega)
  generalize c.okPort (c.port (i:Nat))=P at *
  generalize c.port (i:Nat)=p at *
  have hal:=fun Hx=>s_rAlone (H:=Hx) (p:=p)
  obtain⟨pa,kd,dr,sz,dp,fr⟩:=p
  generalize (Pt.mk pa kd dr sz dp fr).ok=K at *
  dsimp only [Pt.cells] at hld hokp hal
  have fin2:=zhd5 hnot hnext hall yk hokp
  clear hnot hnext hmem hall yk hokp
  rw[ea] at k1
  have fea:=zhd1 ea
  clear ea
  have halk:=hal Hk
  have fal:=zhd1 hal
  clear hal
  repeat (with_reducible first|(first|refine pI1 ?_|refine pS1 ?_);intros|refine pA1 ?_|refine pX1 ?_|refine pB1 ?_|exact True.intro)
  refine outM_call halk ?_
  rintro _ H2 ⟨rfl,l2,x2⟩
  clear halk
  have k2:=(x2 b1 (by omega)).trans k1
  rw[←x2 la (by omega)] at hld
  have hx:∀b,b<H.length→H2[b]?=H[b]?:=fun b hb=>by rw[x2 b (by omega)];exact fin2 _ fun _ _ _ yk _=>yk b hb
  have hld1:ldB H2[la]? (y+i * 6)=some (.int .i64 pa):=by
   unfold ldnB at hld
   unfold ldB
   generalize H2[la]?=q at *
   split at hld
   ·unfold sub at hld
    split at hld
    ·have h':=Option.some.inj hld
     have:=congrArg (fun(l:List Cell)=>l[0]?) h'
     simpa using this
    ·cases hld
   ·cases hld
  have f3:=zhd2 x2 hx
  clear x2 hx k1
  by_cases hK:K
  case neg=>
   have e:=fin2 _ fun hnot _ _ _ hokp=>hnot fun h=>hK (hokp.1 h).1
   rw[dB_f hK,e]
   clear hld
   repeat (with_reducible first|(first|refine pI1 ?_|refine pS1 ?_);intros|refine pA1 ?_|refine pX1 ?_|refine pB1 ?_|exact True.intro)
   exact⟨rfl,by omega,f3 _ fun _ hx=>hx⟩
  rw[dB_t hK]
  by_cases c1:pa<0
  ·have e:=fin2 _ fun hnot _ _ _ hokp=>hnot fun h=>by have:=(hokp.1 h).2;omega
   rw[e]
   clear hK hld
   repeat (with_reducible first|(first|refine pI1 ?_|refine pS1 ?_);intros|refine pA1 ?_|refine pX1 ?_|refine pB1 ?_|exact True.intro)
   exact⟨rfl,by omega,f3 _ fun _ hx=>hx⟩
  by_cases c2:(np:Int)≤pa
  ·have e:=fin2 _ fun hnot _ _ _ hokp=>hnot fun h=>by have:=(hokp.1 h).2;omega
   rw[e]
   clear hK hld
   repeat (with_reducible first|(first|refine pI1 ?_|refine pS1 ?_);intros|refine pA1 ?_|refine pX1 ?_|refine pB1 ?_|exact True.intro)
   exact⟨rfl,by omega,f3 _ fun _ hx=>hx⟩
  have fK:=zhd1 hK
  clear hK hld
  repeat (with_reducible first|(first|refine pI1 ?_|refine pS1 ?_);intros|refine pA1 ?_|refine pX1 ?_|refine pB1 ?_|exact True.intro)
  exact loopQ_n (n-(i+1)) (by omega) ⟨_,i+1,H2,rfl,rfl,by omega,zf,zf,by omega,f3 _ fun x2 _=>fin2 _ fun _ hnext hall _ hokp=>fK _ fun hK=>⟨fun d hd=>by rw[x2 d (by omega)];exact hall.1 d hd,hnext (hokp.2 ⟨hK,by omega,by omega⟩)⟩⟩
 ·obtain rfl:i=n:=by omega
  have hxt:¬(i:Int)<(i:Int):=by omega
  have f1:=zhd1 hall
  have hx:∀b,b<H.length→Hk[b]?=H[b]?:=fun b hb=>(hall.1 b (by omega)).trans (fx _ fun x1=>x1 b (by omega))
  have fh:=zhd1 hx
  clear hx
  by_cases c1:i≤64
  ·have e:dB c.okPorts=true:=dB_t (fin0 _ fun _ hn _=>⟨by omega,fun p hp=>by
    obtain⟨j,hj,rfl⟩:=List.mem_iff_getElem.1 hp
    have:=hall.2 j (by omega)
    rwa [show c.port (j:Nat)=c.ports[j] by simp[Cfg.port,hj]] at this⟩)
   rw[e]
   clear hall
   repeat (with_reducible first|(first|refine pI1 ?_|refine pS1 ?_);intros|refine pA1 ?_|refine pX1 ?_|refine pB1 ?_|exact True.intro)
   exact⟨rfl,by omega,fh _ fun h=>h⟩
  ·have e:dB c.okPorts=false:=dB_f fun h=>fin0 _ fun _ hn _=>by have:=h.1;omega
   rw[e]
   clear hall
   repeat (with_reducible first|(first|refine pI1 ?_|refine pS1 ?_);intros|refine pA1 ?_|refine pX1 ?_|refine pB1 ?_|exact True.intro)
   exact⟨rfl,by omega,fh _ fun h=>h⟩
end
end Go.Proofs.YtjcgdcadflplcaaDoor.AM.D21
namespace Go.Proofs.YtjcgdcadflplcaaDoor.AM.D21
open Go Go.Proofs.YtjcgdcadflplcaaDoor.AM Go.Proofs.YtjcgdcadflplcaaDoor.AM.C02
set_option maxHeartbeats 2000000
set_option maxRecDepth 100000
attribute [local go_sem] tn_add1 tn_sub1 put_all' nums_len sub12 sub3 sub6 rep6
section
variable {N:Nat} {H:Heap} {c:Cfg} {h:Hd}
theorem lk_view (hc:CfgM N H c h) (hpt:c.okPorts) {j:Nat} (hj:j<c.links.length) (hl:c.okLink (c.link j)):∃la y ad cd od,∃s o z p:Nat,∃lp yp kd dr dp fr lq yq nd,h.a11=some (la,y)∧la<N∧ldnB H[la]? (y+j * 3) 3=some [.int .i64 (s:Nat),.sl ad (c.link j).dests.length cd od,.int .i64 (o:Nat)]∧
  h.a10=some (lp,yp)∧lp<N∧ldnB H[lp]? (yp+s * 6) 6=some [.int .i64 (p:Nat),.int .i64 kd,.int .i64 dr,.int .i64 (z:Nat),.int .i64 dp,.int .i64 fr]∧h.a8=some (lq,yq)∧lq<N∧ldB H[lq]? (yq+p * 3)=some (.int .i64 nd)∧
  (c.part (c.port (c.link j).src).part).node=nd∧(c.link j).off=o∧(c.port (c.link j).src).size=z∧o+1+z≤64∧s<c.ports.length∧p<c.parts.length:=by
 obtain⟨⟨⟨q1,q2⟩,-,-,q3,q4⟩,-⟩:=hl
 obtain⟨s,hs⟩:∃s:Nat,(c.link j).src=s:=⟨(c.link j).src.toNat,by omega⟩
 rw[hs] at q1 q2 q4 ⊢
 obtain⟨la,y,ad,cd,od,h1,h2,h3,-⟩:=link_at hc hj
 obtain⟨lp,yp,h4,h5,h6,h7⟩:=port_at hc (i:=s) (by omega)
 obtain⟨h8,h9,h10⟩:=hpt.2 _ h7
 obtain⟨-,-,z1,z2,-⟩:=h8
 obtain⟨p,hp⟩:∃p:Nat,(c.port s).part=p:=⟨(c.port s).part.toNat,by omega⟩
 obtain⟨z,hz⟩:∃z:Nat,(c.port s).size=z:=⟨(c.port s).size.toNat,by omega⟩
 obtain⟨o,ho⟩:∃o:Nat,(c.link j).off=o:=⟨(c.link j).off.toNat,by omega⟩
 obtain⟨lq,yq,h11,h12,h13,-⟩:=part_at hc (i:=p) (by omega)
 rw[hs,ho] at h3
 unfold Pt.cells at h6
 rw[hp,hz] at h6
 exact⟨la,y,ad,cd,od,s,o,z,p,lp,yp,_,_,_,_,lq,yq,_,h1,h2,h3,h4,h5,h6,h11,h12,ld_of_ldn3 h13,by rw[hp],ho,hz,by omega,by omega,by omega⟩
theorem rl_pairs {Hk:Heap} {ρ:Env} {b1:Nat} (hc:CfgM N H c h) (hN:N≤H.length) (hpt:c.okPorts) (hn64:c.links.length≤64) (e1:ρ 1=.c (.ptr (some (b1,0)))) (k1:Hk[b1]?=some (.cells (c.cells h) false none)) (lk:H.length≤Hk.length) (yk:∀b,b<H.length→Hk[b]?=H[b]?)
  (hall:∀j,j<c.links.length→c.okLink (c.link j)) (hcn:∀n:Int,cn n (Cfg.used c.links)≤1):
  WO F oX1j_28 (L 227 ρ) Hk fun t H'=>W F none ((IC.block 6 bX1j_41.loop).seq ((IC.ops oX1j_42).seq IC.ret)) ⟨t,[],H'⟩ (callQ [(2,none)] fun v H'=>v=.c (.bool (dB c.okLinks))∧Xt H H'):=by
 unfold Cfg.cells at k1
 obtain⟨n,hn⟩:∃n,c.links.length=n:=⟨_,rfl⟩
 rw[hn] at hn64 k1
 have fin0:=zhd6 hc hpt hall hcn hn yk
 have lb1:=lt_of_get k1
 clear hc hpt hall hcn hn yk
 repeat (with_reducible first|(first|refine pI1 ?_|refine pS1 ?_);intros|refine pA1 ?_|refine pX1 ?_|refine pB1 ?_|exact True.intro)
 refine W_loop (fun m st=>∃ρ,∃k:Nat,∃Hl,st=⟨L 227 ρ,[],Hl⟩∧m=n-k∧k≤n∧ρ 1=.c (.ptr (some (b1,0)))∧ρ 9=.c (.int .i64 (k:Nat))∧Hk.length≤Hl.length∧Hid ((∀d,d<Hk.length→Hl[d]?=Hk[d]?)∧∀j l,l<j→j<k→c.apartL l j)) n ⟨_,0,Hk,rfl,rfl,by omega,zf,zf,Nat.le_refl _,fun _ _=>rfl,fun j l hl hj=>by omega⟩ ?_
 clear e1
 rintro m st ⟨ρ,k,Hl,rfl,rfl,hk,e1,e9,ll,hap⟩
 unfold bX1j_41
 have k2:=(hap.1 b1 lb1).trans k1
 by_cases hkn:k<n
 ·have hxt:(k:Int)<(n:Int):=by omega
  have f2:=zhd1 hap
  clear hap k1
  repeat (with_reducible first|(first|refine pI1 ?_|refine pS1 ?_);intros|refine pA1 ?_|refine pX1 ?_|refine pB1 ?_|exact True.intro)
  refine W_loop (fun m st=>∃ρ,∃l:Nat,∃Hm,st=⟨L 227 ρ,[],Hm⟩∧m=k-l∧l≤k∧ρ 1=.c (.ptr (some (b1,0)))∧ρ 9=.c (.int .i64 (k:Nat))∧ρ 10=.c (.int .i64 (l:Nat))∧Hl.length≤Hm.length∧Hid ((∀d,d<Hl.length→Hm[d]?=Hl[d]?)∧∀j,j<l→c.apartL j k)) k ⟨_,0,Hl,rfl,rfl,by omega,zf,zf,zf,Nat.le_refl _,fun _ _=>rfl,fun j hj=>by omega⟩ ?_
  clear e1 e9
  rintro m st ⟨ρ,l,Hm,rfl,rfl,hl,e1,e9,e10,lm,hal⟩
  unfold bX1j_39
  have k3:=(hal.1 b1 (by omega)).trans k2
  by_cases hlk:l<k
  ·have hxl:(l:Int)<(k:Int):=by omega
   have ym:∀b,b<H.length→Hm[b]?=H[b]?:=fun b hb=>(hal.1 b (by omega)).trans (f2 _ fun hap=>(hap.1 b (by omega)).trans (fin0 _ fun _ _ _ _ _ yk=>yk b hb))
   obtain⟨la,y,ad,cd,od,s,o,z,p,lp,yp,kd,dr,dp,fr,lq,yq,nd,ea,hla,v1,ep,hlp,v2,eq,hlq,v3,w1,w2,w3,w4,w5,w6⟩:=fin0 _ fun hc hpt hall _ hn _=>lk_view hc hpt (j:=k) (by omega) (hall k (by omega))
   obtain⟨la',y',ad',cd',od',s',o',z',p',lp',yp',kd',dr',dp',fr',lq',yq',nd',ea',-,v1',ep',-,v2',eq',-,v3',w1',w2',w3',w4',w5',w6'⟩:=fin0 _ fun hc hpt hall _ hn _=>lk_view hc hpt (j:=l) (by omega) (hall l (by omega))
   rw[ea] at ea'
   cases ea'
   rw[ep] at ep'
   cases ep'
   rw[eq] at eq'
   cases eq'
   rw[←ym la (by omega)] at v1 v1'
   rw[←ym lp (by omega)] at v2 v2'
   rw[←ym lq (by omega)] at v3 v3'
   have hapd:c.apartL l k↔¬(nd'=nd∧Cfg.meets (o':Nat) (o'+1+z':Nat) (o:Nat) (o+1+z:Nat)):=by
    unfold Cfg.apartL
    rw[w1,w2,w3,w1',w2',w3',show ((o'+1+z':Nat):Int)=(o':Int)+1+z' by omega,show ((o+1+z:Nat):Int)=(o:Int)+1+z by omega]
   have hnot:¬c.apartL l k→dB c.okLinks=false:=fun h=>dB_f fun h'=>h (h'.2.2.2 l k hlk (fin0 _ fun _ _ _ _ hn _=>by omega))
   have hnext:c.apartL l k→∀j,j<l+1→c.apartL j k:=fun h j hj=>by
    by_cases e:j=l
    ·subst e;exact h
    ·exact hal.2 j (by omega)
   generalize c.apartL l k=P at *
   obtain⟨dl,hdl⟩:∃dl,(c.link k).dests.length=dl:=⟨_,rfl⟩
   obtain⟨dl',hdl'⟩:∃dl,(c.link l).dests.length=dl:=⟨_,rfl⟩
   rw[hdl] at v1
   rw[hdl'] at v1'
   have hcom:Cfg.meets (o:Nat) (o+1+z:Nat) (o':Nat) (o'+1+z':Nat)↔Cfg.meets (o':Nat) (o'+1+z':Nat) (o:Nat) (o+1+z:Nat):=by unfold Cfg.meets;omega
   have fin2:=zhd6 hnot hnext hal ym hapd hcom
   clear hnot hnext hal ym hapd hcom w1 w2 w3 w1' w2' w3' hdl hdl'
   rw[ea,ep,eq] at k3
   have fea:=zhd3 ea ep eq
   clear ea ep eq k2
   have hmt:=fun Hx=>s_rmeet (H:=Hx) (a:=o) (b:=o+1+z) (c:=o') (d:=o'+1+z') (by omega)
   rw[show ((o'+1+z':Nat):Int)=(o':Int)+1+z' by omega,show ((o+1+z:Nat):Int)=(o:Int)+1+z by omega] at hmt
   have fmt:=zhd1 hmt
   clear hmt
   by_cases c1:nd=nd'
   ·subst c1
    repeat (with_reducible first|(first|refine pI1 ?_|refine pS1 ?_);intros|refine pA1 ?_|refine pX1 ?_|refine pB1 ?_|exact True.intro)
    rename_i b3 H3 p3 g3 x3 H4 l4 g4 x4 b5 H5 p5 g5 x5 H6 l6 g6 x6 b7 H7 p7 g7 x7 H8 l8 g8 x8 b9 H9 p9 g9 x9 Ha la_ ga xa
    have k3':=(xa b1 (by omega)).trans ((x9 b1 (by omega)).trans ((x8 b1 (by omega)).trans ((x7 b1 (by omega)).trans ((x6 b1 (by omega)).trans ((x5 b1 (by omega)).trans ((x4 b1 (by omega)).trans ((x3 b1 (by omega)).trans k3)))))))
    have hxa:∀d,d<Hm.length→Ha[d]?=Hm[d]?:=fun d hd=>by rw[xa d (by omega),x9 d (by omega),x8 d (by omega),x7 d (by omega),x6 d (by omega),x5 d (by omega),x4 d (by omega),x3 d (by omega)]
    have fh:=zhd1 hxa
    clear x3 x4 x5 x6 x7 x8 x9 xa g3 g4 g5 g6 g7 g8 g9 ga k3 v1 v1' v2 v2' v3 v3' hxa
    repeat (with_reducible first|(first|refine pI1 ?_|refine pS1 ?_);intros|refine pA1 ?_|refine pX1 ?_|refine pB1 ?_|exact True.intro)
    refine outM_call (fmt _ fun h=>h Ha) ?_
    rintro _ Ha ⟨rfl,rfl⟩
    by_cases hme:Cfg.meets o (o+1+z) o' (o'+1+z')
    ·have e:=fin2 _ fun hnot _ _ _ hapd hcom=>hnot fun hp=>(hapd.1 hp) ⟨rfl,hcom.1 (by rw[show ((o'+1+z':Nat):Int)=(o':Int)+1+z' by omega,show ((o+1+z:Nat):Int)=(o:Int)+1+z by omega];exact hme)⟩
     rw[dB_t hme,e]
     clear hme e
     repeat (with_reducible first|(first|refine pI1 ?_|refine pS1 ?_);intros|refine pA1 ?_|refine pX1 ?_|refine pB1 ?_|exact True.intro)
     exact⟨rfl,by omega,fun b hb=>by rw[fh _ fun h=>h b (by omega)];exact fin2 _ fun _ _ _ ym _ _=>ym b hb⟩
    ·rw[dB_f hme]
     have fm:=zhd1 hme
     clear hme
     repeat (with_reducible first|(first|refine pI1 ?_|refine pS1 ?_);intros|refine pA1 ?_|refine pX1 ?_|refine pB1 ?_|exact True.intro)
     exact loopQ_n (k-(l+1)) (by omega) ⟨_,l+1,Ha,rfl,rfl,by omega,zf,zf,zf,by omega,fm _ fun hme=>fh _ fun hxa=>fin2 _ fun _ hnext hal _ hapd hcom=>⟨fun d hd=>by rw[hxa d (by omega)];exact hal.1 d hd,hnext (hapd.2 fun h=>hme (by
      have:=hcom.2 h.2
      rwa [show ((o'+1+z':Nat):Int)=(o':Int)+1+z' by omega,show ((o+1+z:Nat):Int)=(o:Int)+1+z by omega] at this))⟩⟩
   ·repeat (with_reducible first|(first|refine pI1 ?_|refine pS1 ?_);intros|refine pA1 ?_|refine pX1 ?_|refine pB1 ?_|exact True.intro)
    rename_i b3 H3 p3 g3 x3 H4 l4 g4 x4 b5 H5 p5 g5 x5 H6 l6 g6 x6 b7 H7 p7 g7 x7 H8 l8 g8 x8 b9 H9 p9 g9 x9 Ha la_ ga xa
    have k3':=(xa b1 (by omega)).trans ((x9 b1 (by omega)).trans ((x8 b1 (by omega)).trans ((x7 b1 (by omega)).trans ((x6 b1 (by omega)).trans ((x5 b1 (by omega)).trans ((x4 b1 (by omega)).trans ((x3 b1 (by omega)).trans k3)))))))
    have hxa:∀d,d<Hm.length→Ha[d]?=Hm[d]?:=fun d hd=>by rw[xa d (by omega),x9 d (by omega),x8 d (by omega),x7 d (by omega),x6 d (by omega),x5 d (by omega),x4 d (by omega),x3 d (by omega)]
    have fh:=zhd1 hxa
    clear x3 x4 x5 x6 x7 x8 x9 xa g3 g4 g5 g6 g7 g8 g9 ga k3 v1 v1' v2 v2' v3 v3' hxa
    repeat (with_reducible first|(first|refine pI1 ?_|refine pS1 ?_);intros|refine pA1 ?_|refine pX1 ?_|refine pB1 ?_|exact True.intro)
    exact loopQ_n (k-(l+1)) (by omega) ⟨_,l+1,Ha,rfl,rfl,by omega,zf,zf,zf,by omega,fh _ fun hxa=>fin2 _ fun _ hnext hal _ hapd hcom=>⟨fun d hd=>by rw[hxa d (by omega)];exact hal.1 d hd,hnext (hapd.2 fun h=>c1 h.1.symm)⟩⟩
  ·obtain rfl:l=k:=by omega
   have hxl:¬(l:Int)<(l:Int):=by omega
   have fl:=zhd1 hal
   clear hal
   repeat (with_reducible first|(first|refine pI1 ?_|refine pS1 ?_);intros|refine pA1 ?_|refine pX1 ?_|refine pB1 ?_|exact True.intro)
   exact loopQ_n (n-(l+1)) (by omega) ⟨_,l+1,Hm,rfl,rfl,by omega,zf,zf,by omega,fl _ fun hal=>f2 _ fun hap=>⟨fun d hd=>by rw[hal.1 d (by omega)];exact hap.1 d hd,fun j q h1 h2=>by
    by_cases e:j=l
    ·subst e;exact hal.2 q h1
    ·exact hap.2 j q h1 (by omega)⟩⟩
 ·obtain rfl:k=n:=by omega
  have hxk:¬(k:Int)<(k:Int):=by omega
  have e:dB c.okLinks=true:=dB_t (fin0 _ fun _ _ hall hcn hn _=>⟨by omega,fun l hl=>by
   obtain⟨j,hj,rfl⟩:=List.mem_iff_getElem.1 hl
   have:=hall j hj
   rwa [show c.link j=c.links[j] by simp[Cfg.link,hj]] at this,hcn,fun j l h1 h2=>hap.2 l j h1 (by omega)⟩)
  rw[e]
  have fl:=zhd1 hap
  clear hap
  repeat (with_reducible first|(first|refine pI1 ?_|refine pS1 ?_);intros|refine pA1 ?_|refine pX1 ?_|refine pB1 ?_|exact True.intro)
  exact⟨rfl,by omega,fun b hb=>by rw[fl _ fun hap=>hap.1 b (by omega)];exact fin0 _ fun _ _ _ _ _ yk=>yk b hb⟩
end
end Go.Proofs.YtjcgdcadflplcaaDoor.AM.D21
namespace Go.Proofs.YtjcgdcadflplcaaDoor.AM.D21
open Go Go.Proofs.YtjcgdcadflplcaaDoor.AM Go.Proofs.YtjcgdcadflplcaaDoor.AM.C02
set_option maxHeartbeats 2000000
set_option maxRecDepth 100000
attribute [local go_sem] tn_add1 tn_sub1 put_all' nums_len sub12 sub3 sub6 rep6
section
variable {N:Nat} {H:Heap} {c:Cfg} {h:Hd}
theorem used_in:∀{i:Nat},i≤c.links.length→(∀j,j<i→c.okLink (c.link j))→∀x∈Cfg.used (c.links.take i),c.isP x
 |0,_,_,x,hx=>by simp[Cfg.used] at hx
 |i+1,hi,h,x,hx=>by
  rw[used_take (by omega)] at hx
  rcases List.mem_append.1 hx with hx|hx
  ·exact used_in (by omega) (fun j hj=>h j (by omega)) x hx
  ·have hl:=h i (by omega)
   rcases List.mem_cons.1 hx with rfl|hx
   ·exact hl.1.1
   ·exact(hl.2 x hx).1
theorem used_few {i:Nat} (hi:i≤c.links.length) (h:∀j,j<i→c.okLink (c.link j)) (hcn:∀n:Int,cn n (Cfg.used (c.links.take i))≤1):(Cfg.used (c.links.take i)).length≤c.ports.length:=by
 have h1:=rng_all (l:=Cfg.used (c.links.take i)) (n:=c.ports.length) fun x hx=>used_in hi h x hx
 have h2:=rng_few (l:=Cfg.used (c.links.take i)) c.ports.length fun k _=>hcn k
 omega
theorem rl_counts {Hk:Heap} {ρ:Env} {b1 nu:Nat} {ua:Option Ad} {uo:Bool} (hc:CfgM N H c h) (hN:N≤H.length) (hpt:c.okPorts) (hn64:c.links.length≤64) (e1:ρ 1=.c (.ptr (some (b1,0)))) (e3:ρ 3=.c (.sl ua nu nu uo)) (k1:Hk[b1]?=some (.cells (c.cells h) false none)) (lk:H.length≤Hk.length) (yk:∀b,b<H.length→Hk[b]?=H[b]?)
  (hall:∀j,j<c.links.length→c.okLink (c.link j)) (hu:Sl Hk 1 ua nu (nums (Cfg.used c.links))) (hnu:(Cfg.used c.links).length=nu) (hn6:nu≤64):
  WO F oX1j_22 (L 227 ρ) Hk fun t H'=>W F none ((IC.block 4 bX1j_27.loop).seq (((IC.ops oX1j_28).seq (IC.block 6 bX1j_41.loop)).seq ((IC.ops oX1j_42).seq IC.ret))) ⟨t,[],H'⟩ (callQ [(2,none)] fun v H'=>v=.c (.bool (dB c.okLinks))∧Xt H H'):=by
 have hpairs:∀ρ:Env,ρ 1=.c (.ptr (some (b1,0)))→(∀n:Int,cn n (Cfg.used c.links)≤1)→_:=fun ρ e hcn=>rl_pairs (ρ:=ρ) hc hN hpt hn64 e k1 lk yk hall hcn
 obtain⟨m,hm⟩:∃m,c.ports.length=m:=⟨_,rfl⟩
 have hm64:m≤64:=by have:=hpt.1;omega
 unfold Cfg.cells at k1
 rw[hm] at k1
 have hin:∀x∈Cfg.used c.links,c.isP x:=fun x hx=>used_in (c:=c) (Nat.le_refl _) hall x (by rw[List.take_length];exact hx)
 obtain⟨o28,ho⟩:∃o,o=oX1j_28:=⟨_,rfl⟩
 rw[←ho] at hpairs ⊢
 have hcb:∀x,cn x (Cfg.used c.links)≤nu:=fun x=>by rw[←hnu];exact List.countP_le_length
 have fin0:=zhd8 hpairs hu hnu hin ho hm yk hcb
 clear hc hpt hall hu hnu hin ho hm yk hpairs hcb
 repeat (with_reducible first|(first|refine pI1 ?_|refine pS1 ?_);intros|refine pA1 ?_|refine pX1 ?_|refine pB1 ?_|exact True.intro)
 refine W_loop (fun mm st=>∃ρ,∃k:Nat,st=⟨L 227 ρ,[],Hk⟩∧mm=m-k∧k≤m∧ρ 1=.c (.ptr (some (b1,0)))∧ρ 3=.c (.sl ua nu nu uo)∧ρ 8=.c (.int .i64 (k:Nat))∧∀j:Nat,j<k→cn (j:Int) (Cfg.used c.links)≤1) m ⟨_,0,rfl,rfl,by omega,zf,zf,zf,fun j hj=>by omega⟩ ?_
 clear e1 e3
 rintro mm st ⟨ρ,k,rfl,rfl,hk,e1,e3,e8,hall⟩
 unfold bX1j_27
 have fa:=zhd1 hall
 clear hall
 by_cases hkm:k<m
 ·have hxt:(k:Int)<(m:Int):=by omega
  have hcnt:=fin0 _ fun _ hu hnu _ _ _ _ _=>s_rcount (c:=nu) (o:=uo) (x:=(k:Nat)) (by omega) hnu hu
  have hcb:=fin0 _ fun _ _ _ _ _ _ _ hcb=>hcb (k:Nat)
  have hno:1<cn (k:Int) (Cfg.used c.links)→dB c.okLinks=false:=fun h=>dB_f fun h'=>by have:=h'.2.2.1 k;omega
  have hyes:cn (k:Int) (Cfg.used c.links)≤1→∀j:Nat,j<k+1→cn (j:Int) (Cfg.used c.links)≤1:=fun h j hj=>by
   by_cases e:j=k
   ·subst e;exact h
   ·exact fa _ fun hall=>hall j (by omega)
  generalize cn (k:Int) (Cfg.used c.links)=q at *
  have fh:=zhd2 hno hyes
  clear hno hyes
  repeat (with_reducible first|(first|refine pI1 ?_|refine pS1 ?_);intros|refine pA1 ?_|refine pX1 ?_|refine pB1 ?_|exact True.intro)
  refine outM_call hcnt ?_
  rintro _ Hk ⟨rfl,rfl⟩
  clear hcnt
  by_cases hq:1<q
  ·have e:=fh _ fun hno _=>hno hq
   rw[e]
   repeat (with_reducible first|(first|refine pI1 ?_|refine pS1 ?_);intros|refine pA1 ?_|refine pX1 ?_|refine pB1 ?_|exact True.intro)
   exact⟨rfl,by omega,fin0 _ fun _ _ _ _ _ _ yk _=>yk⟩
  ·have hy:=fh _ fun _ hyes=>hyes (by omega)
   have fy:=zhd1 hy
   clear hy
   repeat (with_reducible first|(first|refine pI1 ?_|refine pS1 ?_);intros|refine pA1 ?_|refine pX1 ?_|refine pB1 ?_|exact True.intro)
   exact loopQ_n (m-(k+1)) (by omega) ⟨_,k+1,rfl,rfl,by omega,zf,zf,zf,fy _ fun h=>h⟩
 ·obtain rfl:k=m:=by omega
  have hxt:¬(k:Int)<(k:Int):=by omega
  repeat (with_reducible first|(first|refine pI1 ?_|refine pS1 ?_);intros|refine pA1 ?_|refine pX1 ?_|refine pB1 ?_|exact True.intro)
  refine fin0 _ fun hpairs _ _ hin _ hm _ _=>hpairs _ zf fun n=>?_
  by_cases hn:c.isP n
  ·obtain⟨j,rfl⟩:∃j:Nat,n=j:=⟨n.toNat,by have:=hn.1;omega⟩
   exact fa _ fun hall=>hall j (by have:=hn.2;omega)
  ·have:¬0<cn n (Cfg.used c.links):=fun h=>hn (hin n (cn_pos.1 h))
   omega
end
end Go.Proofs.YtjcgdcadflplcaaDoor.AM.D21
namespace Go.Proofs.YtjcgdcadflplcaaDoor.AM.D21
open Go Go.Proofs.YtjcgdcadflplcaaDoor.AM Go.Proofs.YtjcgdcadflplcaaDoor.AM.C02
set_option maxHeartbeats 2000000
set_option maxRecDepth 100000
attribute [local go_sem] tn_add1 tn_sub1 put_all' nums_len sub12 sub3 sub6 rep6
section
variable {N:Nat} {H:Heap} {c:Cfg} {h:Hd}
theorem ld6 {k:Option Blk} {o:Nat} {a b d w3 f g:Cell} (h:ldnB k o 6=some [a,b,d,w3,f,g]):ldB k (o+2)=some d∧ldB k (o+3)=some w3∧ldB k (o+1)=some b:=by
 match k,h with
 |some (.cells cs ro gg),h=>
  have h:sub cs o 6=some [a,b,d,w3,f,g]:=h
  unfold sub at h
  split at h
  ·have e:=Option.some.inj h
   have e0:((cs.drop o).take 6)[1]?=some b:=by rw[e];rfl
   have e1:((cs.drop o).take 6)[2]?=some d:=by rw[e];rfl
   have e2:((cs.drop o).take 6)[3]?=some w3:=by rw[e];rfl
   simp at e0 e1 e2
   exact⟨by simpa [ldB] using e1,by simpa [ldB] using e2,by simpa [ldB] using e0⟩
  ·cases h
theorem s_rlinks (hc:CfgM N H c h) (hN:N≤H.length) (hpt:c.okPorts) (hdest:∀l∈c.links,l.dests.length≤1048576):WC F fX1j [.agg (c.cells h)] H fun v H'=>v=.c (.bool (dB c.okLinks))∧Xt H H':=by
 refine WC_start eX1j (by simp) ?_
 unfold cX1j
 have hm64:c.ports.length≤64:=hpt.1
 by_cases hbig:64<c.links.length
 ·have e:dB c.okLinks=false:=dB_f fun h=>by have:=h.1;omega
  rw[e]
  clear hc hdest hpt
  unfold Cfg.cells
  repeat (with_reducible first|(first|refine pI1 ?_|refine pS1 ?_);intros|refine pA1 ?_|refine pX1 ?_|refine pB1 ?_|exact True.intro)
  rename_i b1 H1 p1 g1 x1
  repeat (with_reducible first|(first|refine pI1 ?_|refine pS1 ?_);intros|refine pA1 ?_|refine pX1 ?_|refine pB1 ?_|exact True.intro)
  exact⟨rfl,by omega,fun b hb=>x1 b (by omega)⟩
 have hcounts:=fun(Hk:Heap) (ρ:Env) (b1 nu:Nat) (ua:Option Ad) (uo:Bool) e1 e3 k1 lk yk hall hu hnu hn6=>rl_counts (Hk:=Hk) (ρ:=ρ) (b1:=b1) (nu:=nu) (ua:=ua) (uo:=uo) hc hN hpt (by omega) e1 e3 k1 lk yk hall hu hnu hn6
 obtain⟨o22,ho⟩:∃o,o=oX1j_22:=⟨_,rfl⟩
 rw[←ho] at hcounts ⊢
 have his:=fun(Hx:Heap) (n:Int)=>s_ris (H:=Hx) (c:=c) (h:=h) (n:=n)
 obtain⟨a1,c1,a8,c8,a9,c9,a10,c10,a11,c11,o1,o8,o9,o10,o11⟩:=h
 unfold Cfg.cells at hcounts his ⊢
 dsimp only at hcounts his ⊢
 obtain⟨n,hn⟩:∃n,c.links.length=n:=⟨_,rfl⟩
 obtain⟨m,hm⟩:∃m,c.ports.length=m:=⟨_,rfl⟩
 rw[hn] at hbig ⊢
 rw[hm] at hm64 ⊢
 rw[hn,hm] at his
 have fin0:=zhd7 hc hpt hdest hcounts hn hm ho
 have fis:=zhd1 his
 clear hc hpt hdest hcounts hn hm ho his
 repeat (with_reducible first|(first|refine pI1 ?_|refine pS1 ?_);intros|refine pA1 ?_|refine pX1 ?_|refine pB1 ?_|exact True.intro)
 rename_i b1 H1 p1 g1 x1
 have fx:=zhd1 x1
 clear x1
 repeat (with_reducible first|(first|refine pI1 ?_|refine pS1 ?_);intros|refine pA1 ?_|refine pX1 ?_|refine pB1 ?_|exact True.intro)
 refine W_loop (fun mm st=>∃ρ,∃i nu:Nat,∃uo Hk ua,st=⟨L 227 ρ,[],Hk⟩∧mm=n-i∧i≤n∧ρ 1=.c (.ptr (some (b1,0)))∧ρ 3=.c (.sl ua nu nu uo)∧ρ 4=.c (.int .i64 (i:Nat))∧H1.length≤Hk.length∧nu≤64∧Hid ((∀d,d<H1.length→Hk[d]?=H1[d]?)∧Gr H1.length Hk 1 ua nu uo (nums (Cfg.used (c.links.take i)))∧∀j,j<i→c.okLink (c.link j))) n ⟨_,0,0,false,H1,none,rfl,rfl,by omega,zf,zf,zf,Nat.le_refl _,by omega,fun _ _=>rfl,Gr.none _ _ _,fun j hj=>by omega⟩ ?_
 rintro mm st ⟨ρ,i,nu,uo,Hk,ua,rfl,rfl,hi,e1,e3,e4,lk,hnu,hall⟩
 unfold bX1j_21
 have k1:=(hall.1 b1 (by omega)).trans g1
 by_cases hin:i<n
 ·have hxt:(i:Int)<(n:Int):=by omega
  have yk:∀b,b<H.length→Hk[b]?=H[b]?:=fun b hb=>(hall.1 b (by omega)).trans (fx _ fun x1=>x1 b (by omega))
  obtain⟨la,y,ad,cd,od,ea,hla,v1,hsl,hsN,hmem,-⟩:=fin0 _ fun hc _ _ _ hn _ _=>link_at hc (i:=i) (by omega)
  rw[←yk la (by omega)] at v1
  have hdl:=fin0 _ fun _ _ hdest _ _ _ _=>hdest _ hmem
  have hport:∀s:Nat,s<m→∃lp yp,a10=some (lp,yp)∧lp<N∧ldnB H[lp]? (yp+s * 6) 6=some (c.port (s:Nat)).cells:=fun s hs=>fin0 _ fun hc _ _ _ _ hm _=>by
   obtain⟨lp,yp,q1,q2,q3,-⟩:=port_at hc (i:=s) (by omega)
   exact⟨lp,yp,q1,q2,q3⟩
  have hpsz:∀s:Nat,s<m→1≤(c.port (s:Nat)).size∧(c.port (s:Nat)).size≤32:=fun s hs=>fin0 _ fun hc hpt _ _ _ hm _=>by
   obtain⟨-,-,-,-,-,q4⟩:=port_at hc (i:=s) (by omega)
   have:=(hpt.2 _ q4).1
   exact⟨this.2.2.1,this.2.2.2.1⟩
  have fsz:=zhd1 hpsz
  clear hpsz
  have hnosrc:¬c.okSrc (c.link i)→dB c.okLinks=false:=fun h'=>dB_f (no_src (fin0 _ fun _ _ _ _ hn _ _=>by omega) (.inl h'))
  have hosrc:c.okSrc (c.link i)↔((0≤(c.link i).src∧(c.link i).src<(m:Int))∧(c.port (c.link i).src).dir=1∧(c.link i).dests≠[]∧0≤(c.link i).off∧(c.link i).off≤63-(c.port (c.link i).src).size):=by
   unfold Cfg.okSrc Cfg.isP
   rw[fin0 _ fun _ _ _ _ _ hm _=>hm]
  have hseq:c.link i=c.link i:=rfl
  generalize hlk:c.link i=L0 at *
  obtain⟨src,dests,off⟩:=L0
  dsimp only at v1 hsl hdl hosrc
  obtain⟨dl,hdl'⟩:∃dl,dests.length=dl:=⟨_,rfl⟩
  rw[hdl'] at v1 hsl hdl
  have hds:dests≠[]↔dl≠0:=by rw[←hdl'];cases dests<;>simp
  rw[hds] at hosrc
  have f1:=zhd10 hall yk hsl hsN hmem hport hnosrc hosrc hlk hdl'
  clear hall yk hsl hsN hmem hport hnosrc hosrc hlk hdl' hds hseq
  have hbad:¬((0≤src∧src<(m:Int))∧(c.port src).dir=1∧dl≠0∧0≤off∧off≤63-(c.port src).size)→dB c.okLinks=false:=fun h'=>f1 _ fun _ _ _ _ _ _ hnosrc hosrc _ _=>hnosrc fun h''=>h' (hosrc.1 h'')
  have fb:=zhd1 hbad
  clear hbad
  have ea:a11=some (la,y):=ea
  subst ea
  repeat (with_reducible first|(first|refine pI1 ?_|refine pS1 ?_);intros|refine pA1 ?_|refine pX1 ?_|refine pB1 ?_|exact True.intro)
  rename_i b3 H3 p3 g3 x3 H4 l4 g4 x4
  have k1':=(x4 b1 (by omega)).trans ((x3 b1 (by omega)).trans k1)
  have hx4:∀d,d<Hk.length→H4[d]?=Hk[d]?:=fun d hd=>by rw[x4 d (by omega),x3 d (by omega)]
  have f4:=zhd1 hx4
  clear x3 x4 hx4 k1 v1 g3
  repeat (with_reducible first|(first|refine pI1 ?_|refine pS1 ?_);intros|refine pA1 ?_|refine pX1 ?_|refine pB1 ?_|exact True.intro)
  refine outM_call (fis _ fun h=>h H4 src) ?_
  rintro _ H5 ⟨rfl,l5,x5⟩
  have k5:=(x5 b1 (by omega)).trans k1'
  have g5:=(x5 b3 (by omega)).trans g4
  have hxe:∀b,b<H.length→H5[b]?=H[b]?:=fun b hb=>by rw[x5 b (by omega),f4 _ fun h=>h b (by omega)];exact f1 _ fun _ yk _ _ _ _ _ _ _ _=>yk b hb
  have f5:=zhd2 x5 hxe
  clear x5 hxe k1' g4
  by_cases z1:0≤src∧src<(m:Int)
  case neg=>
   have e:=fb _ fun h=>h fun h'=>z1 h'.1
   rw[decide_eq_false z1,e]
   repeat (with_reducible first|(first|refine pI1 ?_|refine pS1 ?_);intros|refine pA1 ?_|refine pX1 ?_|refine pB1 ?_|exact True.intro)
   exact⟨rfl,by omega,f5 _ fun _ h=>h⟩
  rw[decide_eq_true z1]
  obtain⟨z11,z12⟩:=z1
  obtain⟨s,rfl⟩:∃s:Nat,src=s:=⟨src.toNat,by omega⟩
  obtain⟨lp,yp,ep,hlp,v2⟩:=f1 _ fun _ _ _ _ _ hport _ _ _ _=>hport s (by omega)
  rw[←f5 _ fun _ h=>h lp (by omega)] at v2
  have hsz:=fsz _ fun h=>h s (by omega)
  generalize hps:c.port (s:Nat)=ps at *
  obtain⟨pa,kd,dr,sz,dp,fr⟩:=ps
  dsimp only [Pt.cells] at v2 hsz
  obtain⟨sz1,sz2⟩:=hsz
  have ep:a10=some (lp,yp):=ep
  subst ep
  have fps:=zhd1 hps
  clear hps
  have hbad:¬(dr=1∧dl≠0∧0≤off∧off≤63-sz)→dB c.okLinks=false:=fun h=>fb _ fun hb=>hb fun h'=>h h'.2
  have fb2:=zhd1 hbad
  clear hbad fb
  have hdir:ldB H5[lp]? (yp+s * 6+2)=some (.int .i64 dr)∧ldB H5[lp]? (yp+s * 6+3)=some (.int .i64 sz)∧ldB H5[lp]? (yp+s * 6+1)=some (.int .i64 kd):=ld6 v2
  obtain⟨v21,v22,v23⟩:=hdir
  have fv:=zhd4 v2 v21 v22 v23
  clear v2 v23
  by_cases z2:dr=1
  case neg=>
   have e:=fb2 _ fun h=>h fun h'=>z2 h'.1
   rw[e]
   repeat (with_reducible first|(first|refine pI1 ?_|refine pS1 ?_);intros|refine pA1 ?_|refine pX1 ?_|refine pB1 ?_|exact True.intro)
   exact⟨rfl,by omega,f5 _ fun _ h=>h⟩
  by_cases z3:dl=0
  ·have e:=fb2 _ fun h=>h fun h'=>h'.2.1 z3
   have fz:=zhd1 z3
   subst z2
   subst z3
   rw[e]
   repeat (with_reducible first|(first|refine pI1 ?_|refine pS1 ?_);intros|refine pA1 ?_|refine pX1 ?_|refine pB1 ?_|exact True.intro)
   exact⟨rfl,by omega,f5 _ fun _ h=>h⟩
  have z3':¬(dl:Int)=0:=by omega
  by_cases z4:off<0
  ·have e:=fb2 _ fun h=>h fun h'=>by omega
   rw[e]
   subst z2
   repeat (with_reducible first|(first|refine pI1 ?_|refine pS1 ?_);intros|refine pA1 ?_|refine pX1 ?_|refine pB1 ?_|exact True.intro)
   exact⟨rfl,by omega,f5 _ fun _ h=>h⟩
  by_cases z5:64<off
  ·have e:=fb2 _ fun h=>h fun h'=>by omega
   rw[e]
   subst z2
   repeat (with_reducible first|(first|refine pI1 ?_|refine pS1 ?_);intros|refine pA1 ?_|refine pX1 ?_|refine pB1 ?_|exact True.intro)
   exact⟨rfl,by omega,f5 _ fun _ h=>h⟩
  by_cases z6:64<off+1+sz
  ·have e:=fb2 _ fun h=>h fun h'=>by omega
   rw[e]
   subst z2
   repeat (with_reducible first|(first|refine pI1 ?_|refine pS1 ?_);intros|refine pA1 ?_|refine pX1 ?_|refine pB1 ?_|exact True.intro)
   exact⟨rfl,by omega,f5 _ fun _ h=>h⟩
  subst z2
  have hsrc:c.okSrc (c.link i):=f1 _ fun _ _ _ _ _ _ _ hosrc hlk _=>by rw[hlk];exact hosrc.2 ⟨⟨z11,z12⟩,rfl,z3,by omega,by show off≤63-sz;omega⟩
  have fsrc:=zhd1 hsrc
  clear hsrc fb2
  repeat (with_reducible first|(first|refine pI1 ?_|refine pS1 ?_);intros|refine pA1 ?_|refine pX1 ?_|refine pB1 ?_|exact True.intro)
  rename_i b7 H7 p7 g7 x7
  have hx7:∀d,d<Hk.length→H7[d]?=Hk[d]?:=fun d hd=>by rw[x7 d (by omega),f5 _ fun x5 _=>x5 d (by omega)];exact f4 _ fun h=>h d hd
  have hgr:=f1 _ fun hall _ _ _ _ _ _ _ _ _=>hall.2.1.keepX (H':=H7) hx7
  have haw:away ua b3:=f1 _ fun hall _ _ _ _ _ _ _ _ _ x e=>by have:=(hall.2.1.lt x e).2;omega
  have k7:=(x7 b1 (by omega)).trans k5
  have g37:=(x7 b3 (by omega)).trans g5
  refine outM_appG (j:=1) hgr (by omega) (Sl.blk g7 rfl) (by omega) (by omega) ?_
  intro a' H8 q1 q2 q3 q4 q5
  have k8:=(q3 b1 (by omega)).trans k7
  have g8:=(q4 b3 (by omega) haw).trans g37
  rw[show nums (Cfg.used (List.take i c.links))++[Cell.int .i64 (s:Nat)]=nums (Cfg.used (List.take i c.links)++((s:Int) :: dests.take 0)) by rw[nums_app];rfl] at q1
  have h8:∀d,d<H1.length→H8[d]?=H1[d]?:=fun d hd=>by rw[q3 d hd,hx7 d (by omega)];exact f1 _ fun hall _ _ _ _ _ _ _ _ _=>hall.1 d hd
  have haw':=q5 b3 (by omega)
  have f8:=zhd3 q1 h8 haw'
  clear hgr haw k7 g37 x7 g7 hx7 q1 q3 q4 q5 h8 haw' k5 g5 v21 v22 fv
  obtain⟨⟨da,dz⟩,had⟩:=f1 _ fun _ _ hsl _ _ _ _ _ _ _=>hsl.is_some (by omega)
  subst had
  repeat (with_reducible first|(first|refine pI1 ?_|refine pS1 ?_);intros|refine pA1 ?_|refine pX1 ?_|refine pB1 ?_|exact True.intro)
  refine W_loop (fun mm st=>∃ρ,∃k:Nat,∃oo Hm aa,st=⟨L 227 ρ,[],Hm⟩∧mm=dl-k∧k≤dl∧ρ 1=.c (.ptr (some (b1,0)))∧ρ 3=.c (.sl aa (nu+1+k) (nu+1+k) oo)∧ρ 4=.c (.int .i64 (i:Nat))∧ρ 5=.c (.ptr (some (b3,0)))∧ρ 6=.c (.int .i64 (k:Nat))∧H8.length≤Hm.length∧
   Hid ((∀d,d<H1.length→Hm[d]?=H1[d]?)∧Hm[b3]?=H8[b3]?∧away aa b3∧Gr H1.length Hm 1 aa (nu+1+k) oo (nums (Cfg.used (List.take i c.links)++((s:Int) :: dests.take k)))∧∀j,j<k→c.okDest (s:Nat) (gn dests j))) dl ⟨_,0,true,H8,a',rfl,rfl,by omega,zf,zf,zf,zf,zf,Nat.le_refl _,f8 _ fun q1 h8 haw'=>⟨h8,rfl,haw',q1,fun j hj=>by omega⟩⟩ ?_
  clear e1 e3 e4
  rintro mm st ⟨ρ,k,oo,Hm,aa,rfl,rfl,hk,e1,e3,e4,e5,e6,lm,hall⟩
  unfold bX1j_17
  have km:=(hall.1 b1 (by omega)).trans g1
  have gm:=hall.2.1.trans g8
  by_cases hkd:k<dl
  ·have hxk:(k:Int)<(dl:Int):=by omega
   have ym:∀b,b<H.length→Hm[b]?=H[b]?:=fun b hb=>(hall.1 b (by omega)).trans (fx _ fun x1=>x1 b (by omega))
   have hld:=f1 _ fun _ _ hsl _ _ _ _ _ _ hdl'=>hsl.gn hdl' hkd
   have hda:da<N:=f1 _ fun _ _ _ hsN _ _ _ _ _ _=>hsN _ _ rfl
   rw[←ym da (by omega)] at hld
   dsimp only at hld
   have hbad:¬c.okDest (s:Nat) (gn dests k)→dB c.okLinks=false:=fun h=>dB_f (no_dest (i:=i) (k:=k) (fin0 _ fun _ _ _ _ hn _ _=>by omega) (f1 _ fun _ _ _ _ _ _ _ _ hlk hdl'=>by rw[hlk];show k<dests.length;omega) (.inl (f1 _ fun _ _ _ _ _ _ _ _ hlk _=>by rw[hlk];exact h)))
   have hnext:c.okDest (s:Nat) (gn dests k)→∀j,j<k+1→c.okDest (s:Nat) (gn dests j):=fun h j hj=>by
    by_cases e:j=k
    ·subst e;exact h
    ·exact hall.2.2.2.2 j (by omega)
   have hod:c.okDest (s:Nat) (gn dests k)↔((0≤gn dests k∧gn dests k<(m:Int))∧(c.port (gn dests k)).dir=2∧(c.port (gn dests k)).kind=kd∧(c.port (gn dests k)).size=sz):=by
    unfold Cfg.okDest Cfg.isP
    rw[fin0 _ fun _ _ _ _ _ hm _=>hm,fps _ fun h=>h]
   have htk:(s:Int) :: dests.take (k+1)=((s:Int) :: dests.take k)++[gn dests k]:=f1 _ fun _ _ _ _ _ _ _ _ _ hdl'=>by
    have e1:gn dests k=dests[k]'(by omega):=by simp[gn,show k<dests.length by omega]
    rw[List.take_succ_eq_append_getElem (by omega),e1];rfl
   generalize c.okDest (s:Nat) (gn dests k)=P at *
   generalize gn dests k=u at *
   obtain⟨lp1,v2⟩:=f1 _ fun _ _ _ _ _ hport _ _ _ _=>hport s (by omega)
   obtain⟨yp1,ep1,-,v2⟩:=v2
   cases ep1
   rw[←ym lp (by omega),fps _ fun h=>h] at v2
   obtain⟨w1,w2,w3⟩:=ld6 v2
   have f9:=zhd6 hall ym hbad hnext hod htk
   clear hall ym hbad hnext hod htk v2 k8 g8
   repeat (with_reducible first|(first|refine pI1 ?_|refine pS1 ?_);intros|refine pA1 ?_|refine pX1 ?_|refine pB1 ?_|exact True.intro)
   refine outM_call (fis _ fun h=>h Hm u) ?_
   rintro _ Hn ⟨rfl,ln,xn⟩
   have kn:=(xn b1 (by omega)).trans km
   have gn':=(xn b3 (by omega)).trans gm
   rw[←xn lp (by omega)] at w1 w2 w3
   have fn:=zhd1 xn
   clear xn km gm
   by_cases y1:0≤u∧u<(m:Int)
   case neg=>
    have e:=f9 _ fun _ _ hbad _ hod _=>hbad fun h=>y1 (hod.1 h).1
    rw[decide_eq_false y1,e]
    clear w1 w2 w3
    repeat (with_reducible first|(first|refine pI1 ?_|refine pS1 ?_);intros|refine pA1 ?_|refine pX1 ?_|refine pB1 ?_|exact True.intro)
    exact⟨rfl,by omega,fun b hb=>by rw[fn _ fun xn=>xn b (by omega)];exact f9 _ fun _ ym _ _ _ _=>ym b hb⟩
   rw[decide_eq_true y1]
   obtain⟨y11,y12⟩:=y1
   obtain⟨u,rfl⟩:∃w:Nat,u=w:=⟨u.toNat,by omega⟩
   obtain⟨lp2,yp2,ep2,hlp2,v3⟩:=f1 _ fun _ _ _ _ _ hport _ _ _ _=>hport u (by omega)
   cases ep2
   rw[←f9 _ fun _ ym _ _ _ _=>ym lp (by omega),←fn _ fun xn=>xn lp (by omega)] at v3
   generalize hpu:c.port (u:Nat)=pu at *
   obtain⟨upa,ukd,udr,usz,udp,ufr⟩:=pu
   obtain⟨w4,w5,w6⟩:=ld6 v3
   have fpu:=zhd1 hpu
   clear hpu v3
   dsimp only at w4 w5 w6
   have hob:¬(udr=2∧ukd=kd∧usz=sz)→dB c.okLinks=false:=fun h=>f9 _ fun _ _ hbad _ hod _=>hbad fun h'=>h (hod.1 h').2
   have fob:=zhd1 hob
   clear hob
   by_cases y2:udr=2
   case neg=>
    have e:=fob _ fun h=>h fun h'=>y2 h'.1
    rw[e]
    clear w1 w2 w3 w5 w6
    repeat (with_reducible first|(first|refine pI1 ?_|refine pS1 ?_);intros|refine pA1 ?_|refine pX1 ?_|refine pB1 ?_|exact True.intro)
    exact⟨rfl,by omega,fun b hb=>by rw[fn _ fun xn=>xn b (by omega)];exact f9 _ fun _ ym _ _ _ _=>ym b hb⟩
   by_cases y3:ukd=kd
   case neg=>
    have e:=fob _ fun h=>h fun h'=>y3 h'.2.1
    rw[e]
    subst y2
    repeat (with_reducible first|(first|refine pI1 ?_|refine pS1 ?_);intros|refine pA1 ?_|refine pX1 ?_|refine pB1 ?_|exact True.intro)
    exact⟨rfl,by omega,fun b hb=>by rw[fn _ fun xn=>xn b (by omega)];exact f9 _ fun _ ym _ _ _ _=>ym b hb⟩
   by_cases y4:usz=sz
   case neg=>
    have e:=fob _ fun h=>h fun h'=>y4 h'.2.2
    rw[e]
    subst y2
    subst y3
    repeat (with_reducible first|(first|refine pI1 ?_|refine pS1 ?_);intros|refine pA1 ?_|refine pX1 ?_|refine pB1 ?_|exact True.intro)
    exact⟨rfl,by omega,fun b hb=>by rw[fn _ fun xn=>xn b (by omega)];exact f9 _ fun _ ym _ _ _ _=>ym b hb⟩
   have hP:=f9 _ fun _ _ _ hnext hod _=>hnext (hod.2 ⟨⟨y11,y12⟩,y2,y3,y4⟩)
   have fP:=zhd1 hP
   clear hP fob
   subst y2
   subst y3
   subst y4
   repeat (with_reducible first|(first|refine pI1 ?_|refine pS1 ?_);intros|refine pA1 ?_|refine pX1 ?_|refine pB1 ?_|exact True.intro)
   rename_i b9 H9 p9 g9 x9
   have hx9:∀d,d<Hm.length→H9[d]?=Hm[d]?:=fun d hd=>by rw[x9 d (by omega)];exact fn _ fun xn=>xn d hd
   have hgr:=f9 _ fun hall _ _ _ _ _=>hall.2.2.2.1.keepX (H':=H9) hx9
   have haw:away aa b3:=f9 _ fun hall _ _ _ _ _=>hall.2.2.1
   refine outM_appG (j:=1) hgr (by omega) (Sl.blk g9 rfl) (by omega) (by omega) ?_
   intro a2 Ha r1 r2 r3 r4 r5
   have hb3:Ha[b3]?=H8[b3]?:=by rw[r4 b3 (by omega) haw,hx9 b3 (by omega)];exact f9 _ fun hall _ _ _ _ _=>hall.2.1
   rw[show nums (Cfg.used (List.take i c.links)++(s:Int) :: List.take k dests)++[Cell.int .i64 (u:Nat)]=nums (Cfg.used (List.take i c.links)++((s:Int) :: dests.take (k+1))) by rw[f9 _ fun _ _ _ _ _ htk=>htk,←List.append_assoc,nums_app _ [(u:Int)]];rfl] at r1
   have fr:=zhd5 r1 r3 hx9 hb3 r5
   clear r1 r3 r4 r5 hx9 hb3 hgr haw x9 g9
   repeat (with_reducible first|(first|refine pI1 ?_|refine pS1 ?_);intros|refine pA1 ?_|refine pX1 ?_|refine pB1 ?_|exact True.intro)
   exact loopQ_n (dl-(k+1)) (by omega) ⟨_,k+1,true,Ha,a2,rfl,rfl,by omega,zf,zf,zf,zf,zf,by omega,fr _ fun r1 r3 hx9 hb3 r5=>⟨fun d hd=>by rw[r3 d hd,hx9 d (by omega)];exact f9 _ fun hall _ _ _ _ _=>hall.1 d hd,hb3,r5 b3 (by omega),r1,fP _ fun h=>h⟩⟩
  ·obtain rfl:k=dl:=by omega
   have hxk:¬(k:Int)<(k:Int):=by omega
   have hU:Cfg.used (c.links.take (i+1))=Cfg.used (c.links.take i)++((s:Int) :: dests.take k):=f1 _ fun _ _ _ _ _ _ _ _ hlk hdl'=>by
    rw[used_take (fin0 _ fun _ _ _ _ hn _ _=>by omega),hlk,←hdl',List.take_length]
   have hok1:∀j,j<i+1→c.okLink (c.link j):=fun j hj=>by
    by_cases e:j=i
    ·subst e
     refine⟨fsrc _ fun h=>h,fun x hx=>?_⟩
     rw[f1 _ fun _ _ _ _ _ _ _ _ hlk _=>hlk] at hx ⊢
     obtain⟨t,ht,rfl⟩:=gn_of hx
     exact hall.2.2.2.2 t (by have:t<dests.length:=ht;have:=f1 _ fun _ _ _ _ _ _ _ _ _ hdl'=>hdl';omega)
    ·exact f1 _ fun hall _ _ _ _ _ _ _ _ _=>hall.2.2 j (by omega)
   have hlenU:(Cfg.used (c.links.take (i+1))).length=nu+1+k:=by
    have:=hall.2.2.2.1.len
    rw[nums_len,Nat.mul_one] at this
    rw[hU];exact this
   have hmany:m<nu+1+k→dB c.okLinks=false:=fun h=>dB_f fun h'=>by
    have:=used_few (c:=c) (i:=i+1) (fin0 _ fun _ _ _ _ hn _ _=>by omega) hok1 fun n=>Nat.le_trans (used_le n) (h'.2.2.1 n)
    rw[hlenU,fin0 _ fun _ _ _ _ _ hm _=>hm] at this
    omega
   have f9:=zhd4 hall hU hok1 hmany
   clear hall hU hok1 hmany hlenU
   by_cases hmm:m<nu+1+k
   ·have e:=f9 _ fun _ _ _ h=>h hmm
    have hmi:(m:Int)<(nu:Int)+1+k:=by omega
    rw[e]
    repeat (with_reducible first|(first|refine pI1 ?_|refine pS1 ?_);intros|refine pA1 ?_|refine pX1 ?_|refine pB1 ?_|exact True.intro)
    exact⟨rfl,by omega,fun b hb=>by rw[f9 _ fun hall _ _ _=>hall.1 b (by omega)];exact fx _ fun x1=>x1 b (by omega)⟩
   ·have hmi:¬(m:Int)<(nu:Int)+1+k:=by omega
    repeat (with_reducible first|(first|refine pI1 ?_|refine pS1 ?_);intros|refine pA1 ?_|refine pX1 ?_|refine pB1 ?_|exact True.intro)
    exact loopQ_n (n-(i+1)) (by omega) ⟨_,i+1,nu+1+k,oo,Hm,aa,rfl,rfl,by omega,zf,zf,zf,by omega,by omega,f9 _ fun hall hU hok1 _=>⟨hall.1,by rw[hU];exact hall.2.2.2.1,hok1⟩⟩
 ·obtain rfl:i=n:=by omega
  have hxt:¬(i:Int)<(i:Int):=by omega
  have yk:∀b,b<H.length→Hk[b]?=H[b]?:=fun b hb=>(hall.1 b (by omega)).trans (fx _ fun x1=>x1 b (by omega))
  have htl:c.links.take i=c.links:=fin0 _ fun _ _ _ _ hn _ _=>by rw[←hn];exact List.take_length
  have fy:=zhd3 yk htl hall
  clear yk htl hall
  repeat (with_reducible first|(first|refine pI1 ?_|refine pS1 ?_);intros|refine pA1 ?_|refine pX1 ?_|refine pB1 ?_|exact True.intro)
  refine fin0 _ fun _ _ _ hcounts hn hm _=>fy _ fun yk htl hall=>?_
  rw[htl] at hall
  have hl:=hall.2.1.len
  rw[nums_len,Nat.mul_one] at hl
  rw[←hn,←hm] at k1
  exact hcounts Hk _ b1 nu ua uo zf zf k1 (by omega) yk (fun j hj=>hall.2.2 j (by omega)) hall.2.1.sl hl hnu
end
end Go.Proofs.YtjcgdcadflplcaaDoor.AM.D21
namespace Go.Proofs.YtjcgdcadflplcaaDoor.AM.D21
open Go Go.Proofs.YtjcgdcadflplcaaDoor.AM Go.Proofs.YtjcgdcadflplcaaDoor.AM.C02
set_option maxHeartbeats 2000000
set_option maxRecDepth 100000
attribute [local go_sem] tn_add1 tn_sub1 put_all' nums_len sub12
structure Few (c:Cfg):Prop where
 owners:c.owners.length≤10000000
 ports:c.ports.length≤10000000
 dests:∀l∈c.links,l.dests.length≤1048576
section
variable {N:Nat} {H:Heap} {c:Cfg} {h:Hd}
theorem s_rCheck (hc:CfgM N H c h) (hN:N≤H.length) (hf:Few c):WC F fX1c [.agg (c.cells h)] H fun v H'=>v=.c (.int .i64 c.check)∧Xt H H':=by
 refine WC_start eX1c (by simp) ?_
 unfold cX1c
 have h1:=fun(Hx:Heap) (hx:Xt H Hx)=>s_rnodes (H:=Hx) (hc.keep fun b hb=>hx.2 b (by omega)) (by have:=hx.1;omega) hf.owners
 have h2:=fun(Hx:Heap)=>s_rclock (H:=Hx) (c:=c) (h:=h)
 have h3:=fun(Hx:Heap) (hx:Xt H Hx) (ho:c.okNodes)=>s_rparts (H:=Hx) (hc.keep fun b hb=>hx.2 b (by omega)) (by have:=hx.1;omega) ⟨ho.1,ho.2.1⟩
 have h4:=fun(Hx:Heap) (hx:Xt H Hx) (ho:c.okNodes) (hp:c.okParts)=>s_rwins (H:=Hx) (hc.keep fun b hb=>hx.2 b (by omega)) (by have:=hx.1;omega) ⟨ho.1,ho.2.1⟩ hp.1
 have h5:=fun(Hx:Heap) (hx:Xt H Hx) (hp:c.okParts)=>s_rports (H:=Hx) (hc.keep fun b hb=>hx.2 b (by omega)) (by have:=hx.1;omega) hp.1 hf.ports
 have h6:=fun(Hx:Heap) (hx:Xt H Hx) (hp:c.okPorts)=>s_rlinks (H:=Hx) (hc.keep fun b hb=>hx.2 b (by omega)) (by have:=hx.1;omega) hp hf.dests
 obtain⟨C,hC⟩:∃C,C=c.cells h:=⟨_,rfl⟩
 have hsub:sub C 0 12=some C:=by rw[hC];rfl
 rw[←hC] at h1 h2 h3 h4 h5 h6 ⊢
 have hck:c.check=if dB c.okNodes=false then 21 else if dB c.okClock=false then 22 else if dB c.okParts=false then 23 else if dB c.okWins=false then 24 else if dB c.okPorts=false then 25 else if dB c.okLinks=false then 26 else 0:=rfl
 obtain⟨ck,hck'⟩:∃ck,c.check=ck:=⟨_,rfl⟩
 rw[hck'] at hck ⊢
 have fin0:=zhd7 h1 h2 h3 h4 h5 h6 hck
 clear h1 h2 h3 h4 h5 h6 hck hck' hC hc hf
 repeat (with_reducible first|(first|refine pI1 ?_|refine pS1 ?_);intros|refine pA1 ?_|refine pX1 ?_|refine pB1 ?_|exact True.intro)
 rename_i b1 H1 p1 g1 x1
 have t1:Xt H H1:=⟨by omega,fun b hb=>x1 b (by omega)⟩
 have f1:=zhd1 t1
 clear x1 t1
 repeat (with_reducible first|(first|refine pI1 ?_|refine pS1 ?_);intros|refine pA1 ?_|refine pX1 ?_|refine pB1 ?_|exact True.intro)
 refine outM_call (fin0 _ fun h _ _ _ _ _ _=>f1 _ fun t=>h H1 t) ?_
 rintro _ H2 ⟨rfl,l2,x2⟩
 have g2:=(x2 b1 (by omega)).trans g1
 have t2:Xt H H2:=f1 _ fun t=>⟨by omega,fun b hb=>(x2 b (by omega)).trans (t.2 b hb)⟩
 have f2:=zhd1 t2
 clear x2 t2 g1 f1
 by_cases o1:c.okNodes
 case neg=>
  have e:ck=21:=fin0 _ fun _ _ _ _ _ _ hck=>by rw[hck,if_pos (dB_f o1)]
  rw[dB_f o1]
  subst e
  clear o1
  repeat (with_reducible first|(first|refine pI1 ?_|refine pS1 ?_);intros|refine pA1 ?_|refine pX1 ?_|refine pB1 ?_|exact True.intro)
  exact⟨rfl,f2 _ fun t=>t⟩
 rw[dB_t o1]
 have fo1:=zhd1 o1
 clear o1
 repeat (with_reducible first|(first|refine pI1 ?_|refine pS1 ?_);intros|refine pA1 ?_|refine pX1 ?_|refine pB1 ?_|exact True.intro)
 refine outM_call (fin0 _ fun _ h _ _ _ _ _=>h H2) ?_
 rintro _ H3 ⟨rfl,l3,x3⟩
 have g3:=(x3 b1 (by omega)).trans g2
 have t3:Xt H H3:=f2 _ fun t=>⟨by omega,fun b hb=>(x3 b (by omega)).trans (t.2 b hb)⟩
 have f3:=zhd1 t3
 clear x3 t3 g2 f2
 by_cases o2:c.okClock
 case neg=>
  have e:ck=22:=fin0 _ fun _ _ _ _ _ _ hck=>fo1 _ fun o1=>by rw[hck,if_neg (by rw[dB_t o1];decide),if_pos (dB_f o2)]
  rw[dB_f o2]
  subst e
  clear o2
  repeat (with_reducible first|(first|refine pI1 ?_|refine pS1 ?_);intros|refine pA1 ?_|refine pX1 ?_|refine pB1 ?_|exact True.intro)
  exact⟨rfl,f3 _ fun t=>t⟩
 rw[dB_t o2]
 have fo2:=zhd1 o2
 clear o2
 repeat (with_reducible first|(first|refine pI1 ?_|refine pS1 ?_);intros|refine pA1 ?_|refine pX1 ?_|refine pB1 ?_|exact True.intro)
 refine outM_call (fin0 _ fun _ _ h _ _ _ _=>f3 _ fun t=>fo1 _ fun o1=>h H3 t o1) ?_
 rintro _ H4 ⟨rfl,l4,x4⟩
 have g4:=(x4 b1 (by omega)).trans g3
 have t4:Xt H H4:=f3 _ fun t=>⟨by omega,fun b hb=>(x4 b (by omega)).trans (t.2 b hb)⟩
 have f4:=zhd1 t4
 clear x4 t4 g3 f3
 by_cases o3:c.okParts
 case neg=>
  have e:ck=23:=fin0 _ fun _ _ _ _ _ _ hck=>fo1 _ fun o1=>fo2 _ fun o2=>by rw[hck,if_neg (by rw[dB_t o1];decide),if_neg (by rw[dB_t o2];decide),if_pos (dB_f o3)]
  rw[dB_f o3]
  subst e
  clear o3
  repeat (with_reducible first|(first|refine pI1 ?_|refine pS1 ?_);intros|refine pA1 ?_|refine pX1 ?_|refine pB1 ?_|exact True.intro)
  exact⟨rfl,f4 _ fun t=>t⟩
 rw[dB_t o3]
 have fo3:=zhd1 o3
 clear o3
 repeat (with_reducible first|(first|refine pI1 ?_|refine pS1 ?_);intros|refine pA1 ?_|refine pX1 ?_|refine pB1 ?_|exact True.intro)
 refine outM_call (fin0 _ fun _ _ _ h _ _ _=>f4 _ fun t=>fo1 _ fun o1=>fo3 _ fun o3=>h H4 t o1 o3) ?_
 rintro _ H5 ⟨rfl,l5,x5⟩
 have g5:=(x5 b1 (by omega)).trans g4
 have t5:Xt H H5:=f4 _ fun t=>⟨by omega,fun b hb=>(x5 b (by omega)).trans (t.2 b hb)⟩
 have f5:=zhd1 t5
 clear x5 t5 g4 f4
 by_cases o4:c.okWins
 case neg=>
  have e:ck=24:=fin0 _ fun _ _ _ _ _ _ hck=>fo1 _ fun o1=>fo2 _ fun o2=>fo3 _ fun o3=>by rw[hck,if_neg (by rw[dB_t o1];decide),if_neg (by rw[dB_t o2];decide),if_neg (by rw[dB_t o3];decide),if_pos (dB_f o4)]
  rw[dB_f o4]
  subst e
  clear o4
  repeat (with_reducible first|(first|refine pI1 ?_|refine pS1 ?_);intros|refine pA1 ?_|refine pX1 ?_|refine pB1 ?_|exact True.intro)
  exact⟨rfl,f5 _ fun t=>t⟩
 rw[dB_t o4]
 have fo4:=zhd1 o4
 clear o4
 repeat (with_reducible first|(first|refine pI1 ?_|refine pS1 ?_);intros|refine pA1 ?_|refine pX1 ?_|refine pB1 ?_|exact True.intro)
 refine outM_call (fin0 _ fun _ _ _ _ h _ _=>f5 _ fun t=>fo3 _ fun o3=>h H5 t o3) ?_
 rintro _ H6 ⟨rfl,l6,x6⟩
 have g6:=(x6 b1 (by omega)).trans g5
 have t6:Xt H H6:=f5 _ fun t=>⟨by omega,fun b hb=>(x6 b (by omega)).trans (t.2 b hb)⟩
 have f6:=zhd1 t6
 clear x6 t6 g5 f5
 by_cases o5:c.okPorts
 case neg=>
  have e:ck=25:=fin0 _ fun _ _ _ _ _ _ hck=>fo1 _ fun o1=>fo2 _ fun o2=>fo3 _ fun o3=>fo4 _ fun o4=>by rw[hck,if_neg (by rw[dB_t o1];decide),if_neg (by rw[dB_t o2];decide),if_neg (by rw[dB_t o3];decide),if_neg (by rw[dB_t o4];decide),if_pos (dB_f o5)]
  rw[dB_f o5]
  subst e
  clear o5
  repeat (with_reducible first|(first|refine pI1 ?_|refine pS1 ?_);intros|refine pA1 ?_|refine pX1 ?_|refine pB1 ?_|exact True.intro)
  exact⟨rfl,f6 _ fun t=>t⟩
 rw[dB_t o5]
 have fo5:=zhd1 o5
 clear o5
 repeat (with_reducible first|(first|refine pI1 ?_|refine pS1 ?_);intros|refine pA1 ?_|refine pX1 ?_|refine pB1 ?_|exact True.intro)
 refine outM_call (fin0 _ fun _ _ _ _ _ h _=>f6 _ fun t=>fo5 _ fun o5=>h H6 t o5) ?_
 rintro _ H7 ⟨rfl,l7,x7⟩
 have t7:Xt H H7:=f6 _ fun t=>⟨by omega,fun b hb=>(x7 b (by omega)).trans (t.2 b hb)⟩
 have f7:=zhd1 t7
 clear x7 t7 g6 f6
 by_cases o6:c.okLinks
 case neg=>
  have e:ck=26:=fin0 _ fun _ _ _ _ _ _ hck=>fo1 _ fun o1=>fo2 _ fun o2=>fo3 _ fun o3=>fo4 _ fun o4=>fo5 _ fun o5=>by rw[hck,if_neg (by rw[dB_t o1];decide),if_neg (by rw[dB_t o2];decide),if_neg (by rw[dB_t o3];decide),if_neg (by rw[dB_t o4];decide),if_neg (by rw[dB_t o5];decide),if_pos (dB_f o6)]
  rw[dB_f o6]
  subst e
  clear o6
  repeat (with_reducible first|(first|refine pI1 ?_|refine pS1 ?_);intros|refine pA1 ?_|refine pX1 ?_|refine pB1 ?_|exact True.intro)
  exact⟨rfl,f7 _ fun t=>t⟩
 have e:ck=0:=fin0 _ fun _ _ _ _ _ _ hck=>fo1 _ fun o1=>fo2 _ fun o2=>fo3 _ fun o3=>fo4 _ fun o4=>fo5 _ fun o5=>by rw[hck,if_neg (by rw[dB_t o1];decide),if_neg (by rw[dB_t o2];decide),if_neg (by rw[dB_t o3];decide),if_neg (by rw[dB_t o4];decide),if_neg (by rw[dB_t o5];decide),if_neg (by rw[dB_t o6];decide)]
 rw[dB_t o6]
 subst e
 clear o6
 repeat (with_reducible first|(first|refine pI1 ?_|refine pS1 ?_);intros|refine pA1 ?_|refine pX1 ?_|refine pB1 ?_|exact True.intro)
 exact⟨rfl,f7 _ fun t=>t⟩
end
theorem lk_rowW {H:Heap} {x:Lk.T.D} {cs:List Cell} (h:Vw Lk.T H x cs):∃e,LkR H.length H e cs∧e.dests.length≤wt Lk.T x:=by
 obtain⟨_,_,rfl,⟨rfl,w1⟩,_,_,rfl,h3,_,_,rfl,⟨rfl,w2⟩,rfl⟩:=h
 obtain⟨a,c,rfl,h1,h2,h3,h4⟩:=Vw.nums h3
 refine⟨⟨x.1,x.2.1,x.2.2.1⟩,⟨a,c,false,rfl,h3,fun b x e=>h3.lt e,h4,h1,h2,wf_i64 w1,wf_i64 w2⟩,?_⟩
 show List.length (α:=Int) x.2.1≤1+(1+(List.map (fun d=>wt I d) x.2.1).sum+(1+0))
 have:(List.map (fun d=>wt I d) x.2.1).sum=List.length (α:=Int) x.2.1:=by
  generalize x.2.1=l
  show (List.map (fun _:Int=>1) l).sum=_
  have hs:∀l:List Int,(List.map (fun _:Int=>1) l).sum=l.length:=fun l=>by
   induction l with
   |nil=>rfl
   |cons y l ih=>simp only[List.map_cons,List.sum_cons,ih,List.length_cons];omega
  exact hs l
 omega
theorem len1 {α:Type} (l:List α):(l.map fun _=>1).sum=l.length:=by
 induction l with
 |nil=>rfl
 |cons x l ih=>simp only[List.map_cons,List.sum_cons,ih,List.length_cons];omega
end Go.Proofs.YtjcgdcadflplcaaDoor.AM.D21
