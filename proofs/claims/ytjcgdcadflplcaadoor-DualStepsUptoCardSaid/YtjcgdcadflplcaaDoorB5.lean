/- What the functions that this law reaches come to, each walked once, and the plain laws that stand behind them. -/
import Derived.Test.YtjcgdcadflplcaaDoorB4
import Derived.Test.YtjcgdcadflplcaaDoorA4
import Derived.Test.YtjcgdcadflplcaaDoorB2
set_option linter.unusedVariables false
set_option linter.unusedSimpArgs false
set_option linter.unusedSectionVars false
namespace Go.Proofs.YtjcgdcadflplcaaDoor.AM.D21
open Go Go.Proofs.YtjcgdcadflplcaaDoor.AM Go.Proofs.YtjcgdcadflplcaaDoor.AM.C02 Go.Proofs.YtjcgdcadflplcaaDoor.AM.C07
set_option maxHeartbeats 2000000
set_option maxRecDepth 100000
attribute [local go_sem] tn_add1 tn_sub1 put_all' nums_len sub3k
def BusE (H:Heap) (p y:Nat) (C0:List Cell) (a:Option Ad) (c:Nat) (o:Bool) (ws:List Int) (bl pa:Nat):Prop:=
 ∃C,H[p]?=some (.cells C false none)∧C.length=C0.length∧(∀j,(j<y∨y+3≤j)→C[j]?=C0[j]?)∧C[y]?=some (.sl a ws.length c o)∧C[y+1]?=some (.int .u64 (bl:Nat))∧C[y+2]?=some (.int .u64 (pa:Nat))∧Sl H 1 a ws.length (nums ws)∧∀b x,a=some (b,x)→b≠p
theorem BusE.keep {H H':Heap} {p y:Nat} {C0:List Cell} {a:Option Ad} {c:Nat} {o:Bool} {ws:List Int} {bl pa:Nat} (h:BusE H p y C0 a c o ws bl pa) (hx:∀b,b=p∨(∃x,a=some (b,x))→H'[b]?=H[b]?):BusE H' p y C0 a c o ws bl pa:=by
 obtain⟨C,h1,h2,h3,h4,h5,h6,h7,h8⟩:=h
 exact⟨C,by rw[hx p (.inl rfl)];exact h1,h2,h3,h4,h5,h6,h7.keep fun b x e=>hx b (.inr ⟨x,e⟩),h8⟩
theorem BusE.set1 {H':Heap} {p y:Nat} {C C0:List Cell} {a:Option Ad} {c:Nat} {o:Bool} {ws:List Int} {b' pa:Nat} (h2:C.length=C0.length) (h3:∀j,(j<y∨y+3≤j)→C[j]?=C0[j]?) (h4:C[y]?=some (.sl a ws.length c o)) (h6:C[y+2]?=some (.int .u64 (pa:Nat))) (h8:∀b x,a=some (b,x)→b≠p) (h7:Sl H' 1 a ws.length (nums ws))
  (hg:H'[p]?=some (.cells (C.set (y+1) (.int .u64 (b':Nat))) false none)):BusE H' p y C0 a c o ws b' pa:=by
 have hl:=(List.getElem?_eq_some_iff.1 h6).1
 exact⟨_,hg,by rw[List.length_set];exact h2,fun j hj=>by rw[List.getElem?_set_ne (by omega)];exact h3 j hj,by rw[List.getElem?_set_ne (by omega)];exact h4,by rw[List.getElem?_set_self (by omega)],by rw[List.getElem?_set_ne (by omega)];exact h6,h7,h8⟩
theorem BusE.set2 {H':Heap} {p y:Nat} {C C0:List Cell} {a:Option Ad} {c:Nat} {o:Bool} {ws:List Int} {b' p' pa:Nat} (h2:C.length=C0.length) (h3:∀j,(j<y∨y+3≤j)→C[j]?=C0[j]?) (h4:C[y]?=some (.sl a ws.length c o)) (h6:C[y+2]?=some (.int .u64 (pa:Nat))) (h8:∀b x,a=some (b,x)→b≠p) (h7:Sl H' 1 a ws.length (nums ws))
  (hg:H'[p]?=some (.cells ((C.set (y+2) (.int .u64 (p':Nat))).set (y+1) (.int .u64 (b':Nat))) false none)):BusE H' p y C0 a c o ws b' p':=by
 rw[List.set_comm _ _ (by omega)] at hg
 have hl:=(List.getElem?_eq_some_iff.1 h6).1
 exact⟨_,hg,by rw[List.length_set,List.length_set];exact h2,fun j hj=>by rw[List.getElem?_set_ne (by omega),List.getElem?_set_ne (by omega)];exact h3 j hj,by rw[List.getElem?_set_ne (by omega),List.getElem?_set_ne (by omega)];exact h4,by rw[List.getElem?_set_ne (by omega),List.getElem?_set_self (by omega)],by rw[List.getElem?_set_self (by rw[List.length_set];omega)],h7,h8⟩
theorem s_rowner {H:Heap} {p y0:Nat} {C0:List Cell} {a:Option Ad} {c:Nat} {o:Bool} {ws:List Int} {bl pa:Nat} {slot:Int} (hb:BusE H p y0 C0 a c o ws bl pa) (hw:ws.length≤100000) (hw0:0<ws.length) (hs:i64 slot):
  WC F fX1v [.c (.ptr (some (p,y0))),.c (.int .i64 slot)] H fun v H'=>v=.c (.int .i64 (ownF ws slot))∧H'=H:=by
 refine WC_start eX1v (by simp) ?_
 unfold cX1v
 obtain⟨C,h1,-,-,h3,-,-,h2,-⟩:=hb
 obtain⟨s1,s2⟩:=hs
 obtain⟨n,hn⟩:∃n,ws.length=n:=⟨_,rfl⟩
 rw[hn] at h3 h2 hw hw0
 by_cases c1:slot<0
 ·have e:ownF ws slot=-1:=by unfold ownF;rw[if_pos (.inl c1)]
  rw[e]
  clear h2 hn
  repeat (with_reducible first|(first|refine pI1 ?_|refine pS1 ?_);intros|refine pA1 ?_|refine pX1 ?_|refine pB1 ?_|exact True.intro)
  exact⟨rfl,rfl⟩
 obtain⟨s,rfl⟩:∃s:Nat,slot=s:=⟨slot.toNat,by omega⟩
 obtain⟨q,hq⟩:∃q,q=s % n:=⟨_,rfl⟩
 have hlt:q<n:=by rw[hq];exact Nat.mod_lt _ (by omega)
 have e:ownF ws s=gn ws q:=by unfold ownF;rw[if_neg (by omega),hq,hn,Int.toNat_natCast]
 rw[e]
 obtain⟨⟨lb,y⟩,rfl⟩:=h2.is_some (by omega)
 have hg:=h2.gn hn hlt
 dsimp only at hg
 have hr:(s:Int) % (n:Int)=(q:Nat):=by rw[hq];rfl
 clear h2 hn e hq
 generalize gn ws q=w at *
 repeat (with_reducible first|(first|refine pI1 ?_|refine pS1 ?_);intros|refine pA1 ?_|refine pX1 ?_|refine pB1 ?_|exact True.intro)
 exact⟨rfl,rfl⟩
def PassE (N:Nat) (p y0:Nat) (C0:List Cell) (a:Option Ad) (c:Nat) (o:Bool) (ws:List Int) (bl pa:Nat) (slot:Int) (l:List Snd) (v:V) (H':Heap):Prop:=
 (noneP (ownF ws slot) l∧v=.tup [.c (.sl none 0 0 false),.c (.bool false)]∧BusE H' p y0 C0 a c o ws ((bl+l.length) % 18446744073709551616) pa)∨
 (∃i a' c' o',fstP (ownF ws slot) l i∧v=.tup [.c (.sl a' (gs l i).bytes.length c' o'),.c (.bool true)]∧Sl H' 1 a' (gs l i).bytes.length (nats .u8 (gs l i).bytes)∧(∀b x,a'=some (b,x)→b<N∧b≠p)∧(∀x∈(gs l i).bytes,x<256)∧(gs l i).bytes.length≤c'∧BusE H' p y0 C0 a c o ws ((bl+(l.length-1)) % 18446744073709551616) ((pa+1) % 18446744073709551616))
theorem s_rPass {N p y0:Nat} {C0:List Cell} {H:Heap} {a a2:Option Ad} {c c2:Nat} {o o2:Bool} {ws:List Int} {bl pa:Nat} {slot:Int} {l:List Snd} {n:Nat} (hb:BusE H p y0 C0 a c o ws bl pa) (hw:ws.length≤100000) (hw0:0<ws.length) (hs:i64 slot) (ht:Snds N p H a2 l) (hn:l.length=n) (hn2:n≤100000) (hN:N≤H.length):
  WC F fX1u [.c (.ptr (some (p,y0))),.c (.int .i64 slot),.c (.sl a2 n c2 o2)] H fun v H'=>PassE N p y0 C0 a c o ws bl pa slot l v H'∧But p H H':=by
 refine WC_start eX1u (by simp) ?_
 unfold cX1u
 have how:=s_rowner hb hw hw0 hs
 obtain⟨C,hb1,hlC,hCo,hc0,hc1,hc2,hsl0,hap⟩:=hb
 have hpl:p<H.length:=lt_of_get hb1
 have hlen:=(List.getElem?_eq_some_iff.1 hc2).1
 have hs2:∀x,(C.set (y0+2) x)[y0+1]?=some (.int .u64 (bl:Nat)):=fun x=>by rw[List.getElem?_set_ne (by omega)];exact hc1
 have fin0:=zhd7 ht hlC hCo hc0 hc2 hsl0 hap
 obtain⟨ow,how2⟩:∃ow,ow=ownF ws slot:=⟨_,rfl⟩
 rw[←how2] at how
 unfold PassE
 rw[←how2,hn]
 have fn:=zhd1 hn
 clear hlC hCo hc0 hsl0 hap hw hw0 hs ht how2 hn
 repeat (with_reducible first|(first|refine pI1 ?_|refine pS1 ?_);intros|refine pA1 ?_|refine pX1 ?_|refine pB1 ?_|exact True.intro)
 refine outM_call how ?_
 rintro _ H1 ⟨rfl,rfl⟩
 clear how
 repeat (with_reducible first|(first|refine pI1 ?_|refine pS1 ?_);intros|refine pA1 ?_|refine pX1 ?_|refine pB1 ?_|exact True.intro)
 refine W_loop (fun m st=>∃ρ,∃i:Nat,st=⟨L 65 ρ,[],H1⟩∧m=n-i∧i≤n∧ρ 0=.c (.ptr (some (p,y0)))∧ρ 2=.c (.sl a2 n c2 o2)∧ρ 8=.c (.int .i64 ow)∧ρ 9=.c (.int .i64 (i:Nat))∧∀j,j<i→0≤ow→(gs l j).node≠ow) n ⟨_,0,rfl,rfl,by omega,zf,zf,zf,zf,fun j hj=>by omega⟩ ?_
 rintro m st ⟨ρ,i,rfl,rfl,hi,e0,e2,e8,e9,hall⟩
 unfold bX1u_9
 have fa:=zhd1 hall
 clear hall
 by_cases hin:i<n
 ·have hxt:(i:Int)<(n:Int):=by omega
  obtain⟨lb,y,a',c',o',ea,hlb,hlp,hld,hsl,hab,hsi,hby,hcap⟩:=fin0 _ fun ht _ _ _ _ _ _=>fn _ fun hn=>send_atc ht (i:=i) (by omega)
  obtain⟨hd0,hd1⟩:=ldB_two hld
  subst ea
  have hfst:0≤ow→(gs l i).node=ow→fstP ow l i:=fun h0 h1=>⟨fn _ fun hn=>by omega,h0,h1,fun j hj=>fa _ fun hall=>hall j hj h0⟩
  have hnext:¬(0≤ow∧(gs l i).node=ow)→∀j,j<i+1→0≤ow→(gs l j).node≠ow:=fun h j hj h0=>by
   by_cases e:j=i
   ·subst e;exact fun h1=>h ⟨h0,h1⟩
   ·exact fa _ fun hall=>hall j (by omega) h0
  obtain⟨nd,hnd⟩:∃nd,(gs l i).node=nd:=⟨_,rfl⟩
  obtain⟨nb,hnb⟩:∃nb,(gs l i).bytes.length=nb:=⟨_,rfl⟩
  rw[hnd] at hd0 hfst hnext
  rw[hnb] at hd1
  have f1:=zhd7 hsl hab hby hfst hnext hnb hcap
  clear hsl hab hby hfst hnext hnb hld hnd hsi hcap
  by_cases h0:0≤ow
  ·by_cases h1:nd=ow
   ·have ff:=f1 _ fun _ _ _ hfst _ _ _=>hfst h0 h1
    have fff:=zhd1 ff
    clear ff
    subst h1
    obtain⟨k,rfl⟩:∃k,n=k+1:=⟨n-1,by omega⟩
    have hk1:((k+1:Nat):Int)-1=(k:Nat):=by omega
    repeat (with_reducible first|(first|refine pI1 ?_|refine pS1 ?_);intros|refine pA1 ?_|refine pX1 ?_|refine pB1 ?_|exact True.intro)
    rename_i H3 l3 g3 x3 H4 l4 g4 x4
    have hx:∀b,b≠p→H4[b]?=H1[b]?:=fun b hp=>by rw[x4 b hp,x3 b hp]
    have g4':H4[p]?=some (.cells ((C.set (y0+2) (.int .u64 ((pa+1) % 18446744073709551616:Nat))).set (y0+1) (.int .u64 ((bl+k) % 18446744073709551616:Nat))) false none):=g4
    have fx:=zhd2 hx g4'
    have hd1':ldB H4[lb]? (y+i * 2+1)=some (.sl a' nb c' o'):=by rw[hx lb hlp];exact hd1
    clear hx g4' g4 x4 x3 g3 hd1 hd0 hb1
    repeat (with_reducible first|(first|refine pI1 ?_|refine pS1 ?_);intros|refine pA1 ?_|refine pX1 ?_|refine pB1 ?_|exact True.intro)
    refine⟨.inr ⟨i,a',c',o',fff _ fun h=>h,by rw[f1 _ fun _ _ _ _ _ h _=>h],f1 _ fun hsl hab _ _ _ _ _=>hsl.keep fun b x e=>fx _ fun hx _=>hx b (hab b x e).2,f1 _ fun _ hab _ _ _ _ _=>hab,f1 _ fun _ _ hby _ _ _ _=>hby,f1 _ fun _ _ _ _ _ _ h=>h,?_⟩,by omega,fx _ fun hx _ b _ hb=>hx b hb⟩
    exact fin0 _ fun _ h2 h3 h4 h6 h7 h8=>fx _ fun hx g=>BusE.set2 h2 h3 h4 h6 h8 (h7.keep fun b x e=>hx b (h8 b x e)) g
   ·have hn:=f1 _ fun _ _ _ _ hnext _ _=>hnext fun h=>h1 h.2
    have fhn:=zhd1 hn
    clear hn hb1
    repeat (with_reducible first|(first|refine pI1 ?_|refine pS1 ?_);intros|refine pA1 ?_|refine pX1 ?_|refine pB1 ?_|exact True.intro)
    exact loopQ_n (n-(i+1)) (by omega) ⟨_,i+1,rfl,rfl,by omega,zf,zf,zf,zf,fhn _ fun h=>h⟩
  ·have hn:=f1 _ fun _ _ _ _ hnext _ _=>hnext fun h=>h0 h.1
   have fhn:=zhd1 hn
   clear hn hb1
   repeat (with_reducible first|(first|refine pI1 ?_|refine pS1 ?_);intros|refine pA1 ?_|refine pX1 ?_|refine pB1 ?_|exact True.intro)
   exact loopQ_n (n-(i+1)) (by omega) ⟨_,i+1,rfl,rfl,by omega,zf,zf,zf,zf,fhn _ fun h=>h⟩
 ·obtain rfl:i=n:=by omega
  have hxt:¬(i:Int)<(i:Int):=by omega
  repeat (with_reducible first|(first|refine pI1 ?_|refine pS1 ?_);intros|refine pA1 ?_|refine pX1 ?_|refine pB1 ?_|exact True.intro)
  rename_i H3 l3 g3 x3
  have g3':H3[p]?=some (.cells (C.set (y0+1) (.int .u64 ((bl+i) % 18446744073709551616:Nat))) false none):=g3
  have fx:=zhd2 x3 g3'
  clear x3 g3 g3'
  repeat (with_reducible first|(first|refine pI1 ?_|refine pS1 ?_);intros|refine pA1 ?_|refine pX1 ?_|refine pB1 ?_|exact True.intro)
  refine⟨.inl ⟨fun j hj=>fa _ fun hall=>hall j (by have:=fn _ fun hn=>hn;omega),rfl,?_⟩,by omega,fx _ fun hx _ b _ hb=>hx b hb⟩
  exact fin0 _ fun _ h2 h3 h4 h6 h7 h8=>fx _ fun hx g=>BusE.set1 h2 h3 h4 h6 h8 (h7.keep fun b x e=>hx b (h8 b x e)) g
theorem rcarry_pick {ρ:Nat→V} {H:Heap} {C0:List Cell} {N p y0 b16 i n3 c3:Nat} {a a3:Option Ad} {c:Nat} {o o3:Bool} {ws:List Int} {bl pa:Nat} {slot:Int} {cps:List Cpy} (e0:ρ 0=.c (.ptr (some (p,y0)))) (e1:ρ 1=.c (.int .i64 slot)) (e3:ρ 3=.c (.sl a3 n3 c3 o3)) (e15:ρ 15=.c (.int .i64 (i:Nat))) (e16:ρ 16=.c (.ptr (some (b16,0))))
  (g:H[b16]?=some (.cells cpy0.cells false none)) (hb:BusE H p y0 C0 a c o ws bl pa) (hw:ws.length≤100000) (hw0:0<ws.length) (hs:i64 slot) (hc:Tab 3 CpR N H a3 cps) (hn:cps.length=n3) (hn3:n3≤100000):
  W F none (.seq (.ops oX1t_9) (.cond (.t 48) (.ops oX1t_10) .skip)) ⟨L 81 ρ,[],H⟩ fun e s=>e=.normal∧∃ρ' H',s=⟨L 81 ρ',[],H'⟩∧KpR ρ ρ'∧H'[b16]?=some (.cells (cpF (ownF ws slot) cps i).cells false none)∧H'.length=H.length∧∀b,b≠b16→H'[b]?=H[b]?:=by
 have how:=s_rowner hb hw hw0 hs
 have fin0:=zhd2 hc hn
 obtain⟨ow,how2⟩:∃ow,ow=ownF ws slot:=⟨_,rfl⟩
 rw[←how2] at how ⊢
 clear how2 hc hn hb hw hw0 hs
 by_cases c1:i<n3
 ·by_cases c2:(i:Int)=ow
  ·have e:cpF ow cps i=cpy0:=by unfold cpF;rw[if_neg fun h=>h.2 c2]
   rw[e]
   have fg:=zhd1 g
   subst c2
   clear g
   repeat (with_reducible first|(first|refine pI1 ?_|refine pS1 ?_);intros|refine pA1 ?_|refine pX1 ?_|refine pB1 ?_|exact True.intro)
   refine outM_call how ?_
   rintro _ H1 ⟨rfl,rfl⟩
   clear how
   repeat (with_reducible first|(first|refine pI1 ?_|refine pS1 ?_);intros|refine pA1 ?_|refine pX1 ?_|refine pB1 ?_|exact True.intro)
   exact⟨rfl,_,_,rfl,⟨zf,zf,zf,zf,zf,zf,zf,zf,zf⟩,fg _ fun g=>g,rfl,fun _ _=>rfl⟩
  ·have e:cpF ow cps i=gc cps i:=by unfold cpF;rw[if_pos ⟨by rw[fin0 _ fun _ h=>h];exact c1,c2⟩]
   rw[e]
   obtain⟨lb,y,ea,-,hld,-⟩:=fin0 _ fun hc hn=>copy_at hc (i:=i) (by omega)
   generalize gc cps i=q at *
   obtain⟨k,az,mk⟩:=q
   dsimp only [Cpy.cells,cpy0] at hld g ⊢
   rw[ea] at e3
   clear ea e
   repeat (with_reducible first|(first|refine pI1 ?_|refine pS1 ?_);intros|refine pA1 ?_|refine pX1 ?_|refine pB1 ?_|exact True.intro)
   refine outM_call how ?_
   rintro _ H1 ⟨rfl,rfl⟩
   clear how
   repeat (with_reducible first|(first|refine pI1 ?_|refine pS1 ?_);intros|refine pA1 ?_|refine pX1 ?_|refine pB1 ?_|exact True.intro)
   have lg:=lt_of_get g
   exact⟨rfl,_,_,rfl,⟨zf,zf,zf,zf,zf,zf,zf,zf,zf⟩,get_set_same _ lg,by rw[List.length_set],fun b hb=>List.getElem?_set_ne (Ne.symm hb)⟩
 ·have e:cpF ow cps i=cpy0:=by unfold cpF;rw[if_neg fun h=>c1 (by rw[←fin0 _ fun _ h=>h];exact h.1)]
  rw[e]
  have fg:=zhd1 g
  clear g how
  repeat (with_reducible first|(first|refine pI1 ?_|refine pS1 ?_);intros|refine pA1 ?_|refine pX1 ?_|refine pB1 ?_|exact True.intro)
  exact⟨rfl,_,_,rfl,⟨zf,zf,zf,zf,zf,zf,zf,zf,zf⟩,fg _ fun g=>g,rfl,fun _ _=>rfl⟩
def RCarQ (H:Heap) (p y0:Nat) (C0:List Cell) (a:Option Ad) (c:Nat) (o:Bool) (ws:List Int) (bl pa:Nat) (slot:Int) (l:List Snd) (cps:List Cpy) (v:V) (H':Heap):Prop:=
 ∃oa ha oo ho f lo,v=.tup [.c (.sl oa ws.length ws.length oo),.c (.sl ha ws.length ws.length ho),.c (.int .i64 0)]∧H.length≤lo∧RInv lo H' oa ha ws.length ws.length oo ho f p∧
  ((noneP (ownF ws slot) l∧(∀j,f j=none)∧BusE H' p y0 C0 a c o ws ((bl+l.length) % 18446744073709551616) pa)∨
   ∃i,fstP (ownF ws slot) l i∧(∀j,f j=becomes (cpF (ownF ws slot) cps j) (gs l i).bytes)∧BusE H' p y0 C0 a c o ws ((bl+(l.length-1)) % 18446744073709551616) ((pa+1) % 18446744073709551616))
theorem s_rCarry {N p yb:Nat} {C0:List Cell} {H:Heap} {a a2 a3:Option Ad} {c c2 c3:Nat} {o o2 o3:Bool} {ws:List Int} {bl pa:Nat} {slot:Int} {l:List Snd} {cps:List Cpy} {n k:Nat}
  (hb:BusE H p yb C0 a c o ws bl pa) (hw:ws.length≤100000) (hw0:0<ws.length) (hs:i64 slot) (h0:0≤slot) (ht:Snds N p H a2 l) (hn:l.length=n) (hn2:n≤100000) (hbytes:∀i,i<n→(gs l i).bytes.length≤100000) (hc:Tab 3 CpR N H a3 cps) (h3:∀b x,a3=some (b,x)→b≠p) (hk:cps.length=k) (hk2:k≤100000) (hN:N≤H.length):
  WC F fX1t [.c (.ptr (some (p,yb))),.c (.int .i64 slot),.c (.sl a2 n c2 o2),.c (.sl a3 k c3 o3)] H fun v H'=>RCarQ H p yb C0 a c o ws bl pa slot l cps v H'∧But p H H':=by
 refine WC_start eX1t (by simp) ?_
 unfold cX1t
 have hpa:=s_rPass (c2:=c2) (o2:=o2) hb hw hw0 hs ht hn hn2 hN
 have hpl:p<H.length:=by obtain⟨C,h,-⟩:=hb;exact lt_of_get h
 have hal:∀b x,a=some (b,x)→b<H.length:=fun b x e=>by obtain⟨C,-,-,-,-,-,-,h,-⟩:=hb;exact h.lt e
 have fin0:=zhd7 hal hbytes hc h3 hk hs hn
 unfold RCarQ
 obtain⟨m,hm⟩:∃m,ws.length=m:=⟨_,rfl⟩
 have hwl:ws.length≤100000:=hw
 have hwl0:0<ws.length:=hw0
 rw[hm] at hw hw0
 have fm:=zhd3 hm hwl hwl0
 clear hb hs ht hal hbytes hc h3 hk hn hwl hwl0
 have hs0:¬slot<0:=by omega
 repeat (with_reducible first|(first|refine pI1 ?_|refine pS1 ?_);intros|refine pA1 ?_|refine pX1 ?_|refine pB1 ?_|exact True.intro)
 refine outM_call hpa ?_
 rintro v H2 ⟨hq,l2,x2⟩
 clear hpa
 have key:∃is a' nb c' o' bs,∃f:Nat→Option (List Nat),∃bl' pa',v=.tup [.c (.sl a' nb c' o'),.c (.bool is)]∧Sl H2 1 a' nb (nats .u8 bs)∧bs.length=nb∧nb≤100000∧(∀x∈bs,x<256)∧nb≤c'∧(∀b x,a'=some (b,x)→b<H.length∧b≠p)∧(∀j,f j=if is then becomes (cpF (ownF ws slot) cps j) bs else none)∧BusE H2 p yb C0 a c o ws bl' pa'∧
   ∀H',BusE H' p yb C0 a c o ws bl' pa'→((noneP (ownF ws slot) l∧(∀j,f j=none)∧BusE H' p yb C0 a c o ws ((bl+l.length) % 18446744073709551616) pa)∨
    ∃i,fstP (ownF ws slot) l i∧(∀j,f j=becomes (cpF (ownF ws slot) cps j) (gs l i).bytes)∧BusE H' p yb C0 a c o ws ((bl+(l.length-1)) % 18446744073709551616) ((pa+1) % 18446744073709551616)):=by
  rcases hq with ⟨hno,rfl,hbm⟩|⟨i,a',c',o',hfst,rfl,hsl,hab,hby,hcap,hbm⟩
  ·exact⟨false,none,0,0,false,[],fun _=>none,_,_,rfl,Sl.none _ _,rfl,by omega,by simp,Nat.le_refl _,fun b x e=>(by cases e),fun j=>rfl,hbm,fun H' h=>.inl ⟨hno,fun _=>rfl,h⟩⟩
  ·exact⟨true,a',_,c',o',(gs l i).bytes,fun j=>becomes (cpF (ownF ws slot) cps j) (gs l i).bytes,_,_,rfl,hsl,rfl,fin0 _ fun _ hbytes _ _ _ _ hn=>hbytes i (by have:=hfst.1;omega),hby,hcap,fun b x e=>⟨Nat.lt_of_lt_of_le (hab b x e).1 hN,(hab b x e).2⟩,fun j=>rfl,hbm,fun H' h=>.inr ⟨i,hfst,fun _=>rfl,h⟩⟩
 clear hq
 obtain⟨is,a',nb,c',o',bs,f,bl',pa',rfl,hsl,hbl,hnb,hby,hcap,hab,hf,hbm,hend⟩:=key
 have hbm':=hbm
 obtain⟨C,hb1,-,-,hc0,-⟩:=hbm'
 rw[hm] at hc0
 have hkeep:∀Hx,(∀b,b<H2.length→Hx[b]?=H2[b]?)→BusE Hx p yb C0 a c o ws bl' pa':=fun Hx hx=>hbm.keep fun b hb=>hx b (by
  rcases hb with rfl|⟨x,e⟩
  ·omega
  ·exact Nat.lt_of_lt_of_le (fin0 _ fun hal _ _ _ _ _ _=>hal _ _ e) l2)
 have hcp2:Tab 3 CpR N H2 a3 cps:=fin0 _ fun _ _ hc h3 _ _ _=>tabC_keep hc fun b x e hb=>x2 b (by omega) (h3 b x e)
 have f2:=zhd9 hsl hbl hby hab hf hkeep hend hcp2 x2
 clear hsl hbl hby hab hf hkeep hend hcp2 x2 hbm hm
 repeat (with_reducible first|(first|refine pI1 ?_|refine pS1 ?_);intros|refine pA1 ?_|refine pX1 ?_|refine pB1 ?_|exact True.intro)
 refine W_loop (fun mm st=>∃ρ,∃j:Nat,∃oo ho Hk oa ha,st=⟨L 81 ρ,[],Hk⟩∧mm=m-j∧j≤m∧ρ 0=.c (.ptr (some (p,yb)))∧ρ 1=.c (.int .i64 slot)∧ρ 3=.c (.sl a3 k c3 o3)∧ρ 11=.c (.sl a' nb c' o')∧ρ 12=.c (.bool is)∧ρ 13=.c (.sl oa j j oo)∧ρ 14=.c (.sl ha j j ho)∧ρ 15=.c (.int .i64 (j:Nat))∧H2.length≤Hk.length∧Hid ((∀b,b<H2.length→Hk[b]?=H2[b]?)∧RInv H2.length Hk oa ha j j oo ho f p)) m
  ⟨_,0,false,false,H2,none,none,rfl,rfl,by omega,zf,zf,zf,zf,zf,zf,zf,zf,Nat.le_refl _,fun _ _=>rfl,[],Gr.none _ _ _,Gr.none _ _ _,fun x y e=>(by cases e),fun j hj=>(by omega)⟩ ?_
 rintro mm st ⟨ρ,j,oo,ho,Hk,oa,ha,rfl,rfl,hj,e0,e1,e3,e11,e12,e13,e14,e15,lk,hall⟩
 unfold bX1t_20
 have hbk:=(hall.1 p (by omega)).trans hb1
 obtain⟨Y,hY⟩:∃Y,Y=IC.seq (.seq (.ops oX1t_9) (.cond (.t 48) (.ops oX1t_10) .skip)) (.seq (.ops oX1t_11) (.seq (.seq (.ops oX1t_12) (.cond (.t 56) (.ops oX1t_13) .skip)) (.seq (.ops oX1t_14) (.seq (.seq (.ops oX1t_15) (.cond (.t 70) (.ops oX1t_16) .skip)) (.seq (.ops oX1t_17) (.ops oX1t_18)))))):=⟨_,rfl⟩
 rw[←hY]
 have fY:=zhd1 hY
 have fz:=zhd1 hall
 clear hY hall
 by_cases hjm:j<m
 ·have hxt:(j:Int)<(m:Int):=by omega
  repeat (with_reducible first|(first|refine pI1 ?_|refine pS1 ?_);intros|refine pA1 ?_|refine pX1 ?_|refine pB1 ?_|exact True.intro)
  rename_i b16 H5 p5 g5 x5 H6 l6 g6 x6
  have hx6:∀b,b<Hk.length→H6[b]?=Hk[b]?:=fun b hb=>by rw[x6 b (by omega),x5 b (by omega)]
  have f6:=zhd1 hx6
  clear x5 x6 g5 hx6
  rw[fY _ fun h=>h]
  refine W_cut _ (rcarry_pick (N:=N) (a:=a) (c:=c) (o:=o) (ws:=ws) (bl:=bl') (pa:=pa') (cps:=cps) zf zf zf zf zf g6 (f2 _ fun _ _ _ _ _ hkeep _ _ _=>hkeep H6 fun b hb=>by rw[f6 _ fun h=>h b (by omega)];exact fz _ fun h=>h.1 b hb) (fm _ fun _ h _=>h) (fm _ fun _ _ h=>h) (fin0 _ fun _ _ _ _ _ h _=>h)
   (tabC_keep (f2 _ fun _ _ _ _ _ _ _ h _=>h) fun b x e hb=>by rw[f6 _ fun h=>h b (by omega)];exact fz _ fun h=>h.1 b (by omega)) (fin0 _ fun _ _ _ _ h _ _=>h) hk2) ?_
  rintro st ⟨ρ2,H7,rfl,⟨y0,y1,y3,y11,y12,y13,y14,y15,y16⟩,g7,l7,x7⟩
  have z0:ρ2 0=.c (.ptr (some (p,yb))):=by rw[y0];exact zf
  have z1:ρ2 1=.c (.int .i64 slot):=by rw[y1];exact zf
  have z3:ρ2 3=.c (.sl a3 k c3 o3):=by rw[y3];exact zf
  have z11:ρ2 11=.c (.sl a' nb c' o'):=by rw[y11];exact zf
  have z12:ρ2 12=.c (.bool is):=by rw[y12];exact zf
  have z13:ρ2 13=.c (.sl oa j j oo):=by rw[y13];exact zf
  have z14:ρ2 14=.c (.sl ha j j ho):=by rw[y14];exact zf
  have z15:ρ2 15=.c (.int .i64 (j:Nat)):=by rw[y15];exact zf
  have z16:ρ2 16=.c (.ptr (some (b16,0))):=by rw[y16];exact zf
  have hx7:∀b,b<Hk.length→H7[b]?=Hk[b]?:=fun b hb=>by rw[x7 b (by omega)];exact f6 _ fun h=>h b hb
  clear y0 y1 y3 y11 y12 y13 y14 y15 y16 e0 e1 e3 e11 e12 e13 e14 e15 g6 x7
  have hput:=rcarry_put (f:=f) (lo:=H2.length) (k:=j) (l:=bs) z11 z12 z13 z14 z16 g7 (f2 _ fun hsl _ _ _ _ _ _ _ _=>hsl.to fun b hb=>by rw[hx7 b (by omega)];exact fz _ fun h=>h.1 b hb) (f2 _ fun _ h _ _ _ _ _ _ _=>h) hnb hcap (f2 _ fun _ _ h _ _ _ _ _ _=>h) (by omega) (f2 _ fun _ _ _ h _ _ _ _ _=>fun b x e=>⟨Nat.lt_of_lt_of_le (h b x e).1 l2,(h b x e).2⟩)
   (fz _ fun h=>h.2.keepX (by omega) hx7) (by omega) (by omega) (fin0 _ fun _ _ hc _ _ _ _=>cpF_ok hc _ _) (f2 _ fun _ _ _ _ h _ _ _ _=>h j)
  have f7:=zhd1 hx7
  clear hx7 g7
  refine W.mono hput ?_
  rintro _ _ ⟨rfl,ρ3,H8,oa',ha',rfl,⟨y0,y1,y3,y11,y12,y15⟩,q13,q14,l8,x8,hi8⟩
  have w0:=y0.trans z0
  have w1:=y1.trans z1
  have w3:=y3.trans z3
  have w11:=y11.trans z11
  have w12:=y12.trans z12
  have w15:=y15.trans z15
  have f8:=zhd2 x8 hi8
  clear y0 y1 y3 y11 y12 y15 z0 z1 z3 z11 z12 z13 z14 z15 z16 x8 hi8 hput hbk
  repeat (with_reducible first|(first|refine pI1 ?_|refine pS1 ?_);intros|refine pA1 ?_|refine pX1 ?_|refine pB1 ?_|exact True.intro)
  exact loopQ_n (m-(j+1)) (by omega) ⟨_,j+1,true,true,H8,oa',ha',rfl,rfl,by omega,zf,zf,zf,zf,zf,zf,zf,zf,by omega,f8 _ fun x8 hi8=>⟨fun b hb=>by rw[x8 b hb,f7 _ fun h=>h b (by omega)];exact fz _ fun h=>h.1 b hb,hi8⟩⟩
 ·obtain rfl:j=m:=by omega
  have hxt:¬(j:Int)<(j:Int):=by omega
  repeat (with_reducible first|(first|refine pI1 ?_|refine pS1 ?_);intros|refine pA1 ?_|refine pX1 ?_|refine pB1 ?_|exact True.intro)
  rw[fm _ fun h _ _=>h]
  refine⟨⟨oa,ha,oo,ho,f,H2.length,rfl,l2,fz _ fun h=>h.2,?_⟩,by omega,fun b hb hp=>?_⟩
  ·exact f2 _ fun _ _ _ _ _ hkeep hend _ _=>hend Hk (hkeep Hk fun b hb=>fz _ fun h=>h.1 b hb)
  ·rw[fz _ fun h=>h.1 b (by omega)];exact f2 _ fun _ _ _ _ _ _ _ _ x2=>x2 b hb hp
end Go.Proofs.YtjcgdcadflplcaaDoor.AM.D21
namespace Go.Proofs.YtjcgdcadflplcaaDoor.AM.D21
open Go Go.Proofs.YtjcgdcadflplcaaDoor.AM Go.Proofs.YtjcgdcadflplcaaDoor.AM.P3
set_option maxHeartbeats 2000000
set_option maxRecDepth 100000
def fS:List SK:=[.int .i64,.int .i64,.int .u16]++List.replicate 64 (.int .u8)
def ShF (X:List Cell):Prop:=Shp fS X
theorem ShF.of {f:Fm} (h:f.p.length=64):ShF (frC f):=⟨⟨_,rfl⟩,⟨_,rfl⟩,⟨_,rfl⟩,Shp.nats h⟩
theorem ShF.len {X:List Cell} (h:ShF X):X.length=67:=Shp.len (S:=fS) h
def zF:List Cell:=frC fr0
theorem zF_eq:(List.replicate 2 (Cell.int .i64 0)++[(.int .u16 0)]++List.replicate 64 (.int .u8 0))=zF:=by rfl
theorem zF2_eq:(zF++List.replicate 2 (.int .i64 0)++[(.int .u16 0)]++List.replicate 64 (.int .u8 0))=zF++zF:=by rfl
theorem zF_sh:ShF zF:=ShF.of rfl
theorem zF_len:zF.length=67:=zF_sh.len
theorem eqF {X Y:List Cell} (h:ShF X) (h':ShF Y):eqaO [.int,.int,.int,.int,.int,.int,.int,.int,.int,.int,.int,.int,.int,.int,.int,.int,.int,.int,.int,.int,.int,.int,.int,.int,.int,.int,.int,.int,.int,.int,.int,.int,.int,.int,.int,.int,.int,.int,.int,.int,.int,.int,.int,.int,.int,.int,.int,.int,.int,.int,.int,.int,.int,.int,.int,.int,.int,.int,.int,.int,.int,.int,.int,.int,.int,.int,.int] false (.agg X) (.agg Y)=some (.c (.bool (decide (X=Y)))):=eqaO_shp (S:=fS) rfl ⟨h,h'⟩
theorem neF {X Y:List Cell} (h:ShF X) (h':ShF Y):eqaO [.int,.int,.int,.int,.int,.int,.int,.int,.int,.int,.int,.int,.int,.int,.int,.int,.int,.int,.int,.int,.int,.int,.int,.int,.int,.int,.int,.int,.int,.int,.int,.int,.int,.int,.int,.int,.int,.int,.int,.int,.int,.int,.int,.int,.int,.int,.int,.int,.int,.int,.int,.int,.int,.int,.int,.int,.int,.int,.int,.int,.int,.int,.int,.int,.int,.int,.int] true (.agg X) (.agg Y)=some (.c (.bool (decide (¬X=Y)))):=neaO_shp (S:=fS) rfl ⟨h,h'⟩
attribute [local go_sem] sub02 sub_left sub_right put_left put_right put_all' sub_all
attribute [local go_sem 2000] zF_eq zF2_eq eqF neF zF_len
theorem acc_len {l:List Nat} {o s:Int} {m:Nat}:(acc l o s m).1.p.length=64:=by
 unfold acc
 cases ht:tell l with
 |none=>rfl
 |some f=>
  simp only
  split
  ·split
   ·exact(tell_some ht).2
   ·rfl
  ·rfl
def hr (l:List Nat) (o s:Int) (m:Nat):List Cell × Int:=(frC (acc l o s m).1,(acc l o s m).2)
theorem hr_sh {l:List Nat} {o s:Int} {m:Nat}:ShF (hr l o s m).1:=ShF.of acc_len
theorem hr_nil {o s:Int} {m:Nat}:hr [] o s m=(zF,30):=by simp[hr,acc,tell,zF]
def chs (x y:List Cell × Int):List Cell × Int:=
 if x.2=0 then if y.2=0 then if x.1=y.1 then (x.1,3) else (zF,4) else (x.1,1) else if y.2=0 then (y.1,2) else (zF,0)
theorem s_heard {H:Heap} {bc bo bs bf:Nat} (i:Nat) {a1 a2 a:Option Ad} {n1 n2 n c1 c2 c:Nat} {o1 o2 o:Bool} {l:List Nat} {by_ slot:Int} {mem:Nat} {A B:List Cell}
  (hi:i=0∧a=a1∧n=n1∧c=c1∧o=o1∨i=1∧a=a2∧n=n2∧c=c2∧o=o2)
  (hT:H[0]?=some nibB) (hs:Sl H 1 a n (nats .u8 l)) (hc:n≤c) (hby:∀i,gx l i<256) (hm:mem<65536)
  (gc:H[bc]?=some (.cells [.sl a1 n1 c1 o1,.sl a2 n2 c2 o2] false none)) (go:H[bo]?=some (.cells [.int .i64 by_] false none)) (gs:H[bs]?=some (.cells [.int .i64 slot,.int .u16 (mem:Nat)] false none))
  (gf:H[bf]?=some (.cells (A++B) false none)) (hA:A.length=67) (hB:B.length=67) (hd:bc≠bf):
  WC F fXr [.c (.int .i64 (i:Nat)),.c (.ptr (some (bc,0))),.c (.ptr (some (bo,0))),.c (.ptr (some (bs,0))),.c (.ptr (some (bf,0)))] H fun v H'=>
   v=.c (.bool (decide ((hr l by_ slot mem).2=0)))∧H.length≤H'.length∧H'[bf]?=some (.cells (if i=0 then (hr l by_ slot mem).1++B else A++(hr l by_ slot mem).1) false none)∧∀b,b<H.length→b≠bf→H'[b]?=H[b]?:=by
 have lc:=lt_of_get gc;have lo:=lt_of_get go;have ls:=lt_of_get gs;have lf:=lt_of_get gf
 have hlen:=(hr_sh (l:=l) (o:=by_) (s:=slot) (m:=mem)).len
 have hnil:a=none→(hr l by_ slot mem).2=30:=fun e=>by
  have h0:=hs.nil e
  have:l=[]:=by have:=hs.len;simpa [nats,h0] using this
  rw[this,hr_nil]
 have hac:=s_Accept (by_:=by_) (slot:=slot) (o:=o) hT hs hc hby hm
 change WC F fXy _ H fun v H'=>v=.tup [.agg (hr l by_ slot mem).1,.c (.int .i64 (hr l by_ slot mem).2)]∧X1 H H' at hac
 generalize hr l by_ slot mem=q at *
 obtain⟨X,e⟩:=q
 dsimp only at hlen hnil hac ⊢
 have hzl:=zF_len
 have hab:(A++B).length=134:=by rw[List.length_append,hA,hB]
 have hz2:(zF++zF).length=134:=rfl
 refine WC_start eXr (by simp) ?_
 unfold cXr
 rcases hi with ⟨rfl,rfl,rfl,rfl,rfl⟩|⟨rfl,rfl,rfl,rfl,rfl⟩
 ·repeat (with_reducible first|(first|refine pI1 ?_|refine pS1 ?_);intros|refine pA1 ?_|refine pX1 ?_|refine pB1 ?_|exact True.intro)
  refine outM_call hac ?_
  rintro _ H1 ⟨rfl,l1,x1⟩
  repeat (with_reducible first|(first|refine pI1 ?_|refine pS1 ?_);intros|refine pA1 ?_|refine pX1 ?_|refine pB1 ?_|exact True.intro)
  cases a with
  |none=>
   obtain rfl:e=30:=hnil rfl
   repeat (with_reducible first|(first|refine pI1 ?_|refine pS1 ?_);intros|refine pA1 ?_|refine pX1 ?_|refine pB1 ?_|exact True.intro)
   exact⟨rfl,by omega,by simp (disch:=first|with_reducible assumption|omega) only [go_sem, *,reduceCtorEq,↓reduceIte,Nat.reduceLT,Nat.reduceBEq,Nat.reduceAdd,Nat.reduceSub,Nat.reduceMul,Nat.reduceDiv,Nat.reduceMod,Nat.reducePow,Nat.reduceEqDiff,Nat.reduceLeDiff,Int.reduceLT,Int.reduceLE,Int.reduceNeg,Int.reduceToNat,Int.reduceAdd,Int.reduceSub,Int.reduceMul,Int.reduceEq,Int.reduceNe,Int.reduceBEq,Int.reduceBNe,Int.reducePow],fun b hb hne=>by simp (disch:=first|with_reducible assumption|omega) only [go_sem, *,reduceCtorEq,↓reduceIte,Nat.reduceLT,Nat.reduceBEq,Nat.reduceAdd,Nat.reduceSub,Nat.reduceMul,Nat.reduceDiv,Nat.reduceMod,Nat.reducePow,Nat.reduceEqDiff,Nat.reduceLeDiff,Int.reduceLT,Int.reduceLE,Int.reduceNeg,Int.reduceToNat,Int.reduceAdd,Int.reduceSub,Int.reduceMul,Int.reduceEq,Int.reduceNe,Int.reduceBEq,Int.reduceBNe,Int.reducePow]⟩
  |some a=>
   repeat (with_reducible first|(first|refine pI1 ?_|refine pS1 ?_);intros|refine pA1 ?_|refine pX1 ?_|refine pB1 ?_|exact True.intro)
   exact⟨rfl,by omega,by simp (disch:=first|with_reducible assumption|omega) only [go_sem, *,reduceCtorEq,↓reduceIte,Nat.reduceLT,Nat.reduceBEq,Nat.reduceAdd,Nat.reduceSub,Nat.reduceMul,Nat.reduceDiv,Nat.reduceMod,Nat.reducePow,Nat.reduceEqDiff,Nat.reduceLeDiff,Int.reduceLT,Int.reduceLE,Int.reduceNeg,Int.reduceToNat,Int.reduceAdd,Int.reduceSub,Int.reduceMul,Int.reduceEq,Int.reduceNe,Int.reduceBEq,Int.reduceBNe,Int.reducePow],fun b hb hne=>by simp (disch:=first|with_reducible assumption|omega) only [go_sem, *,reduceCtorEq,↓reduceIte,Nat.reduceLT,Nat.reduceBEq,Nat.reduceAdd,Nat.reduceSub,Nat.reduceMul,Nat.reduceDiv,Nat.reduceMod,Nat.reducePow,Nat.reduceEqDiff,Nat.reduceLeDiff,Int.reduceLT,Int.reduceLE,Int.reduceNeg,Int.reduceToNat,Int.reduceAdd,Int.reduceSub,Int.reduceMul,Int.reduceEq,Int.reduceNe,Int.reduceBEq,Int.reduceBNe,Int.reducePow]⟩
 ·repeat (with_reducible first|(first|refine pI1 ?_|refine pS1 ?_);intros|refine pA1 ?_|refine pX1 ?_|refine pB1 ?_|exact True.intro)
  refine outM_call hac ?_
  rintro _ H1 ⟨rfl,l1,x1⟩
  repeat (with_reducible first|(first|refine pI1 ?_|refine pS1 ?_);intros|refine pA1 ?_|refine pX1 ?_|refine pB1 ?_|exact True.intro)
  cases a with
  |none=>
   obtain rfl:e=30:=hnil rfl
   repeat (with_reducible first|(first|refine pI1 ?_|refine pS1 ?_);intros|refine pA1 ?_|refine pX1 ?_|refine pB1 ?_|exact True.intro)
   exact⟨rfl,by omega,by simp (disch:=first|with_reducible assumption|omega) only [go_sem, *,reduceCtorEq,↓reduceIte,Nat.reduceLT,Nat.reduceBEq,Nat.reduceAdd,Nat.reduceSub,Nat.reduceMul,Nat.reduceDiv,Nat.reduceMod,Nat.reducePow,Nat.reduceEqDiff,Nat.reduceLeDiff,Int.reduceLT,Int.reduceLE,Int.reduceNeg,Int.reduceToNat,Int.reduceAdd,Int.reduceSub,Int.reduceMul,Int.reduceEq,Int.reduceNe,Int.reduceBEq,Int.reduceBNe,Int.reducePow],fun b hb hne=>by simp (disch:=first|with_reducible assumption|omega) only [go_sem, *,reduceCtorEq,↓reduceIte,Nat.reduceLT,Nat.reduceBEq,Nat.reduceAdd,Nat.reduceSub,Nat.reduceMul,Nat.reduceDiv,Nat.reduceMod,Nat.reducePow,Nat.reduceEqDiff,Nat.reduceLeDiff,Int.reduceLT,Int.reduceLE,Int.reduceNeg,Int.reduceToNat,Int.reduceAdd,Int.reduceSub,Int.reduceMul,Int.reduceEq,Int.reduceNe,Int.reduceBEq,Int.reduceBNe,Int.reducePow]⟩
  |some a=>
   repeat (with_reducible first|(first|refine pI1 ?_|refine pS1 ?_);intros|refine pA1 ?_|refine pX1 ?_|refine pB1 ?_|exact True.intro)
   exact⟨rfl,by omega,by simp (disch:=first|with_reducible assumption|omega) only [go_sem, *,reduceCtorEq,↓reduceIte,Nat.reduceLT,Nat.reduceBEq,Nat.reduceAdd,Nat.reduceSub,Nat.reduceMul,Nat.reduceDiv,Nat.reduceMod,Nat.reducePow,Nat.reduceEqDiff,Nat.reduceLeDiff,Int.reduceLT,Int.reduceLE,Int.reduceNeg,Int.reduceToNat,Int.reduceAdd,Int.reduceSub,Int.reduceMul,Int.reduceEq,Int.reduceNe,Int.reduceBEq,Int.reduceBNe,Int.reducePow],fun b hb hne=>by simp (disch:=first|with_reducible assumption|omega) only [go_sem, *,reduceCtorEq,↓reduceIte,Nat.reduceLT,Nat.reduceBEq,Nat.reduceAdd,Nat.reduceSub,Nat.reduceMul,Nat.reduceDiv,Nat.reduceMod,Nat.reducePow,Nat.reduceEqDiff,Nat.reduceLeDiff,Int.reduceLT,Int.reduceLE,Int.reduceNeg,Int.reduceToNat,Int.reduceAdd,Int.reduceSub,Int.reduceMul,Int.reduceEq,Int.reduceNe,Int.reduceBEq,Int.reduceBNe,Int.reducePow]⟩
structure Cpy (H:Heap) (a:Option Ad) (n c:Nat) (l:List Nat):Prop where
 sl:Sl H 1 a n (nats .u8 l)
 le:n≤c
 by_:∀i,gx l i<256
theorem Cpy.to {H H':Heap} {a:Option Ad} {n c:Nat} {l:List Nat} (h:Cpy H a n c l) (hx:∀b,b<H.length→H'[b]?=H[b]?):Cpy H' a n c l:=⟨h.sl.to hx,h.le,h.by_⟩
theorem s_Choose {H:Heap} {a1 a2:Option Ad} {n1 n2 c1 c2:Nat} {o1 o2:Bool} {l m:List Nat} {by_ slot:Int} {mem:Nat}
  (hT:H[0]?=some nibB) (h1:Cpy H a1 n1 c1 l) (h2:Cpy H a2 n2 c2 m) (hm:mem<65536):
  WC F fXq [.c (.int .i64 by_),.agg [.int .i64 slot,.int .u16 (mem:Nat)],.c (.sl a1 n1 c1 o1),.c (.sl a2 n2 c2 o2)] H fun v H'=>
   v=.tup [.agg (chs (hr l by_ slot mem) (hr m by_ slot mem)).1,.c (.int .i64 (chs (hr l by_ slot mem) (hr m by_ slot mem)).2)]∧X1 H H':=by
 have h0:=lt_of_get hT
 have hzl:=zF_len
 have hz2:(zF++zF).length=134:=rfl
 refine WC_start eXq (by simp) ?_
 unfold cXq
 repeat (with_reducible first|(first|refine pI1 ?_|refine pS1 ?_);intros|refine pA1 ?_|refine pX1 ?_|refine pB1 ?_|exact True.intro)
 rename_i b1 H1 p1 g1 x1 b2 H2 p2 g2 x2 b3 H3 p3 g3 x3 b4 H4 p4 g4 x4 H5 p5 g5 x5 b6 H6 p6 g6 x6
 refine W_turn bXq_11.eq_1 ?_
 repeat (with_reducible first|(first|refine pI1 ?_|refine pS1 ?_);intros|refine pA1 ?_|refine pX1 ?_|refine pB1 ?_|exact True.intro)
 refine outM_call (s_heard (H:=H6) (A:=zF) (B:=zF) (by_:=by_) 0 (.inl ⟨rfl,rfl,rfl,rfl,rfl⟩) (by simp (disch:=first|with_reducible assumption|omega) only [go_sem, *,reduceCtorEq,↓reduceIte,Nat.reduceLT,Nat.reduceBEq,Nat.reduceAdd,Nat.reduceSub,Nat.reduceMul,Nat.reduceDiv,Nat.reduceMod,Nat.reducePow,Nat.reduceEqDiff,Nat.reduceLeDiff,Int.reduceLT,Int.reduceLE,Int.reduceNeg,Int.reduceToNat,Int.reduceAdd,Int.reduceSub,Int.reduceMul,Int.reduceEq,Int.reduceNe,Int.reduceBEq,Int.reduceBNe,Int.reducePow]) (h1.to fun b hb=>by simp (disch:=first|with_reducible assumption|omega) only [go_sem, *,reduceCtorEq,↓reduceIte,Nat.reduceLT,Nat.reduceBEq,Nat.reduceAdd,Nat.reduceSub,Nat.reduceMul,Nat.reduceDiv,Nat.reduceMod,Nat.reducePow,Nat.reduceEqDiff,Nat.reduceLeDiff,Int.reduceLT,Int.reduceLE,Int.reduceNeg,Int.reduceToNat,Int.reduceAdd,Int.reduceSub,Int.reduceMul,Int.reduceEq,Int.reduceNe,Int.reduceBEq,Int.reduceBNe,Int.reducePow]).sl h1.le h1.by_ hm (by simp (disch:=first|with_reducible assumption|omega) only [go_sem, *,reduceCtorEq,↓reduceIte,Nat.reduceLT,Nat.reduceBEq,Nat.reduceAdd,Nat.reduceSub,Nat.reduceMul,Nat.reduceDiv,Nat.reduceMod,Nat.reducePow,Nat.reduceEqDiff,Nat.reduceLeDiff,Int.reduceLT,Int.reduceLE,Int.reduceNeg,Int.reduceToNat,Int.reduceAdd,Int.reduceSub,Int.reduceMul,Int.reduceEq,Int.reduceNe,Int.reduceBEq,Int.reduceBNe,Int.reducePow];first|done|rfl) (by simp (disch:=first|with_reducible assumption|omega) only [go_sem, *,reduceCtorEq,↓reduceIte,Nat.reduceLT,Nat.reduceBEq,Nat.reduceAdd,Nat.reduceSub,Nat.reduceMul,Nat.reduceDiv,Nat.reduceMod,Nat.reducePow,Nat.reduceEqDiff,Nat.reduceLeDiff,Int.reduceLT,Int.reduceLE,Int.reduceNeg,Int.reduceToNat,Int.reduceAdd,Int.reduceSub,Int.reduceMul,Int.reduceEq,Int.reduceNe,Int.reduceBEq,Int.reduceBNe,Int.reducePow];first|done|rfl) (by simp (disch:=first|with_reducible assumption|omega) only [go_sem, *,reduceCtorEq,↓reduceIte,Nat.reduceLT,Nat.reduceBEq,Nat.reduceAdd,Nat.reduceSub,Nat.reduceMul,Nat.reduceDiv,Nat.reduceMod,Nat.reducePow,Nat.reduceEqDiff,Nat.reduceLeDiff,Int.reduceLT,Int.reduceLE,Int.reduceNeg,Int.reduceToNat,Int.reduceAdd,Int.reduceSub,Int.reduceMul,Int.reduceEq,Int.reduceNe,Int.reduceBEq,Int.reduceBNe,Int.reducePow];first|done|rfl) g6 zF_len zF_len (by omega)) ?_
 rintro _ H7 ⟨rfl,l7,g7,x7⟩
 rw[if_pos rfl] at g7
 have shl:=hr_sh (l:=l) (o:=by_) (s:=slot) (m:=mem)
 have shm:=hr_sh (l:=m) (o:=by_) (s:=slot) (m:=mem)
 have s_h2:=@s_heard H7 b4 b1 b2 b6 1 a1 a2 a2 n1 n2 n2 c1 c2 c2 o1 o2 o2 m by_ slot mem (hr l by_ slot mem).1 zF
 generalize hr l by_ slot mem=q at *
 obtain⟨X,e⟩:=q
 generalize hr m by_ slot mem=q at *
 obtain⟨Y,f⟩:=q
 dsimp only at shl shm s_h2 g7 ⊢
 have lX:=shl.len
 have lY:=shm.len
 have h2':=h2.to (H':=H7) fun b hb=>by simp (disch:=first|with_reducible assumption|omega) only [go_sem, *,reduceCtorEq,↓reduceIte,Nat.reduceLT,Nat.reduceBEq,Nat.reduceAdd,Nat.reduceSub,Nat.reduceMul,Nat.reduceDiv,Nat.reduceMod,Nat.reducePow,Nat.reduceEqDiff,Nat.reduceLeDiff,Int.reduceLT,Int.reduceLE,Int.reduceNeg,Int.reduceToNat,Int.reduceAdd,Int.reduceSub,Int.reduceMul,Int.reduceEq,Int.reduceNe,Int.reduceBEq,Int.reduceBNe,Int.reducePow]
 replace s_h2:=s_h2 (.inr ⟨rfl,rfl,rfl,rfl,rfl⟩) (by simp (disch:=first|with_reducible assumption|omega) only [go_sem, *,reduceCtorEq,↓reduceIte,Nat.reduceLT,Nat.reduceBEq,Nat.reduceAdd,Nat.reduceSub,Nat.reduceMul,Nat.reduceDiv,Nat.reduceMod,Nat.reducePow,Nat.reduceEqDiff,Nat.reduceLeDiff,Int.reduceLT,Int.reduceLE,Int.reduceNeg,Int.reduceToNat,Int.reduceAdd,Int.reduceSub,Int.reduceMul,Int.reduceEq,Int.reduceNe,Int.reduceBEq,Int.reduceBNe,Int.reducePow]) h2'.sl h2.le h2.by_ hm (by simp (disch:=first|with_reducible assumption|omega) only [go_sem, *,reduceCtorEq,↓reduceIte,Nat.reduceLT,Nat.reduceBEq,Nat.reduceAdd,Nat.reduceSub,Nat.reduceMul,Nat.reduceDiv,Nat.reduceMod,Nat.reducePow,Nat.reduceEqDiff,Nat.reduceLeDiff,Int.reduceLT,Int.reduceLE,Int.reduceNeg,Int.reduceToNat,Int.reduceAdd,Int.reduceSub,Int.reduceMul,Int.reduceEq,Int.reduceNe,Int.reduceBEq,Int.reduceBNe,Int.reducePow];first|done|rfl) (by simp (disch:=first|with_reducible assumption|omega) only [go_sem, *,reduceCtorEq,↓reduceIte,Nat.reduceLT,Nat.reduceBEq,Nat.reduceAdd,Nat.reduceSub,Nat.reduceMul,Nat.reduceDiv,Nat.reduceMod,Nat.reducePow,Nat.reduceEqDiff,Nat.reduceLeDiff,Int.reduceLT,Int.reduceLE,Int.reduceNeg,Int.reduceToNat,Int.reduceAdd,Int.reduceSub,Int.reduceMul,Int.reduceEq,Int.reduceNe,Int.reduceBEq,Int.reduceBNe,Int.reducePow];first|done|rfl) (by simp (disch:=first|with_reducible assumption|omega) only [go_sem, *,reduceCtorEq,↓reduceIte,Nat.reduceLT,Nat.reduceBEq,Nat.reduceAdd,Nat.reduceSub,Nat.reduceMul,Nat.reduceDiv,Nat.reduceMod,Nat.reducePow,Nat.reduceEqDiff,Nat.reduceLeDiff,Int.reduceLT,Int.reduceLE,Int.reduceNeg,Int.reduceToNat,Int.reduceAdd,Int.reduceSub,Int.reduceMul,Int.reduceEq,Int.reduceNe,Int.reduceBEq,Int.reduceBNe,Int.reducePow];first|done|rfl) g7 lX zF_len (by omega)
 rw[if_neg (by omega)] at s_h2
 by_cases he:e=0
 ·by_cases hf:f=0
  ·subst he hf
   repeat (with_reducible first|(first|refine pI1 ?_|refine pS1 ?_);intros|refine pA1 ?_|refine pX1 ?_|refine pB1 ?_|exact True.intro)
   refine W_turn bXq_11.eq_1 ?_
   repeat (with_reducible first|(first|refine pI1 ?_|refine pS1 ?_);intros|refine pA1 ?_|refine pX1 ?_|refine pB1 ?_|exact True.intro)
   refine outM_call s_h2 ?_
   rintro _ H8 ⟨rfl,l8,g8,x8⟩
   repeat (with_reducible first|(first|refine pI1 ?_|refine pS1 ?_);intros|refine pA1 ?_|refine pX1 ?_|refine pB1 ?_|exact True.intro)
   refine W_turn bXq_11.eq_1 ?_
   by_cases hXY:X=Y
   ·subst hXY
    rw[show chs (X,0) (X,0)=(X,3) by simp[chs]]
    repeat (with_reducible first|(first|refine pI1 ?_|refine pS1 ?_);intros|refine pA1 ?_|refine pX1 ?_|refine pB1 ?_|exact True.intro)
    exact⟨rfl,by omega,fun b hb=>by simp (disch:=first|with_reducible assumption|omega) only [go_sem, *,reduceCtorEq,↓reduceIte,Nat.reduceLT,Nat.reduceBEq,Nat.reduceAdd,Nat.reduceSub,Nat.reduceMul,Nat.reduceDiv,Nat.reduceMod,Nat.reducePow,Nat.reduceEqDiff,Nat.reduceLeDiff,Int.reduceLT,Int.reduceLE,Int.reduceNeg,Int.reduceToNat,Int.reduceAdd,Int.reduceSub,Int.reduceMul,Int.reduceEq,Int.reduceNe,Int.reduceBEq,Int.reduceBNe,Int.reducePow]⟩
   ·rw[show chs (X,0) (Y,0)=(zF,4) by simp[chs,hXY]]
    repeat (with_reducible first|(first|refine pI1 ?_|refine pS1 ?_);intros|refine pA1 ?_|refine pX1 ?_|refine pB1 ?_|exact True.intro)
    exact⟨rfl,by omega,fun b hb=>by simp (disch:=first|with_reducible assumption|omega) only [go_sem, *,reduceCtorEq,↓reduceIte,Nat.reduceLT,Nat.reduceBEq,Nat.reduceAdd,Nat.reduceSub,Nat.reduceMul,Nat.reduceDiv,Nat.reduceMod,Nat.reducePow,Nat.reduceEqDiff,Nat.reduceLeDiff,Int.reduceLT,Int.reduceLE,Int.reduceNeg,Int.reduceToNat,Int.reduceAdd,Int.reduceSub,Int.reduceMul,Int.reduceEq,Int.reduceNe,Int.reduceBEq,Int.reduceBNe,Int.reducePow]⟩
  ·subst he
   rw[show chs (X,0) (Y,f)=(X,1) by simp[chs,hf]]
   repeat (with_reducible first|(first|refine pI1 ?_|refine pS1 ?_);intros|refine pA1 ?_|refine pX1 ?_|refine pB1 ?_|exact True.intro)
   refine W_turn bXq_11.eq_1 ?_
   repeat (with_reducible first|(first|refine pI1 ?_|refine pS1 ?_);intros|refine pA1 ?_|refine pX1 ?_|refine pB1 ?_|exact True.intro)
   refine outM_call s_h2 ?_
   rintro _ H8 ⟨rfl,l8,g8,x8⟩
   repeat (with_reducible first|(first|refine pI1 ?_|refine pS1 ?_);intros|refine pA1 ?_|refine pX1 ?_|refine pB1 ?_|exact True.intro)
   refine W_turn bXq_11.eq_1 ?_
   repeat (with_reducible first|(first|refine pI1 ?_|refine pS1 ?_);intros|refine pA1 ?_|refine pX1 ?_|refine pB1 ?_|exact True.intro)
   exact⟨rfl,by omega,fun b hb=>by simp (disch:=first|with_reducible assumption|omega) only [go_sem, *,reduceCtorEq,↓reduceIte,Nat.reduceLT,Nat.reduceBEq,Nat.reduceAdd,Nat.reduceSub,Nat.reduceMul,Nat.reduceDiv,Nat.reduceMod,Nat.reducePow,Nat.reduceEqDiff,Nat.reduceLeDiff,Int.reduceLT,Int.reduceLE,Int.reduceNeg,Int.reduceToNat,Int.reduceAdd,Int.reduceSub,Int.reduceMul,Int.reduceEq,Int.reduceNe,Int.reduceBEq,Int.reduceBNe,Int.reducePow]⟩
 ·by_cases hf:f=0
  ·subst hf
   rw[show chs (X,e) (Y,0)=(Y,2) by simp[chs,he]]
   repeat (with_reducible first|(first|refine pI1 ?_|refine pS1 ?_);intros|refine pA1 ?_|refine pX1 ?_|refine pB1 ?_|exact True.intro)
   refine W_turn bXq_11.eq_1 ?_
   repeat (with_reducible first|(first|refine pI1 ?_|refine pS1 ?_);intros|refine pA1 ?_|refine pX1 ?_|refine pB1 ?_|exact True.intro)
   refine outM_call s_h2 ?_
   rintro _ H8 ⟨rfl,l8,g8,x8⟩
   repeat (with_reducible first|(first|refine pI1 ?_|refine pS1 ?_);intros|refine pA1 ?_|refine pX1 ?_|refine pB1 ?_|exact True.intro)
   refine W_turn bXq_11.eq_1 ?_
   repeat (with_reducible first|(first|refine pI1 ?_|refine pS1 ?_);intros|refine pA1 ?_|refine pX1 ?_|refine pB1 ?_|exact True.intro)
   exact⟨rfl,by omega,fun b hb=>by simp (disch:=first|with_reducible assumption|omega) only [go_sem, *,reduceCtorEq,↓reduceIte,Nat.reduceLT,Nat.reduceBEq,Nat.reduceAdd,Nat.reduceSub,Nat.reduceMul,Nat.reduceDiv,Nat.reduceMod,Nat.reducePow,Nat.reduceEqDiff,Nat.reduceLeDiff,Int.reduceLT,Int.reduceLE,Int.reduceNeg,Int.reduceToNat,Int.reduceAdd,Int.reduceSub,Int.reduceMul,Int.reduceEq,Int.reduceNe,Int.reduceBEq,Int.reduceBNe,Int.reducePow]⟩
  ·rw[show chs (X,e) (Y,f)=(zF,0) by simp[chs,hf,he]]
   repeat (with_reducible first|(first|refine pI1 ?_|refine pS1 ?_);intros|refine pA1 ?_|refine pX1 ?_|refine pB1 ?_|exact True.intro)
   refine W_turn bXq_11.eq_1 ?_
   repeat (with_reducible first|(first|refine pI1 ?_|refine pS1 ?_);intros|refine pA1 ?_|refine pX1 ?_|refine pB1 ?_|exact True.intro)
   refine outM_call s_h2 ?_
   rintro _ H8 ⟨rfl,l8,g8,x8⟩
   repeat (with_reducible first|(first|refine pI1 ?_|refine pS1 ?_);intros|refine pA1 ?_|refine pX1 ?_|refine pB1 ?_|exact True.intro)
   refine W_turn bXq_11.eq_1 ?_
   repeat (with_reducible first|(first|refine pI1 ?_|refine pS1 ?_);intros|refine pA1 ?_|refine pX1 ?_|refine pB1 ?_|exact True.intro)
   exact⟨rfl,by omega,fun b hb=>by simp (disch:=first|with_reducible assumption|omega) only [go_sem, *,reduceCtorEq,↓reduceIte,Nat.reduceLT,Nat.reduceBEq,Nat.reduceAdd,Nat.reduceSub,Nat.reduceMul,Nat.reduceDiv,Nat.reduceMod,Nat.reducePow,Nat.reduceEqDiff,Nat.reduceLeDiff,Int.reduceLT,Int.reduceLE,Int.reduceNeg,Int.reduceToNat,Int.reduceAdd,Int.reduceSub,Int.reduceMul,Int.reduceEq,Int.reduceNe,Int.reduceBEq,Int.reduceBNe,Int.reducePow]⟩
theorem s_rChoose {H:Heap} {a1 a2:Option Ad} {n1 n2 c1 c2:Nat} {o1 o2:Bool} {l m:List Nat} {by_ slot:Int} {mem:Nat}
  (h1:Cpy H a1 n1 c1 l) (h2:Cpy H a2 n2 c2 m) (hm:mem<65536):
  WC F fX20 [.c (.int .i64 by_),.agg [.int .i64 slot,.int .u16 (mem:Nat)],.c (.sl a1 n1 c1 o1),.c (.sl a2 n2 c2 o2)] H fun v H'=>
   v=.tup [.agg (chs (hr l by_ slot mem) (hr m by_ slot mem)).1,.c (.int .i64 (chs (hr l by_ slot mem) (hr m by_ slot mem)).2)]∧X1 H H':=by
 have hzl:=zF_len
 have shl:=hr_sh (l:=l) (o:=by_) (s:=slot) (m:=mem)
 have shm:=hr_sh (l:=m) (o:=by_) (s:=slot) (m:=mem)
 have w1:∀{H1},Cpy H1 a1 n1 c1 l→WC F fX1p [.c (.sl a1 n1 c1 o1),.c (.int .i64 by_),.agg [.int .i64 slot,.int .u16 (mem:Nat)]] H1 fun v H'=>v=.tup [.agg (hr l by_ slot mem).1,.c (.int .i64 (hr l by_ slot mem).2)]∧X1 H1 H':=fun h=>s_rAccept h.sl h.le h.by_ hm
 have w2:∀{H1},Cpy H1 a2 n2 c2 m→WC F fX1p [.c (.sl a2 n2 c2 o2),.c (.int .i64 by_),.agg [.int .i64 slot,.int .u16 (mem:Nat)]] H1 fun v H'=>v=.tup [.agg (hr m by_ slot mem).1,.c (.int .i64 (hr m by_ slot mem).2)]∧X1 H1 H':=fun h=>s_rAccept h.sl h.le h.by_ hm
 generalize hr l by_ slot mem=q at *
 obtain⟨X,e⟩:=q
 generalize hr m by_ slot mem=q at *
 obtain⟨Y,f⟩:=q
 dsimp only at shl shm w1 w2
 have lX:=shl.len
 have lY:=shm.len
 refine WC_start eX20 (by simp) ?_
 unfold cX20
 repeat (with_reducible first|(first|refine pI1 ?_|refine pS1 ?_);intros|refine pA1 ?_|refine pX1 ?_|refine pB1 ?_|exact True.intro)
 rename_i b1 H1 p1 g1 x1 b2 H2 p2 g2 x2
 refine outM_call (w1 (h1.to fun b hb=>by simp (disch:=first|with_reducible assumption|omega) only [go_sem, *,reduceCtorEq,↓reduceIte,Nat.reduceLT,Nat.reduceBEq,Nat.reduceAdd,Nat.reduceSub,Nat.reduceMul,Nat.reduceDiv,Nat.reduceMod,Nat.reducePow,Nat.reduceEqDiff,Nat.reduceLeDiff,Int.reduceLT,Int.reduceLE,Int.reduceNeg,Int.reduceToNat,Int.reduceAdd,Int.reduceSub,Int.reduceMul,Int.reduceEq,Int.reduceNe,Int.reduceBEq,Int.reduceBNe,Int.reducePow])) ?_
 rintro _ H3 ⟨rfl,l3,x3⟩
 repeat (with_reducible first|(first|refine pI1 ?_|refine pS1 ?_);intros|refine pA1 ?_|refine pX1 ?_|refine pB1 ?_|exact True.intro)
 rename_i b4 H4 p4 g4 x4 H5 p5 g5 x5
 refine outM_call (w2 (h2.to fun b hb=>by simp (disch:=first|with_reducible assumption|omega) only [go_sem, *,reduceCtorEq,↓reduceIte,Nat.reduceLT,Nat.reduceBEq,Nat.reduceAdd,Nat.reduceSub,Nat.reduceMul,Nat.reduceDiv,Nat.reduceMod,Nat.reducePow,Nat.reduceEqDiff,Nat.reduceLeDiff,Int.reduceLT,Int.reduceLE,Int.reduceNeg,Int.reduceToNat,Int.reduceAdd,Int.reduceSub,Int.reduceMul,Int.reduceEq,Int.reduceNe,Int.reduceBEq,Int.reduceBNe,Int.reducePow])) ?_
 rintro _ H6 ⟨rfl,l6,x6⟩
 clear w1 w2
 by_cases he:e=0
 ·by_cases hf:f=0
  ·subst he hf
   by_cases hXY:X=Y
   ·subst hXY
    rw[show chs (X,0) (X,0)=(X,3) by simp[chs]]
    repeat (with_reducible first|(first|refine pI1 ?_|refine pS1 ?_);intros|refine pA1 ?_|refine pX1 ?_|refine pB1 ?_|exact True.intro)
    exact⟨rfl,by omega,fun b hb=>by simp (disch:=first|with_reducible assumption|omega) only [go_sem, *,reduceCtorEq,↓reduceIte,Nat.reduceLT,Nat.reduceBEq,Nat.reduceAdd,Nat.reduceSub,Nat.reduceMul,Nat.reduceDiv,Nat.reduceMod,Nat.reducePow,Nat.reduceEqDiff,Nat.reduceLeDiff,Int.reduceLT,Int.reduceLE,Int.reduceNeg,Int.reduceToNat,Int.reduceAdd,Int.reduceSub,Int.reduceMul,Int.reduceEq,Int.reduceNe,Int.reduceBEq,Int.reduceBNe,Int.reducePow]⟩
   ·rw[show chs (X,0) (Y,0)=(zF,4) by simp[chs,hXY]]
    repeat (with_reducible first|(first|refine pI1 ?_|refine pS1 ?_);intros|refine pA1 ?_|refine pX1 ?_|refine pB1 ?_|exact True.intro)
    exact⟨rfl,by omega,fun b hb=>by simp (disch:=first|with_reducible assumption|omega) only [go_sem, *,reduceCtorEq,↓reduceIte,Nat.reduceLT,Nat.reduceBEq,Nat.reduceAdd,Nat.reduceSub,Nat.reduceMul,Nat.reduceDiv,Nat.reduceMod,Nat.reducePow,Nat.reduceEqDiff,Nat.reduceLeDiff,Int.reduceLT,Int.reduceLE,Int.reduceNeg,Int.reduceToNat,Int.reduceAdd,Int.reduceSub,Int.reduceMul,Int.reduceEq,Int.reduceNe,Int.reduceBEq,Int.reduceBNe,Int.reducePow]⟩
  ·subst he
   rw[show chs (X,0) (Y,f)=(X,1) by simp[chs,hf]]
   repeat (with_reducible first|(first|refine pI1 ?_|refine pS1 ?_);intros|refine pA1 ?_|refine pX1 ?_|refine pB1 ?_|exact True.intro)
   exact⟨rfl,by omega,fun b hb=>by simp (disch:=first|with_reducible assumption|omega) only [go_sem, *,reduceCtorEq,↓reduceIte,Nat.reduceLT,Nat.reduceBEq,Nat.reduceAdd,Nat.reduceSub,Nat.reduceMul,Nat.reduceDiv,Nat.reduceMod,Nat.reducePow,Nat.reduceEqDiff,Nat.reduceLeDiff,Int.reduceLT,Int.reduceLE,Int.reduceNeg,Int.reduceToNat,Int.reduceAdd,Int.reduceSub,Int.reduceMul,Int.reduceEq,Int.reduceNe,Int.reduceBEq,Int.reduceBNe,Int.reducePow]⟩
 ·by_cases hf:f=0
  ·subst hf
   rw[show chs (X,e) (Y,0)=(Y,2) by simp[chs,he]]
   repeat (with_reducible first|(first|refine pI1 ?_|refine pS1 ?_);intros|refine pA1 ?_|refine pX1 ?_|refine pB1 ?_|exact True.intro)
   exact⟨rfl,by omega,fun b hb=>by simp (disch:=first|with_reducible assumption|omega) only [go_sem, *,reduceCtorEq,↓reduceIte,Nat.reduceLT,Nat.reduceBEq,Nat.reduceAdd,Nat.reduceSub,Nat.reduceMul,Nat.reduceDiv,Nat.reduceMod,Nat.reducePow,Nat.reduceEqDiff,Nat.reduceLeDiff,Int.reduceLT,Int.reduceLE,Int.reduceNeg,Int.reduceToNat,Int.reduceAdd,Int.reduceSub,Int.reduceMul,Int.reduceEq,Int.reduceNe,Int.reduceBEq,Int.reduceBNe,Int.reducePow]⟩
  ·rw[show chs (X,e) (Y,f)=(zF,0) by simp[chs,hf,he]]
   repeat (with_reducible first|(first|refine pI1 ?_|refine pS1 ?_);intros|refine pA1 ?_|refine pX1 ?_|refine pB1 ?_|exact True.intro)
   exact⟨rfl,by omega,fun b hb=>by simp (disch:=first|with_reducible assumption|omega) only [go_sem, *,reduceCtorEq,↓reduceIte,Nat.reduceLT,Nat.reduceBEq,Nat.reduceAdd,Nat.reduceSub,Nat.reduceMul,Nat.reduceDiv,Nat.reduceMod,Nat.reducePow,Nat.reduceEqDiff,Nat.reduceLeDiff,Int.reduceLT,Int.reduceLE,Int.reduceNeg,Int.reduceToNat,Int.reduceAdd,Int.reduceSub,Int.reduceMul,Int.reduceEq,Int.reduceNe,Int.reduceBEq,Int.reduceBNe,Int.reducePow]⟩
end Go.Proofs.YtjcgdcadflplcaaDoor.AM.D21
namespace Go.Proofs.YtjcgdcadflplcaaDoor.AM.D21
open Go Go.Proofs.YtjcgdcadflplcaaDoor.AM Go.Proofs.YtjcgdcadflplcaaDoor.AM.C02 Go.Proofs.YtjcgdcadflplcaaDoor.AM.C07 Go.Proofs.YtjcgdcadflplcaaDoor.AM.C21
set_option maxHeartbeats 2000000
set_option maxRecDepth 100000
attribute [local go_sem] tn_add1 tn_sub1 put_all' nums_len
theorem s_Owner {H:Heap} {K:List Cell} {a:Option Ad} {n c:Nat} {o:Bool} {ws:List Int} {s:Nat} (hl:K.length=12) (h0:K[0]?=some (.int .i64 (n:Nat))) (h1:K[1]?=some (.sl a n c o)) (hs:Sl H 1 a n (nums ws)) (hn:ws.length=n) (n1:1≤n):
  WC F fXc [.agg K,.c (.int .i64 (s:Nat))] H fun v H'=>v=.c (.int .i64 (gn ws (s % n)))∧Xt H H':=by
 refine WC_start eXc (by simp) ?_
 unfold cXc
 obtain⟨q,hq⟩:∃q,q=s % n:=⟨_,rfl⟩
 have hlt:q<n:=by rw[hq];exact Nat.mod_lt _ (by omega)
 rw[←hq]
 obtain⟨⟨lb,y⟩,rfl⟩:=hs.is_some (by omega)
 have hlb:lb<H.length:=hs.lts
 have hg:=hs.gn hn hlt
 dsimp only at hg
 have hr:(s:Int) % (n:Int)=(q:Nat):=by rw[hq];rfl
 have e1:¬(n:Int)<1:=by omega
 have fh:=zhd1 hs
 clear hs hn hq
 generalize gn ws q=w at *
 repeat (with_reducible first|(first|refine pI1 ?_|refine pS1 ?_);intros|refine pA1 ?_|refine pX1 ?_|refine pB1 ?_|exact True.intro)
 rename_i b1 H1 p1 g1 x1
 have hg1:ldB H1[lb]? (y+q)=some (.int .i64 w):=by rw[x1 lb (by omega)];exact hg
 have fx:=zhd1 x1
 clear x1 hg
 repeat (with_reducible first|(first|refine pI1 ?_|refine pS1 ?_);intros|refine pA1 ?_|refine pX1 ?_|refine pB1 ?_|exact True.intro)
 exact⟨rfl,by omega,fun b hb=>fx _ fun x=>x b (by omega)⟩
structure PrC (K:List Cell) (p0 p1:Nat) (cnt:List Int) (C:List Cell):Prop where
 len:C.length=94
 hk:sub C 0 12=some K
 kl:K.length=12
 c12:C[12]?=some (.ptr (some (p0,0)))
 c13:C[13]?=some (.ptr (some (p1,0)))
 cl:cnt.length=80
 cnt:∀k,k<80→C[14+k]?=some (.int .i64 (gn cnt k))
theorem sub_get {C K:List Cell} {m j:Nat} (h:sub C 0 m=some K) (hj:j<m):C[j]?=K[j]?:=by
 unfold sub at h
 split at h
 ·have e:=Option.some.inj h
  rw[←e,List.getElem?_take,if_pos hj,List.drop_zero]
 ·cases h
theorem sub_set {C K:List Cell} {m j:Nat} (h:sub C 0 m=some K) (hj:m≤j) (x:Cell):sub (C.set j x) 0 m=some K:=by
 unfold sub at *
 rw[List.length_set]
 split at h
 ·rename_i hc
  rw[if_pos hc,←h,List.drop_zero,List.drop_zero,List.take_set_of_le hj]
 ·cases h
theorem PrC.put {K:List Cell} {p0 p1:Nat} {cnt:List Int} {C:List Cell} (h:PrC K p0 p1 cnt C) {k:Nat} (hk:k<80) (x:Int):PrC K p0 p1 (cnt.set k x) (C.set (14+k) (.int .i64 x)) where
 len:=by rw[List.length_set];exact h.len
 hk:=sub_set h.hk (by omega) _
 kl:=h.kl
 c12:=by rw[List.getElem?_set_ne (by omega)];exact h.c12
 c13:=by rw[List.getElem?_set_ne (by omega)];exact h.c13
 cl:=by rw[List.length_set];exact h.cl
 cnt:=fun j hj=>by
  have hl:=h.len
  rw[gn_set]
  by_cases e:k=j
  ·subst e
   rw[List.getElem?_set_self (by omega),if_pos ⟨rfl,by have:=h.cl;omega⟩]
  ·rw[List.getElem?_set_ne (by omega),if_neg fun h'=>e h'.1];exact h.cnt j hj
structure Pr where
 K:List Cell
 n:Nat
 a:Option Ad
 c:Nat
 o:Bool
 ws:List Int
 p0:Nat
 e0:Nat
 p1:Nat
 e1:Nat
structure Cn where
 bl0:Nat
 pa0:Nat
 bl1:Nat
 pa1:Nat
 cnt:List Int
structure PrOk (P:Pr):Prop where
 k0:P.K[0]?=some (.int .i64 (P.n:Nat))
 k1:P.K[1]?=some (.sl P.a P.n P.c P.o)
 hn:P.ws.length=P.n
 n4:4≤P.n
 n16:P.n≤16
 hw:∀y∈P.ws,0≤y∧y<(P.n:Int)
 s1:P.p0≠P.p1
 s2:P.e0≠P.p1
 s3:P.e1≠P.p0
 s4:∀b x,P.a=some (b,x)→b≠P.p0∧b≠P.p1
structure PairM (H:Heap) (q:Nat) (P:Pr) (N:Cn):Prop where
 cells:∃C,H[q]?=some (.cells C false none)∧PrC P.K P.p0 P.p1 N.cnt C
 owners:Sl H 1 P.a P.n (nums P.ws)
 b0:BusM H P.p0 (some (P.e0,0)) P.n true P.ws N.bl0 N.pa0
 b1:BusM H P.p1 (some (P.e1,0)) P.n true P.ws N.bl1 N.pa1
 q0:q≠P.p0
 q1:q≠P.p1
 q2:q≠P.e0
 q3:q≠P.e1
 q4:∀b x,P.a=some (b,x)→b≠q
theorem s_none {H:Heap} {q:Nat} {P:Pr} {N:Cn} (h:PairM H q P N):WC F fXx [.c (.ptr (some (q,0)))] H fun v H'=>v=.c (.bool false)∧H'=H:=by
 refine WC_start eXx (by simp) ?_
 unfold cXx
 obtain⟨C,g,hC⟩:=h.cells
 have h12:=hC.c12
 clear h hC
 repeat (with_reducible first|(first|refine pI1 ?_|refine pS1 ?_);intros|refine pA1 ?_|refine pX1 ?_|refine pB1 ?_|exact True.intro)
 exact⟨rfl,rfl⟩
theorem s_Count {H:Heap} {q:Nat} {P:Pr} {N:Cn} (h:PairM H q P N) (ho:PrOk P) {n v:Int} (hn:i64 n) (hv:i64 v):WC F fXu [.c (.ptr (some (q,0))),.c (.int .i64 n),.c (.int .i64 v)] H fun r H'=>r=.c (.int .i64 (if 0≤n∧n<P.n∧0≤v∧v≤4 then gn N.cnt (n.toNat * 5+v.toNat) else 0))∧H'=H:=by
 refine WC_start eXu (by simp) ?_
 unfold cXu
 have hno:=s_none h
 obtain⟨C,g,hC⟩:=h.cells
 have h0:C[0]?=some (.int .i64 (P.n:Nat)):=by rw[sub_get hC.hk (by omega)];exact ho.k0
 have hcnt:=hC.cnt
 have n16:=ho.n16
 have fin0:=zhd1 hcnt
 clear h hC hcnt ho
 obtain⟨hn1,hn2⟩:=hn
 obtain⟨hv1,hv2⟩:=hv
 obtain⟨m,hm⟩:∃m,P.n=m:=⟨_,rfl⟩
 rw[hm] at h0 n16 ⊢
 clear hm
 by_cases c1:n<0
 ·rw[if_neg (by omega)]
  repeat (with_reducible first|(first|refine pI1 ?_|refine pS1 ?_);intros|refine pA1 ?_|refine pX1 ?_|refine pB1 ?_|exact True.intro)
  refine outM_call hno ?_
  rintro _ H ⟨rfl,rfl⟩
  repeat (with_reducible first|(first|refine pI1 ?_|refine pS1 ?_);intros|refine pA1 ?_|refine pX1 ?_|refine pB1 ?_|exact True.intro)
  exact⟨rfl,rfl⟩
 by_cases c2:n≥(m:Int)
 ·rw[if_neg (by omega)]
  repeat (with_reducible first|(first|refine pI1 ?_|refine pS1 ?_);intros|refine pA1 ?_|refine pX1 ?_|refine pB1 ?_|exact True.intro)
  refine outM_call hno ?_
  rintro _ H ⟨rfl,rfl⟩
  repeat (with_reducible first|(first|refine pI1 ?_|refine pS1 ?_);intros|refine pA1 ?_|refine pX1 ?_|refine pB1 ?_|exact True.intro)
  exact⟨rfl,rfl⟩
 by_cases c3:v<0
 ·rw[if_neg (by omega)]
  repeat (with_reducible first|(first|refine pI1 ?_|refine pS1 ?_);intros|refine pA1 ?_|refine pX1 ?_|refine pB1 ?_|exact True.intro)
  refine outM_call hno ?_
  rintro _ H ⟨rfl,rfl⟩
  repeat (with_reducible first|(first|refine pI1 ?_|refine pS1 ?_);intros|refine pA1 ?_|refine pX1 ?_|refine pB1 ?_|exact True.intro)
  exact⟨rfl,rfl⟩
 by_cases c4:v≥5
 ·rw[if_neg (by omega)]
  repeat (with_reducible first|(first|refine pI1 ?_|refine pS1 ?_);intros|refine pA1 ?_|refine pX1 ?_|refine pB1 ?_|exact True.intro)
  refine outM_call hno ?_
  rintro _ H ⟨rfl,rfl⟩
  repeat (with_reducible first|(first|refine pI1 ?_|refine pS1 ?_);intros|refine pA1 ?_|refine pX1 ?_|refine pB1 ?_|exact True.intro)
  exact⟨rfl,rfl⟩
 rw[if_pos (by omega)]
 obtain⟨x,rfl⟩:∃x:Nat,n=x:=⟨n.toNat,by omega⟩
 obtain⟨y,rfl⟩:∃y:Nat,v=y:=⟨v.toNat,by omega⟩
 rw[Int.toNat_natCast,Int.toNat_natCast]
 have hc:=fin0 _ fun h=>h (x * 5+y) (by omega)
 rw[←Nat.add_assoc] at hc
 generalize gn N.cnt (x * 5+y)=r at *
 repeat (with_reducible first|(first|refine pI1 ?_|refine pS1 ?_);intros|refine pA1 ?_|refine pX1 ?_|refine pB1 ?_|exact True.intro)
 refine outM_call hno ?_
 rintro _ H ⟨rfl,rfl⟩
 repeat (with_reducible first|(first|refine pI1 ?_|refine pS1 ?_);intros|refine pA1 ?_|refine pX1 ?_|refine pB1 ?_|exact True.intro)
 exact⟨rfl,rfl⟩
theorem s_dBlocked {H:Heap} {q:Nat} {P:Pr} {N:Cn} (h:PairM H q P N):WC F fXt [.c (.ptr (some (q,0)))] H fun v H'=>v=.c (.int .u64 ((N.bl0+N.bl1) % 18446744073709551616:Nat))∧H'=H:=by
 refine WC_start eXt (by simp) ?_
 unfold cXt
 have hno:=s_none h
 have h1:=s_Blocked h.b0
 have h2:=s_Blocked h.b1
 obtain⟨C,g,hC⟩:=h.cells
 have h12:=hC.c12
 have h13:=hC.c13
 clear h hC
 repeat (with_reducible first|(first|refine pI1 ?_|refine pS1 ?_);intros|refine pA1 ?_|refine pX1 ?_|refine pB1 ?_|exact True.intro)
 refine outM_call hno ?_
 rintro _ H ⟨rfl,rfl⟩
 repeat (with_reducible first|(first|refine pI1 ?_|refine pS1 ?_);intros|refine pA1 ?_|refine pX1 ?_|refine pB1 ?_|exact True.intro)
 refine outM_call h1 ?_
 rintro _ H ⟨rfl,rfl⟩
 repeat (with_reducible first|(first|refine pI1 ?_|refine pS1 ?_);intros|refine pA1 ?_|refine pX1 ?_|refine pB1 ?_|exact True.intro)
 refine outM_call h2 ?_
 rintro _ H ⟨rfl,rfl⟩
 repeat (with_reducible first|(first|refine pI1 ?_|refine pS1 ?_);intros|refine pA1 ?_|refine pX1 ?_|refine pB1 ?_|exact True.intro)
 exact⟨rfl,rfl⟩
end Go.Proofs.YtjcgdcadflplcaaDoor.AM.D21
namespace Go.Proofs.YtjcgdcadflplcaaDoor.AM.D21
open Go Go.Proofs.YtjcgdcadflplcaaDoor.AM Go.Proofs.YtjcgdcadflplcaaDoor.AM.C02 Go.Proofs.YtjcgdcadflplcaaDoor.AM.C07 Go.Proofs.YtjcgdcadflplcaaDoor.AM.C21
set_option maxHeartbeats 2000000
set_option maxRecDepth 100000
attribute [local go_sem] tn_add1 tn_sub1 put_all' nums_len
theorem rep5 (a:Cell):List.replicate 5 a=[a,a,a,a,a]:=rfl
attribute [local go_sem] rep5
def colS (cnt:List Int) (v:Nat):Nat→Int
 |0=>0
 |n+1=>colS cnt v n+gn cnt (n * 5+v)
theorem colS_in {cnt:List Int} {v:Nat} {B:Int} (hv:v<5) (h:∀k,k<80→0≤gn cnt k∧gn cnt k≤B):∀n,n≤16→0≤colS cnt v n∧colS cnt v n≤B * n
 |0,_=>by simp[colS]
 |n+1,hn=>by
  have ih:=colS_in hv h n (by omega)
  have:=h (n * 5+v) (by omega)
  unfold colS
  have e:B * ((n+1:Nat):Int)=B * n+B:=by rw[Int.natCast_add,Int.mul_add];simp
  omega
theorem sub_rows5 {C:List Cell} {cnt:List Int} {off:Nat} (hc:cnt.length=80) (hl:C.length=off+80) (h:∀k,k<80→C[off+k]?=some (.int .i64 (gn cnt k))):sub C off 80=some (nums cnt):=by
 unfold sub
 rw[if_pos (by omega)]
 congr 1
 apply List.ext_getElem?
 intro i
 rw[List.getElem?_take]
 by_cases hi:i<80
 ·rw[if_pos hi,List.getElem?_drop,h i hi,nums_get (by omega)]
 ·rw[if_neg hi,List.getElem?_eq_none (by rw[nums_len];omega)]
theorem sub_five {cnt:List Int} {n:Nat} (hc:cnt.length=80) (hn:n<16):sub (nums cnt) (n * 5) 5=some [.int .i64 (gn cnt (n * 5)),.int .i64 (gn cnt (n * 5+1)),.int .i64 (gn cnt (n * 5+2)),.int .i64 (gn cnt (n * 5+3)),.int .i64 (gn cnt (n * 5+4))]:=by
 unfold sub
 rw[if_pos (by rw[nums_len];omega)]
 congr 1
 have hg:∀j,j<5→(nums cnt)[n * 5+j]?=some (.int .i64 (gn cnt (n * 5+j))):=fun j hj=>nums_get (by omega)
 apply List.ext_getElem?
 intro i
 rw[List.getElem?_take]
 by_cases hi:i<5
 ·rw[if_pos hi,List.getElem?_drop,hg i hi]
  have:i=0∨i=1∨i=2∨i=3∨i=4:=by omega
  rcases this with rfl|rfl|rfl|rfl|rfl<;>rfl
 ·rw[if_neg hi,List.getElem?_eq_none (by simp;omega)]
theorem s_Losses {H:Heap} {q:Nat} {P:Pr} {N:Cn} (h:PairM H q P N) (hB:∀k,k<80→0≤gn N.cnt k∧gn N.cnt k≤1000000):WC F fXv [.c (.ptr (some (q,0)))] H fun v H'=>v=.tup [.c (.int .i64 (colS N.cnt 2 16)),.c (.int .i64 (colS N.cnt 1 16))]∧Xt H H':=by
 refine WC_start eXv (by simp) ?_
 unfold cXv
 have hno:=s_none h
 obtain⟨C,g,hC⟩:=h.cells
 have hsub:=sub_rows5 hC.cl hC.len hC.cnt
 have hrow:∀n,n<16→prd (nums N.cnt) (n * 5) (some 5)=some (.agg [.int .i64 (gn N.cnt (n * 5)),.int .i64 (gn N.cnt (n * 5+1)),.int .i64 (gn N.cnt (n * 5+2)),.int .i64 (gn N.cnt (n * 5+3)),.int .i64 (gn N.cnt (n * 5+4))]):=fun n hn=>by rw[prd,sub_five (n:=n) hC.cl hn];rfl
 have hl:=hC.cl
 clear h hC
 generalize N.cnt=cnt at *
 have hc1:=colS_in (v:=1) (by omega) hB
 have hc2:=colS_in (v:=2) (by omega) hB
 have fin0:=zhd4 hrow hc1 hc2 hB
 clear hrow hc1 hc2 hB
 repeat (with_reducible first|(first|refine pI1 ?_|refine pS1 ?_);intros|refine pA1 ?_|refine pX1 ?_|refine pB1 ?_|exact True.intro)
 refine outM_call hno ?_
 rintro _ H ⟨rfl,rfl⟩
 clear hno
 repeat (with_reducible first|(first|refine pI1 ?_|refine pS1 ?_);intros|refine pA1 ?_|refine pX1 ?_|refine pB1 ?_|exact True.intro)
 refine W_loop (fun mm st=>∃ρ,∃i:Nat,∃Hk,st=⟨L 26 ρ,[],Hk⟩∧mm=16-i∧i≤16∧ρ 2=.c (.int .i64 (colS cnt 2 i))∧ρ 3=.c (.int .i64 (colS cnt 1 i))∧ρ 11=.agg (nums cnt)∧ρ 12=.c (.int .i64 (i:Nat))∧Hid (Xt H Hk)) 16 ⟨_,0,H,rfl,rfl,by omega,zf,zf,zf,zf,Nat.le_refl _,fun _ _=>rfl⟩ ?_
 rintro mm st ⟨ρ,i,Hk,rfl,rfl,hi,e2,e3,e11,e12,hx⟩
 unfold bXv_9
 have lk:=hx.1
 have fx:=zhd1 hx
 clear hx
 by_cases hin:i<16
 ·have hxt:(i:Int)<16:=by omega
  have hr:=fin0 _ fun h _ _ _=>h i hin
  have b1:=fin0 _ fun _ h _ _=>h i (by omega)
  have b2:=fin0 _ fun _ _ h _=>h i (by omega)
  have b3:=fin0 _ fun _ _ _ h=>h (i * 5+1) (by omega)
  have b4:=fin0 _ fun _ _ _ h=>h (i * 5+2) (by omega)
  have n1:colS cnt 1 (i+1)=colS cnt 1 i+gn cnt (i * 5+1):=rfl
  have n2:colS cnt 2 (i+1)=colS cnt 2 i+gn cnt (i * 5+2):=rfl
  have fn:=zhd2 n1 n2
  clear n1 n2
  generalize gn cnt (i * 5)=w0 at *
  generalize gn cnt (i * 5+1)=w1 at *
  generalize gn cnt (i * 5+2)=w2 at *
  generalize gn cnt (i * 5+3)=w3 at *
  generalize gn cnt (i * 5+4)=w4 at *
  have q1:colS cnt 1 (i+1)=colS cnt 1 i+w1:=fn _ fun h _=>h
  have q2:colS cnt 2 (i+1)=colS cnt 2 i+w2:=fn _ fun _ h=>h
  have fq:=zhd2 q1 q2
  clear q1 q2
  generalize colS cnt 1 i=s1 at *
  generalize colS cnt 2 i=s2 at *
  repeat (with_reducible first|(first|refine pI1 ?_|refine pS1 ?_);intros|refine pA1 ?_|refine pX1 ?_|refine pB1 ?_|exact True.intro)
  rename_i b5 H5 p5 g5 x5 H6 l6 g6 x6
  have fg:=zhd2 x5 x6
  clear x5 x6 g5
  repeat (with_reducible first|(first|refine pI1 ?_|refine pS1 ?_);intros|refine pA1 ?_|refine pX1 ?_|refine pB1 ?_|exact True.intro)
  exact loopQ_n (16-(i+1)) (by omega) ⟨_,i+1,_,rfl,rfl,by omega,by rw[fq _ fun _ h=>h];exact zf,by rw[fq _ fun h _=>h];exact zf,zf,zf,by omega,fun b hb=>fg _ fun x5 x6=>by rw[x6 b (by omega),x5 b (by omega)];exact fx _ fun h=>h.2 b hb⟩
 ·obtain rfl:i=16:=by omega
  generalize colS cnt 1 16=s1 at *
  generalize colS cnt 2 16=s2 at *
  repeat (with_reducible first|(first|refine pI1 ?_|refine pS1 ?_);intros|refine pA1 ?_|refine pX1 ?_|refine pB1 ?_|exact True.intro)
  exact⟨rfl,lk,fun b hb=>fx _ fun h=>h.2 b hb⟩
end Go.Proofs.YtjcgdcadflplcaaDoor.AM.D21
namespace Go.Proofs.YtjcgdcadflplcaaDoor.AM.D21
open Go Go.Proofs.YtjcgdcadflplcaaDoor.AM Go.Proofs.YtjcgdcadflplcaaDoor.AM.C02 Go.Proofs.YtjcgdcadflplcaaDoor.AM.C07 Go.Proofs.YtjcgdcadflplcaaDoor.AM.C21
set_option maxHeartbeats 2000000
set_option maxRecDepth 100000
attribute [local go_sem] tn_add1 tn_sub1 put_all' nums_len
def z80:List Int:=List.replicate 80 0
def zc80:List Cell:=List.replicate 80 (Cell.int .i64 0)
theorem zc80_eq:List.replicate 80 (Cell.int .i64 0)=zc80:=rfl
theorem z80_gn (k:Nat):gn z80 k=0:=by
 unfold gn z80
 rw[List.getD_eq_getElem?_getD,List.getElem?_replicate]
 split<;>rfl
theorem zc80_at {k:Nat} (h:k<80):zc80[k]?=some (.int .i64 (gn z80 k)):=by
 rw[z80_gn];unfold zc80;rw[List.getElem?_replicate,if_pos h]
def Z94:List Cell:=[Cell.int .i64 0,.sl none 0 0 false,.int .i64 0,.int .i64 0,.int .i64 0,.int .i64 0,.int .i64 0,.int .i64 0,.sl none 0 0 false,.sl none 0 0 false,.sl none 0 0 false,.sl none 0 0 false,.ptr none,.ptr none]++zc80
theorem Z94_eq:([(Cell.int .i64 0)]++[(.sl none 0 0 false)]++List.replicate 6 (.int .i64 0)++List.replicate 4 (.sl none 0 0 false)++List.replicate 2 (.ptr none)++zc80)=Z94:=rfl
theorem Z94_len:Z94.length=94:=rfl
attribute [local go_sem 2000] zc80_eq Z94_eq Z94_len
theorem Z94_at {k:Nat} (h:k<80):Z94[14+k]?=some (.int .i64 (gn z80 k)):=by
 unfold Z94
 rw[List.getElem?_append_right (by simp)]
 have:14+k - [Cell.int .i64 0,.sl none 0 0 false,.int .i64 0,.int .i64 0,.int .i64 0,.int .i64 0,.int .i64 0,.int .i64 0,.sl none 0 0 false,.sl none 0 0 false,.sl none 0 0 false,.sl none 0 0 false,.ptr none,.ptr none].length=k:=by simp
 rw[this];exact zc80_at h
theorem put_at {C K:List Cell} {m:Nat} (hm:K.length=m) (hl:m≤C.length) (j:Nat):(put C 0 K)[j]?=if j<m then K[j]? else C[j]?:=by
 rw[put_get (by omega)]
 by_cases h:j<m
 ·rw[if_pos h,if_pos (by omega),Nat.sub_zero]
 ·rw[if_neg h,if_neg (by omega)]
theorem s_dNew {N:Nat} {H:Heap} {c:Cfg} {h:Hd} (hc:CfgM N H c h) (hN:N≤H.length):WC F fXs [.agg (c.cells h)] H fun v H'=>Xt H H'∧
  ((c.check≠0∧v=.tup [.c (.ptr none),.c (.int .i64 c.check)])∨(c.check=0∧∃q P,v=.tup [.c (.ptr (some (q,0))),.c (.int .i64 0)]∧H.length≤q∧q<H'.length∧H.length≤P.p0∧H.length≤P.p1∧PrOk P∧P.ws=c.owners∧PairM H' q P ⟨0,0,0,0,z80⟩)):=by
 refine WC_start eXs (by simp) ?_
 unfold cXs
 have hnew:=fun(Hx:Heap) (hx:Xt H Hx)=>s_New (hc.keep (H':=Hx) fun b hb=>hx.2 b (by omega)) (by have:=hx.1;omega)
 have hown:=hc.owners
 have hownN:=hc.ownersN
 have hok:c.check=0→c.nodes=(c.owners.length:Nat)∧4≤c.owners.length∧c.owners.length≤16∧∀y∈c.owners,0≤y∧y<(c.owners.length:Int):=fun h0=>by
  obtain⟨q1,q2,q3,q4⟩:=(Cfg.check_ok.1 h0).nodes
  exact⟨by omega,by omega,by omega,own_in rfl fun k hk=>q4 k (by omega)⟩
 obtain⟨C,hC⟩:∃C,C=c.cells h:=⟨_,rfl⟩
 have hsub:sub C 0 12=some C:=by rw[hC];rfl
 have hf0:C[0]?=some (.int .i64 c.nodes):=by rw[hC];rfl
 have hf1:C[1]?=some (.sl h.a1 c.owners.length h.c1 h.o1):=by rw[hC];rfl
 rw[←hC] at hnew ⊢
 generalize c.nodes=nd at *
 generalize c.owners=ws at *
 obtain⟨n,hn⟩:∃n,ws.length=n:=⟨_,rfl⟩
 rw[hn] at hown hf1 hok
 have hnew':∀Hx,Xt H Hx→WC F fXa [.agg C] Hx fun v H'=>Xt Hx H'∧((c.check≠0∧v=.tup [.c (.ptr none),.c (.int .i64 c.check)])∨(c.check=0∧∃p e,v=.tup [.c (.ptr (some (p,0))),.c (.int .i64 0)]∧Hx.length≤p∧p<H'.length∧Hx.length≤e∧e<H'.length∧BusM H' p (some (e,0)) n true ws 0 0)):=fun Hx hx=>by
  have:=hnew Hx hx
  rw[hn] at this;exact this
 obtain⟨k,hk⟩:∃k,k=c.check:=⟨_,rfl⟩
 rw[←hk] at hnew' hok ⊢
 have fin0:=zhd5 hnew' hok hown hownN hn
 clear hnew hnew' hok hown hownN hk hC hc hn
 repeat (with_reducible first|(first|refine pI1 ?_|refine pS1 ?_);intros|refine pA1 ?_|refine pX1 ?_|refine pB1 ?_|exact True.intro)
 rename_i b1 H1 p1 g1 x1 bq Hq pq gq xq
 have tq:Xt H Hq:=⟨by omega,fun b hb=>by rw[xq b (by omega),x1 b (by omega)]⟩
 have g1q:=(xq b1 (by omega)).trans g1
 have fq:=zhd1 tq
 clear x1 xq g1 tq
 refine W_turn bXs_10.eq_1 ?_
 repeat (with_reducible first|(first|refine pI1 ?_|refine pS1 ?_);intros|refine pA1 ?_|refine pX1 ?_|refine pB1 ?_|exact True.intro)
 refine outM_call (fin0 _ fun h _ _ _ _=>fq _ fun t=>h Hq t) ?_
 rintro v H2 ⟨⟨l2,x2⟩,hv⟩
 have g12:=(x2 b1 (by omega)).trans g1q
 have gq2:=(x2 bq (by omega)).trans gq
 have t2:Xt H H2:=fq _ fun t=>⟨by have:=t.1;omega,fun b hb=>by rw[x2 b (by have:=t.1;omega)];exact t.2 b hb⟩
 have f2:=zhd1 t2
 clear x2 t2 g1q gq fq
 rcases hv with ⟨hne,rfl⟩|⟨rfl,p0,e0,rfl,w1,w2,w3,w4,hb0⟩
 ·repeat (with_reducible first|(first|refine pI1 ?_|refine pS1 ?_);intros|refine pA1 ?_|refine pX1 ?_|refine pB1 ?_|exact True.intro)
  exact⟨f2 _ fun t=>t,.inl ⟨hne,rfl⟩⟩
 have fb0:=zhd1 hb0
 clear hb0
 repeat (with_reducible first|(first|refine pI1 ?_|refine pS1 ?_);intros|refine pA1 ?_|refine pX1 ?_|refine pB1 ?_|exact True.intro)
 rename_i H3 l3 g3 x3
 have g13:=(x3 b1 (by omega)).trans g12
 have t3:Xt H H3:=f2 _ fun t=>⟨by have:=t.1;omega,fun b hb=>by rw[x3 b (by have:=t.1;omega)];exact t.2 b hb⟩
 have hb3:BusM H3 p0 (some (e0,0)) n true ws 0 0:=fb0 _ fun h=>h.keep fun b hb=>x3 b (by rcases hb with rfl|⟨x,e⟩;omega;cases e;omega)
 have f3:=zhd2 t3 hb3
 clear x3 t3 g12 gq2 f2 hb3 fb0
 refine W_turn bXs_10.eq_1 ?_
 repeat (with_reducible first|(first|refine pI1 ?_|refine pS1 ?_);intros|refine pA1 ?_|refine pX1 ?_|refine pB1 ?_|exact True.intro)
 refine outM_call (fin0 _ fun h _ _ _ _=>f3 _ fun t _=>h H3 t) ?_
 rintro v H4 ⟨⟨l4,x4⟩,⟨hne,-⟩|⟨-,p1,e1,rfl,w5,w6,w7,w8,hb1⟩⟩
 ·exact absurd rfl hne
 have g14:=(x4 b1 (by omega)).trans g13
 have gq4:=(x4 bq (by omega)).trans g3
 have hb4:BusM H4 p0 (some (e0,0)) n true ws 0 0:=f3 _ fun _ h=>h.keep fun b hb=>x4 b (by rcases hb with rfl|⟨x,e⟩;omega;cases e;omega)
 have t4:Xt H H4:=f3 _ fun t _=>⟨by have:=t.1;omega,fun b hb=>by rw[x4 b (by have:=t.1;omega)];exact t.2 b hb⟩
 have f4:=zhd3 t4 hb4 hb1
 clear x4 t4 hb4 hb1 g13 g3 f3
 repeat (with_reducible first|(first|refine pI1 ?_|refine pS1 ?_);intros|refine pA1 ?_|refine pX1 ?_|refine pB1 ?_|exact True.intro)
 rename_i H5 l5 g5 x5
 have g15:=(x5 b1 (by omega)).trans g14
 have t5:Xt H H5:=f4 _ fun t _ _=>⟨by have:=t.1;omega,fun b hb=>by rw[x5 b (by have:=t.1;omega)];exact t.2 b hb⟩
 have hb05:BusM H5 p0 (some (e0,0)) n true ws 0 0:=f4 _ fun _ h _=>h.keep fun b hb=>x5 b (by rcases hb with rfl|⟨x,e⟩;omega;cases e;omega)
 have hb15:BusM H5 p1 (some (e1,0)) n true ws 0 0:=f4 _ fun _ _ h=>h.keep fun b hb=>x5 b (by rcases hb with rfl|⟨x,e⟩;omega;cases e;omega)
 obtain⟨hnd,n4,n16,hws⟩:=fin0 _ fun _ h _ _ _=>h rfl
 rw[hnd] at hf0
 have hown5:Sl H5 1 h.a1 n (nums ws):=fin0 _ fun _ _ hown hownN _=>hown.keep fun b x e=>t5.2 b (by have:=hownN b x e;omega)
 have f5:=zhd5 t5 hb05 hb15 hown5 hws
 clear x5 t5 hb05 hb15 hown5 hws g14 gq4 f4 hnd
 refine W_turn bXs_10.eq_1 ?_
 repeat (with_reducible first|(first|refine pI1 ?_|refine pS1 ?_);intros|refine pA1 ?_|refine pX1 ?_|refine pB1 ?_|exact True.intro)
 rename_i b6 H6 p6 g6 x6
 have g16:=(x6 b1 (by omega)).trans g15
 have gq6:=(x6 bq (by omega)).trans g5
 have hown6:Sl H6 1 h.a1 n (nums ws):=f5 _ fun _ _ _ h _=>h.to fun b hb=>x6 b (by omega)
 have fx6:=zhd1 x6
 clear x6 g15 g5
 refine outM_appA (Gr.empty g6 (Nat.le_refl b6)) (by omega) hown6 (by omega) ?_
 intro a7 o7 H7 hg7 l7 x7 y7
 rw[Nat.zero_add,List.nil_append] at hg7
 have x7':∀b,b<H5.length→H7[b]?=H5[b]?:=fun b hb=>by rw[x7 b (by omega)];exact fx6 _ fun x=>x b (by omega)
 have g17:=(x7 b1 (by omega)).trans g16
 have gq7:=(x7 bq (by omega)).trans gq6
 have f7:=zhd2 x7' hg7
 have ha7:∀b x,a7=some (b,x)→H5.length≤b:=fun b x e=>by have:=hg7.lt _ e;omega
 clear x7 y7 hg7 x7' g16 gq6 hown6
 repeat (with_reducible first|(first|refine pI1 ?_|refine pS1 ?_);intros|refine pA1 ?_|refine pX1 ?_|refine pB1 ?_|exact True.intro)
 rename_i H8 l8 g8 x8
 obtain⟨K,hK⟩:∃K,K=[Cell.int .i64 (n:Nat),.sl a7 n n o7,.int .i64 0,.int .i64 0,.int .i64 0,.int .i64 0,.int .i64 0,.int .i64 0,.sl none 0 0 false,.sl none 0 0 false,.sl none 0 0 false,.sl none 0 0 false]:=⟨_,rfl⟩
 have x8':∀b,b≠bq→H8[b]?=H7[b]?:=fun b hb=>x8 b hb
 have g8':H8[bq]?=some (.cells (put ((Z94.set 12 (.ptr (some (p0,0)))).set 13 (.ptr (some (p1,0)))) 0 K) false none):=by rw[hK];exact g8
 have f8:=zhd2 x8' g8'
 clear x8 x8' g8 g8' g17 gq7
 repeat (with_reducible first|(first|refine pI1 ?_|refine pS1 ?_);intros|refine pA1 ?_|refine pX1 ?_|refine pB1 ?_|exact True.intro)
 have hl94:((Z94.set 12 (.ptr (some (p0,0)))).set 13 (.ptr (some (p1,0)))).length=94:=by rw[List.length_set,List.length_set];rfl
 have hKl:K.length=12:=by rw[hK];rfl
 have hat:=put_at (C:=((Z94.set 12 (.ptr (some (p0,0)))).set 13 (.ptr (some (p1,0))))) hKl (by omega)
 have hx85:∀b,b<H5.length→b≠bq→H8[b]?=H5[b]?:=fun b hb hb2=>by rw[f8 _ fun x _=>x b hb2];exact f7 _ fun x _=>x b hb
 have hpr:PrC K p0 p1 z80 (put ((Z94.set 12 (.ptr (some (p0,0)))).set 13 (.ptr (some (p1,0)))) 0 K):=by
  refine⟨by rw[put_length];exact hl94,?_,hKl,?_,?_,rfl,fun k hk=>?_⟩
  ·unfold sub
   rw[if_pos (by rw[put_length,hl94];omega)]
   congr 1
   apply List.ext_getElem?
   intro i
   rw[List.getElem?_take,List.drop_zero]
   by_cases hi:i<12
   ·rw[if_pos hi,hat,if_pos hi]
   ·rw[if_neg hi,List.getElem?_eq_none (by omega)]
  ·rw[hat,if_neg (by omega),List.getElem?_set_ne (by omega),List.getElem?_set_self (by rw[Z94_len];omega)]
  ·rw[hat,if_neg (by omega),List.getElem?_set_self (by rw[List.length_set,Z94_len];omega)]
  ·rw[hat,if_neg (by omega),List.getElem?_set_ne (by omega),List.getElem?_set_ne (by omega)];exact Z94_at hk
 have hlen5:H.length≤Hq.length∧H.length≤bq:=by omega
 refine⟨⟨by omega,fun b hb=>by rw[hx85 b (by omega) (by omega)];exact f5 _ fun t _ _ _ _=>t.2 b hb⟩,.inr ⟨rfl,bq,⟨K,n,a7,n,o7,ws,p0,e0,p1,e1⟩,rfl,by omega,by omega,by show _≤p0;omega,by show _≤p1;omega,?_,rfl,?_⟩⟩
 ·exact⟨by rw[hK];rfl,by rw[hK];rfl,fin0 _ fun _ _ _ _ h=>h,n4,n16,f5 _ fun _ _ _ _ h=>h,by show p0≠p1;omega,by show e0≠p1;omega,by show e1≠p0;omega,fun b x e=>by have:=ha7 b x e;show b≠p0∧b≠p1;omega⟩
 ·refine⟨⟨_,f8 _ fun _ g=>g,hpr⟩,?_,?_,?_,by show bq≠p0;omega,by show bq≠p1;omega,by show bq≠e0;omega,by show bq≠e1;omega,fun b x e=>by have:=ha7 b x e;omega⟩
  ·exact f7 _ fun _ hg=>hg.sl.keep fun b x e=>f8 _ fun x8 _=>x8 b (by have:=ha7 b x e;omega)
  ·exact f5 _ fun _ h _ _ _=>h.keep fun b hb=>hx85 b (by rcases hb with rfl|⟨x,e⟩;omega;cases e;omega) (by rcases hb with rfl|⟨x,e⟩;omega;cases e;omega)
  ·exact f5 _ fun _ _ h _ _=>h.keep fun b hb=>hx85 b (by rcases hb with rfl|⟨x,e⟩;omega;cases e;omega) (by rcases hb with rfl|⟨x,e⟩;omega;cases e;omega)
end Go.Proofs.YtjcgdcadflplcaaDoor.AM.D21
namespace Go.Proofs.YtjcgdcadflplcaaDoor.AM.D21
open Go Go.Proofs.YtjcgdcadflplcaaDoor.AM Go.Proofs.YtjcgdcadflplcaaDoor.AM.C02 Go.Proofs.YtjcgdcadflplcaaDoor.AM.C07 Go.Proofs.YtjcgdcadflplcaaDoor.AM.C21 Go.Proofs.YtjcgdcadflplcaaDoor.AM.P3
set_option maxHeartbeats 2000000
set_option maxRecDepth 100000
attribute [local go_sem] tn_add1 tn_sub1 put_all' nums_len sub_all sub02
attribute [local go_sem 2000] zF_eq zF_len
structure Slt where
 slot:Nat
 ss:Int
 mem:Nat
 l0:List Snd
 l1:List Snd
 k0:List C07.Cpy
 k1:List C07.Cpy
def Slt.ow (x:Slt) (ws:List Int):Int:=gn ws (x.slot % ws.length)
def Slt.vf (x:Slt) (ws:List Int) (j:Nat):List Cell × Int:=chs (hr ((rcv (x.ow ws) x.l0 x.k0 j).getD []) (x.ow ws) x.ss x.mem) (hr ((rcv (x.ow ws) x.l1 x.k1 j).getD []) (x.ow ws) x.ss x.mem)
def Slt.vN (x:Slt) (ws:List Int) (j:Nat):Nat:=(x.vf ws j).2.toNat
def Slt.fr (x:Slt) (ws:List Int) (k:Nat):List Cell:=(List.range k).flatMap fun j=>(x.vf ws j).1
def Slt.vv (x:Slt) (ws:List Int) (k:Nat):List Int:=(List.range k).map fun j=>(x.vf ws j).2
def Cn.step (N:Cn) (x:Slt) (ws:List Int):Cn:=⟨blS (x.ow ws) x.l0 N.bl0,paS (x.ow ws) x.l0 N.pa0,blS (x.ow ws) x.l1 N.bl1,paS (x.ow ws) x.l1 N.pa1,cntS (x.ow ws).toNat (x.vN ws) N.cnt ws.length⟩
theorem chs_v (x y:List Cell × Int):0≤(chs x y).2∧(chs x y).2≤4:=by
 unfold chs
 repeat' split
 all_goals (dsimp only;omega)
theorem chs_sh {x y:List Cell × Int} (hx:ShF x.1) (hy:ShF y.1):ShF (chs x y).1:=by
 unfold chs
 repeat' split
 ·exact hx
 ·exact zF_sh
 ·exact hx
 ·exact hy
 ·exact zF_sh
theorem vf_sh (x:Slt) (ws:List Int) (j:Nat):ShF (x.vf ws j).1:=chs_sh hr_sh hr_sh
theorem vf_len (x:Slt) (ws:List Int) (j:Nat):(x.vf ws j).1.length=67:=(vf_sh x ws j).len
theorem vf_v (x:Slt) (ws:List Int) (j:Nat):(x.vf ws j).2=((x.vN ws j:Nat):Int)∧x.vN ws j≤4:=by
 have:=chs_v (hr ((rcv (x.ow ws) x.l0 x.k0 j).getD []) (x.ow ws) x.ss x.mem) (hr ((rcv (x.ow ws) x.l1 x.k1 j).getD []) (x.ow ws) x.ss x.mem)
 unfold Slt.vN
 unfold Slt.vf at *
 omega
theorem fr_s (x:Slt) (ws:List Int) (k:Nat):x.fr ws (k+1)=x.fr ws k++(x.vf ws k).1:=by
 unfold Slt.fr
 rw[List.range_succ,List.flatMap_append,List.flatMap_cons,List.flatMap_nil,List.append_nil]
theorem vv_s (x:Slt) (ws:List Int) (k:Nat):x.vv ws (k+1)=x.vv ws k++[((x.vN ws k:Nat):Int)]:=by
 unfold Slt.vv
 rw[List.range_succ,List.map_append,List.map_cons,List.map_nil,(vf_v x ws k).1]
theorem vv_len (x:Slt) (ws:List Int) (k:Nat):(x.vv ws k).length=k:=by simp[Slt.vv]
theorem ow_eq {ws:List Int} (x:Slt) (h:0<ws.length):ownF ws (x.slot:Nat)=x.ow ws:=by
 unfold ownF Slt.ow
 rw[if_neg (by omega),Int.toNat_natCast]
theorem slot_cpy {H:Heap} {lo bo:Nat} {x:Option Cell} {r:Option (List Nat)} (h:Slot H lo bo x r):∃a n c o,x=some (.sl a n c o)∧Cpy H a n c (r.getD []):=by
 cases r with
 |none=>exact⟨none,0,0,false,h,Sl.none _ _,Nat.le_refl _,fun i=>by simp[gx]⟩
 |some l=>
  obtain⟨e,c,o,g,h1,h2,h3,h4,h5,h6⟩:=h
  exact⟨_,_,_,_,h1,Sl.blk h4 (by rw[Option.getD_some,nats_len]),h6,fun i=>by
   rw[Option.getD_some]
   unfold gx
   rw[List.getD_eq_getElem?_getD]
   cases e:l[i]? with
   |none=>simp
   |some y=>exact h5 y (List.mem_of_getElem? e)⟩
theorem car_rcv {H H':Heap} {p:Nat} {a:Option Ad} {c:Nat} {o:Bool} {ws:List Int} {bl pa:Nat} {slot:Int} {l:List Snd} {cps:List C07.Cpy} {v:V} (h:CarQ H p a c o ws bl pa slot l cps v H'):
  ∃bo,v=.tup [.c (.sl (some (bo,0)) ws.length ws.length false),.c (.int .i64 0)]∧H.length≤bo∧bo<H'.length∧Outs H' H.length bo ws.length (rcv (ownF ws slot) l cps)∧BusM H' p a c o ws (blS (ownF ws slot) l bl) (paS (ownF ws slot) l pa):=by
 obtain⟨bo,f,h1,h2,h3,h4,⟨k1,k2,k3⟩|⟨i,k1,k2,k3⟩⟩:=h
 ·refine⟨bo,h1,h2,h3,h4.same fun j _=>by rw[k2,rcv_none k1],?_⟩
  unfold blS paS
  rw[fstB_none k1];exact k3
 ·refine⟨bo,h1,h2,h3,h4.same fun j hj=>by rw[k2 j hj,rcv_some k1],?_⟩
  unfold blS paS
  rw[fstB_some k1];exact k3
theorem PairM.keepQ {H H':Heap} {q:Nat} {P:Pr} {N:Cn} (h:PairM H q P N) {cnt:List Int} (hc:∃C,H'[q]?=some (.cells C false none)∧PrC P.K P.p0 P.p1 cnt C) (hx:∀b,b<H.length→b≠q→H'[b]?=H[b]?):PairM H' q P { N with cnt:=cnt } where
 cells:=hc
 owners:=h.owners.keep fun b x e=>hx b (h.owners.lt e) (h.q4 b x e)
 b0:=h.b0.keep fun b hb=>by
  rcases hb with rfl|⟨x,e⟩
  ·exact hx _ (lt_of_get h.b0.1) (fun e=>h.q0 e.symm)
  ·exact hx _ (h.b0.2.1.lt e) (fun e'=>by cases e;exact h.q2 e'.symm)
 b1:=h.b1.keep fun b hb=>by
  rcases hb with rfl|⟨x,e⟩
  ·exact hx _ (lt_of_get h.b1.1) (fun e=>h.q1 e.symm)
  ·exact hx _ (h.b1.2.1.lt e) (fun e'=>by cases e;exact h.q3 e'.symm)
 q0:=h.q0
 q1:=h.q1
 q2:=h.q2
 q3:=h.q3
 q4:=h.q4
theorem PairM.keepX {H H':Heap} {q:Nat} {P:Pr} {N:Cn} (h:PairM H q P N) (hx:∀b,b<H.length→H'[b]?=H[b]?):PairM H' q P N:=by
 obtain⟨C,g,hC⟩:=h.cells
 exact h.keepQ ⟨C,by rw[hx q (lt_of_get g)];exact g,hC⟩ fun b hb _=>hx b hb
theorem step_round {ρ:Nat→V} {H:Heap} {q b7 bh bo0 bo1 lo0 lo1:Nat} {P:Pr} {N:Cn} {x:Slt} {Q:Ex→St→Prop} (h:PairM H q P N) (ho:PrOk P) (hT:H[0]?=some nibB) (hq0:q≠0) (hB:∀k,k<80→0≤gn N.cnt k∧gn N.cnt k≤1000000) (hm:x.mem<65536)
  (g7:H[b7]?=some (.cells [.int .i64 x.ss,.int .u16 (x.mem:Nat)] false none)) (gh:H[bh]?=some (.cells [.sl (some (bo0,0)) P.n P.n false,.sl (some (bo1,0)) P.n P.n false] false none)) (hh:q≠b7∧q≠bh∧q<lo0∧q<lo1∧q<bo0∧q<bo1)
  (w0:Outs H lo0 bo0 P.n (rcv (x.ow P.ws) x.l0 x.k0)) (w1:Outs H lo1 bo1 P.n (rcv (x.ow P.ws) x.l1 x.k1))
  (e0:ρ 0=.c (.ptr (some (q,0)))) (e7:ρ 7=.c (.ptr (some (b7,0)))) (e13:ρ 13=.c (.ptr (some (bh,0)))) (e17:ρ 17=.c (.int .i64 (x.ow P.ws))) (e18:ρ 18=.c (.sl none 0 0 false)) (e19:ρ 19=.c (.sl none 0 0 false)) (e64:ρ 64=.c (.int .i64 (P.n:Nat))) (e65:ρ 65=.c (.int .i64 0))
  (hQ:∀ρ' H' fa fo va vo,ρ' 18=.c (.sl fa P.n P.n fo)→ρ' 19=.c (.sl va P.n P.n vo)→Gr H.length H' 67 fa P.n fo (x.fr P.ws P.n)→Gr H.length H' 1 va P.n vo (nums (x.vv P.ws P.n))→(∀y z,fa=some y→va=some z→y.1≠z.1)→PairM H' q P { N with cnt:=cntS (x.ow P.ws).toNat (x.vN P.ws) N.cnt P.n }→H.length≤H'.length→(∀b,b<H.length→b≠q→H'[b]?=H[b]?)→Q (.exit 2) ⟨L 111 ρ',[],H'⟩):
  W F none (.loop bXw_26) ⟨L 111 ρ,[],H⟩ Q:=by
 obtain⟨cl0,u1,u2,u3⟩:=w0
 obtain⟨cl1,v1,v2,v3⟩:=w1
 have hfr:=fr_s x P.ws
 have hvv:=vv_s x P.ws
 have hvf:=vf_v x P.ws
 have hvl:=vf_len x P.ws
 have hch:=fun(Hx:Heap) (j:Nat) (a1 a2:Option Ad) (n1 n2 c1 c2:Nat) (o1 o2:Bool) (k1:Hx[0]?=some nibB) (k2:Cpy Hx a1 n1 c1 ((rcv (x.ow P.ws) x.l0 x.k0 j).getD [])) (k3:Cpy Hx a2 n2 c2 ((rcv (x.ow P.ws) x.l1 x.k1 j).getD []))=>s_Choose (o1:=o1) (o2:=o2) (by_:=x.ow P.ws) (slot:=x.ss) k1 k2 k3 hm
 have hch':∀(Hx:Heap) (j:Nat) (a1 a2:Option Ad) (n1 n2 c1 c2:Nat) (o1 o2:Bool),Hx[0]?=some nibB→Cpy Hx a1 n1 c1 ((rcv (x.ow P.ws) x.l0 x.k0 j).getD [])→Cpy Hx a2 n2 c2 ((rcv (x.ow P.ws) x.l1 x.k1 j).getD [])→WC F fXq [.c (.int .i64 (x.ow P.ws)),.agg [.int .i64 x.ss,.int .u16 (x.mem:Nat)],.c (.sl a1 n1 c1 o1),.c (.sl a2 n2 c2 o2)] Hx fun v H'=>v=.tup [.agg (x.vf P.ws j).1,.c (.int .i64 (x.vf P.ws j).2)]∧X1 Hx H':=hch
 clear hch
 obtain⟨ow,how,hw16⟩:∃ow:Nat,x.ow P.ws=ow∧ow<P.n:=by
  have hn:=ho.hn
  have h4:=ho.n4
  have:=ho.hw (x.ow P.ws) (gn_mem (Nat.mod_lt _ (by omega)))
  exact⟨(x.ow P.ws).toNat,by omega,by omega⟩
 rw[how] at hQ hch' u3 v3 e17
 rw[Int.toNat_natCast] at hQ
 obtain⟨C,gC,hC⟩:=h.cells
 have hn16:=ho.n16
 have hcin:=fun(k j:Nat) (hk:k<80)=>cntS_in (ow:=ow) (v:=x.vN P.ws) (k:=k) (by rw[hC.cl];exact hk) (hB k hk) j
 have hcs:∀j,cntS ow (x.vN P.ws) N.cnt (j+1)=if j=ow then cntS ow (x.vN P.ws) N.cnt j else (cntS ow (x.vN P.ws) N.cnt j).set (ow * 5+x.vN P.ws j) (gn (cntS ow (x.vN P.ws) N.cnt j) (ow * 5+x.vN P.ws j)+1):=fun _=>rfl
 have hc0:cntS ow (x.vN P.ws) N.cnt 0=N.cnt:=rfl
 obtain⟨n,hn⟩:∃n,P.n=n:=⟨_,rfl⟩
 rw[hn] at hw16 hn16 u2 u3 v2 v3 gh e64 hQ
 have hf0:x.fr P.ws 0=[]:=rfl
 have hv0:x.vv P.ws 0=[]:=rfl
 generalize x.fr P.ws=FR at *
 generalize x.vv P.ws=VV at *
 generalize x.vf P.ws=VF at *
 generalize x.vN P.ws=VN at *
 generalize hr0:(fun j=>(rcv (ow:Int) x.l0 x.k0 j))=r0 at *
 generalize hr1:(fun j=>(rcv (ow:Int) x.l1 x.k1 j))=r1 at *
 have er0:∀j,rcv (ow:Int) x.l0 x.k0 j=r0 j:=fun j=>by rw[←hr0]
 have er1:∀j,rcv (ow:Int) x.l1 x.k1 j=r1 j:=fun j=>by rw[←hr1]
 simp only[er0,er1] at u3 v3 hch'
 have hend:=fun H' cnt (hc:∃C,H'[q]?=some (.cells C false none)∧PrC P.K P.p0 P.p1 cnt C) (hx:∀b,b<H.length→b≠q→H'[b]?=H[b]?)=>h.keepQ hc hx
 have lqH:q<H.length:=lt_of_get gC
 have fin0:=zhd11 hfr hvv hvf hvl hch' u3 v3 hcin hcs hQ hend
 have lt7:=lt_of_get g7
 have lth:=lt_of_get gh
 have lb0:=lt_of_get u1
 have lb1:=lt_of_get v1
 have ltT:=lt_of_get hT
 have hinit:Hid ((∀b,b<H.length→b≠q→H[b]?=H[b]?)∧Gr H.length H 67 none 0 false (FR 0)∧Gr H.length H 1 none 0 false (nums (VV 0))∧(∀y z:Ad,(none:Option Ad)=some y→(none:Option Ad)=some z→y.1≠z.1)∧∃C,H[q]?=some (.cells C false none)∧PrC P.K P.p0 P.p1 (cntS ow VN N.cnt 0) C):=⟨fun _ _ _=>rfl,by rw[hf0];exact Gr.none _ _ _,by rw[hv0];exact Gr.none _ _ _,fun y z e _=>(by cases e),C,gC,hC⟩
 have fH:=zhd5 hT g7 gh u1 v1
 clear hfr hvv hvf hvl hch' u3 v3 hcin hcs hQ hend hC gC hB hc0 hn how hr0 hr1 er0 er1 hf0 hv0 h ho hT g7 gh u1 v1
 obtain⟨hh1,hh2,hh3,hh4,hh5,hh6⟩:=hh
 refine W_loop (fun mm st=>∃ρ,∃j:Nat,∃fa fo va vo Hk,st=⟨L 111 ρ,[],Hk⟩∧mm=n-j∧j≤n∧ρ 0=.c (.ptr (some (q,0)))∧ρ 7=.c (.ptr (some (b7,0)))∧ρ 13=.c (.ptr (some (bh,0)))∧ρ 17=.c (.int .i64 (ow:Nat))∧ρ 18=.c (.sl fa j j fo)∧ρ 19=.c (.sl va j j vo)∧ρ 64=.c (.int .i64 (n:Nat))∧ρ 65=.c (.int .i64 (j:Nat))∧H.length≤Hk.length∧
  Hid ((∀b,b<H.length→b≠q→Hk[b]?=H[b]?)∧Gr H.length Hk 67 fa j fo (FR j)∧Gr H.length Hk 1 va j vo (nums (VV j))∧(∀y z,fa=some y→va=some z→y.1≠z.1)∧∃C,Hk[q]?=some (.cells C false none)∧PrC P.K P.p0 P.p1 (cntS ow VN N.cnt j) C)) n
  ⟨_,0,none,false,none,false,H,rfl,rfl,by omega,e0,e7,e13,e17,e18,e19,e64,e65,Nat.le_refl _,hinit⟩ ?_
 clear hinit e0 e7 e13 e17 e18 e19 e64 e65
 rintro mm st ⟨ρ,j,fa,fo,va,vo,Hk,rfl,rfl,hj,e0,e7,e13,e17,e18,e19,e64,e65,lk,hall⟩
 unfold bXw_26
 have fz:=zhd1 hall
 clear hall
 by_cases hjn:j<n
 case neg=>
  obtain rfl:j=n:=by omega
  have hxt:¬(j:Int)<(j:Int):=by omega
  repeat (with_reducible first|(first|refine pI1 ?_|refine pS1 ?_);intros|refine pA1 ?_|refine pX1 ?_|refine pB1 ?_|exact True.intro)
  refine fin0 _ fun _ _ _ _ _ _ _ _ _ hQ hend=>fz _ fun hz=>hQ _ Hk fa fo va vo zf zf hz.2.1 hz.2.2.1 hz.2.2.2.1 (hend Hk _ hz.2.2.2.2 hz.1) lk hz.1
 have hxt:(j:Int)<(n:Int):=by omega
 obtain⟨C,gC,hC⟩:=fz _ fun h=>h.2.2.2.2
 have ghk:Hk[bh]?=_:=(fz _ fun h=>h.1 bh lth (Ne.symm hh2)).trans (fH _ fun _ _ g _ _=>g)
 have g7k:Hk[b7]?=_:=(fz _ fun h=>h.1 b7 lt7 (Ne.symm hh1)).trans (fH _ fun _ g _ _ _=>g)
 have u1k:Hk[bo0]?=_:=(fz _ fun h=>h.1 bo0 lb0 (by omega)).trans (fH _ fun _ _ _ g _=>g)
 have v1k:Hk[bo1]?=_:=(fz _ fun h=>h.1 bo1 lb1 (by omega)).trans (fH _ fun _ _ _ _ g=>g)
 have hTk:Hk[0]?=_:=(fz _ fun h=>h.1 0 ltT (Ne.symm hq0)).trans (fH _ fun g _ _ _ _=>g)
 obtain⟨a1,n1,c1,o1,d1,cp1⟩:=slot_cpy ((fin0 _ fun _ _ _ _ _ u3 _ _ _ _ _=>u3 j hjn).keep (H':=Hk) fun b hb hb2 _=>fz _ fun h=>h.1 b hb2 (by omega))
 obtain⟨a2,n2,c2,o2,d2,cp2⟩:=slot_cpy ((fin0 _ fun _ _ _ _ _ _ v3 _ _ _ _=>v3 j hjn).keep (H':=Hk) fun b hb hb2 _=>fz _ fun h=>h.1 b hb2 (by omega))
 have hcc:=fin0 _ fun _ _ _ _ hch _ _ _ _ _ _=>hch Hk j a1 a2 n1 n2 c1 c2 o1 o2 hTk cp1 cp2
 have hFs:=fin0 _ fun h _ _ _ _ _ _ _ _ _ _=>h j
 have hVs:=fin0 _ fun _ h _ _ _ _ _ _ _ _ _=>h j
 obtain⟨ev,hv4⟩:=fin0 _ fun _ _ h _ _ _ _ _ _ _ _=>h j
 have hFl:=fin0 _ fun _ _ _ h _ _ _ _ _ _ _=>h j
 have hcs:=fin0 _ fun _ _ _ _ _ _ _ _ h _ _=>h j
 rw[ev] at hcc
 clear ev cp1 cp2 hTk
 generalize (VF j).1=FM at *
 generalize VN j=vd at *
 have hci:=fin0 _ fun _ _ _ _ _ _ _ h _ _ _=>h (ow * 5+vd) j (by omega)
 have hcg:=hC.cnt (ow * 5+vd) (by omega)
 have hcp:=hC.put (k:=ow * 5+vd) (by omega) (gn (cntS ow VN N.cnt j) (ow * 5+vd)+1)
 have hlC:=hC.len
 rw[←Nat.add_assoc] at hcg hcp
 obtain⟨w,hw⟩:∃w,w=gn (cntS ow VN N.cnt j) (ow * 5+vd):=⟨_,rfl⟩
 rw[←hw] at hci hcg hcp hcs
 have lqk:=lt_of_get gC
 have f1:=zhd6 hFs hVs hcs hcp hC hcc
 clear hFs hVs hcs hcp hC hcc hw
 have hz67:=zF_len
 repeat (with_reducible first|(first|refine pI1 ?_|refine pS1 ?_);intros|refine pA1 ?_|refine pX1 ?_|refine pB1 ?_|exact True.intro)
 refine outM_call (f1 _ fun _ _ _ _ _ h=>h) ?_
 rintro _ H2 ⟨rfl,l2,x2⟩
 have gC2:=(x2 q (by omega)).trans gC
 have fx2:=zhd1 x2
 clear x2 gC ghk u1k v1k g7k
 repeat (with_reducible first|(first|refine pI1 ?_|refine pS1 ?_);intros|refine pA1 ?_|refine pX1 ?_|refine pB1 ?_|exact True.intro)
 rename_i b3 H3 p3 g3 x3 H4 l4 g4 x4 b5 H5 p5 g5 x5
 have hx5:∀b,b<Hk.length→H5[b]?=Hk[b]?:=fun b hb=>by rw[x5 b (by omega),x4 b (by omega),x3 b (by omega)];exact fx2 _ fun x=>x b hb
 have gC5:=(x5 q (by omega)).trans ((x4 q (by omega)).trans ((x3 q (by omega)).trans gC2))
 have hg5:Gr H.length H5 67 fa j fo (FR j):=fz _ fun h=>h.2.1.keepX hx5
 have hv5:Gr H.length H5 1 va j vo (nums (VV j)):=fz _ fun h=>h.2.2.1.keepX hx5
 have f5:=zhd1 hx5
 clear hx5 x5 x4 x3 gC2 g3 g4
 refine outM_appG (ys:=FM) hg5 (by omega) (Sl.blk2 g5 (by rw[hFl])) (by omega) (by omega) ?_
 intro fa' H6 hg6 l6 x6 y6 z6
 have gC6:=(x6 q (by omega)).trans gC5
 have hv6:Gr H.length H6 1 va j vo (nums (VV j)):=hv5.keep fun b hb hb2 hna=>y6 b hb2 fun y e hby=>hna fun x ex hbx=>fz _ fun h=>h.2.2.2.1 y x e ex (by omega)
 have hva:∀x,va=some x→x.1<H5.length:=fun x e=>(hv5.lt x e).2
 have hx6:∀b,b<H.length→H6[b]?=Hk[b]?:=fun b hb=>by rw[x6 b hb];exact f5 _ fun x=>x b (by omega)
 rw[←f1 _ fun h _ _ _ _ _=>h] at hg6
 have f6:=zhd3 hg6 hv6 hx6
 have hz6:∀x y,fa'=some x→va=some y→x.1≠y.1:=fun x y e e' h=>z6 y.1 (hva y e') x e h.symm
 have fz6:=zhd1 hz6
 clear hg6 hv6 hx6 x6 y6 z6 gC5 hg5 hv5 g5 hz6 f5 fx2 hva
 repeat (with_reducible first|(first|refine pI1 ?_|refine pS1 ?_);intros|refine pA1 ?_|refine pX1 ?_|refine pB1 ?_|exact True.intro)
 rename_i b7' H7 p7 g7' x7
 have gC7:=(x7 q (by omega)).trans gC6
 have hv7:Gr H.length H7 1 va j vo (nums (VV j)):=f6 _ fun _ h _=>h.keepX fun b hb=>x7 b (by omega)
 have hg7:Gr H.length H7 67 fa' (j+1) true (FR (j+1)):=f6 _ fun h _ _=>h.keepX fun b hb=>x7 b (by omega)
 have hx7:∀b,b<H.length→H7[b]?=Hk[b]?:=fun b hb=>by rw[x7 b (by omega)];exact f6 _ fun _ _ x=>x b hb
 clear x7 gC6
 refine outM_appG (ys:=[.int .i64 (vd:Nat)]) hv7 (by omega) (Sl.blk g7' rfl) (by omega) (by omega) ?_
 intro va' H8 hv8 l8 x8 y8 z8
 have gC8:=(x8 q (by omega)).trans gC7
 have e8:nums (VV j)++[Cell.int .i64 (vd:Nat)]=nums (VV (j+1)):=by rw[f1 _ fun _ h _ _ _ _=>h];unfold nums;rw[List.map_append];rfl
 rw[e8] at hv8
 have hg8:Gr H.length H8 67 fa' (j+1) true (FR (j+1)):=hg7.keep fun b hb hb2 hna=>y8 b hb2 fun y e hby=>hna fun x ex hbx=>fz6 _ fun h=>h x y ex e (by omega)
 have hz8:∀x y,fa'=some x→va'=some y→x.1≠y.1:=fun x y e e' h=>z8 x.1 (hg7.lt x e).2 y e' h
 have hx8:∀b,b<H.length→H8[b]?=Hk[b]?:=fun b hb=>by rw[x8 b hb];exact hx7 b hb
 have f8:=zhd4 hg8 hv8 hz8 hx8
 clear hg8 hv8 hz8 hx8 x8 y8 z8 gC7 hg7 hv7 g7' hx7 e8 fz6 f6
 by_cases hjo:j=ow
 ·have hjo':(j:Int)=(ow:Nat):=by omega
  have hkeep:cntS ow VN N.cnt (j+1)=cntS ow VN N.cnt j:=f1 _ fun _ _ h _ _ _=>by rw[h,if_pos hjo]
  have fk:=zhd1 hkeep
  clear hkeep hcg hci
  repeat (with_reducible first|(first|refine pI1 ?_|refine pS1 ?_);intros|refine pA1 ?_|refine pX1 ?_|refine pB1 ?_|exact True.intro)
  exact loopQ_n (n-(j+1)) (by omega) ⟨_,j+1,fa',true,va',true,H8,rfl,rfl,by omega,zf,zf,zf,zf,zf,zf,zf,zf,by omega,f8 _ fun hg hv hz hx=>⟨fun b hb hb2=>by rw[hx b hb];exact fz _ fun h=>h.1 b hb hb2,hg,hv,hz,C,gC8,by rw[fk _ fun h=>h];exact f1 _ fun _ _ _ _ h _=>h⟩⟩
 ·have hjo':¬(j:Int)=(ow:Nat):=by omega
  have hkeep:cntS ow VN N.cnt (j+1)=(cntS ow VN N.cnt j).set (ow * 5+vd) (w+1):=f1 _ fun _ _ h _ _ _=>by rw[h,if_neg hjo]
  have fk:=zhd1 hkeep
  clear hkeep
  obtain⟨hw0,hw1⟩:=hci
  have lq8:=lt_of_get gC8
  repeat (with_reducible first|(first|refine pI1 ?_|refine pS1 ?_);intros|refine pA1 ?_|refine pX1 ?_|refine pB1 ?_|exact True.intro)
  rename_i H9 l9 g9 x9
  have x9':∀b,b≠q→H9[b]?=H8[b]?:=fun b hb=>x9 b hb
  have f9:=zhd2 x9' g9
  clear x9' x9 g9 gC8
  repeat (with_reducible first|(first|refine pI1 ?_|refine pS1 ?_);intros|refine pA1 ?_|refine pX1 ?_|refine pB1 ?_|exact True.intro)
  have lf8:Gr H.length H9 67 fa' (j+1) true (FR (j+1)):=f8 _ fun hg _ _ _=>hg.keep fun b hb _ _=>f9 _ fun x _=>x b (by omega)
  have lv8:Gr H.length H9 1 va' (j+1) true (nums (VV (j+1))):=f8 _ fun _ hv _ _=>hv.keep fun b hb _ _=>f9 _ fun x _=>x b (by omega)
  exact loopQ_n (n-(j+1)) (by omega) ⟨_,j+1,fa',true,va',true,H9,rfl,rfl,by omega,zf,zf,zf,zf,zf,zf,zf,zf,by omega,f8 _ fun _ _ hz hx=>⟨fun b hb hb2=>by rw[f9 _ fun x _=>x b hb2,hx b hb];exact fz _ fun h=>h.1 b hb hb2,lf8,lv8,hz,_,f9 _ fun _ g=>g,by rw[fk _ fun h=>h];exact f1 _ fun _ _ _ h _ _=>h⟩⟩
end Go.Proofs.YtjcgdcadflplcaaDoor.AM.D21
namespace Go.Proofs.YtjcgdcadflplcaaDoor.AM.D21
open Go Go.Proofs.YtjcgdcadflplcaaDoor.AM Go.Proofs.YtjcgdcadflplcaaDoor.AM.C02 Go.Proofs.YtjcgdcadflplcaaDoor.AM.C07 Go.Proofs.YtjcgdcadflplcaaDoor.AM.C21 Go.Proofs.YtjcgdcadflplcaaDoor.AM.P3
set_option maxHeartbeats 2000000
set_option maxRecDepth 100000
attribute [local go_sem] tn_add1 tn_sub1 put_all' nums_len sub_all sub02
structure SltM (M:Nat) (H:Heap) (x:Slt) (x0 x1 y0 y1:Option Ad):Prop where
 s0:∀p,M≤p→Snds M p H x0 x.l0
 s1:∀p,M≤p→Snds M p H x1 x.l1
 c0:Tab 3 CpR M H y0 x.k0
 c1:Tab 3 CpR M H y1 x.k1
 d0:∀b z,y0=some (b,z)→b<M
 d1:∀b z,y1=some (b,z)→b<M
structure SltOk (x:Slt):Prop where
 sl:x.slot≤9223372036854775807
 mem:x.mem<65536
 b0:∀i,i<x.l0.length→(gs x.l0 i).bytes.length≤100000
 b1:∀i,i<x.l1.length→(gs x.l1 i).bytes.length≤100000
 n0:x.l0.length≤100000
 n1:x.l1.length≤100000
 k0:x.k0.length≤100000
 k1:x.k1.length≤100000
theorem SltM.keep {M:Nat} {H H':Heap} {x:Slt} {x0 x1 y0 y1:Option Ad} (h:SltM M H x x0 x1 y0 y1) (hx:∀b,b<M→H'[b]?=H[b]?):SltM M H' x x0 x1 y0 y1:=
 ⟨fun p hp=>(h.s0 p hp).keep fun b hb _=>hx b hb,fun p hp=>(h.s1 p hp).keep fun b hb _=>hx b hb,h.c0.keep (fun _ _ k=>k) hx,h.c1.keep (fun _ _ k=>k) hx,h.d0,h.d1⟩
def StepQ (H:Heap) (q:Nat) (P:Pr) (N:Cn) (x:Slt) (v:V) (H':Heap):Prop:=
 (∃fa fo va vo lo,v=.tup [.c (.sl fa P.n P.n fo),.c (.sl va P.n P.n vo),.c (.int .i64 0)]∧H.length≤lo∧Gr lo H' 67 fa P.n fo (x.fr P.ws P.n)∧Gr lo H' 1 va P.n vo (nums (x.vv P.ws P.n))∧∀y z,fa=some y→va=some z→y.1≠z.1)∧
  PairM H' q P (N.step x P.ws)∧H.length≤H'.length∧∀b,b<H.length→b≠q→b≠P.p0→b≠P.p1→H'[b]?=H[b]?
theorem s_dStep {M:Nat} {H:Heap} {q:Nat} {P:Pr} {N:Cn} {x:Slt} {x0 x1 y0 y1:Option Ad} {d0 d1 f0 f1:Nat} {u0 u1 v0 v1:Bool} (hp:PairM H q P N) (ho:PrOk P) (hM:M≤q∧M≤P.p0∧M≤P.p1) (hML:M≤H.length) (hT:H[0]?=some nibB) (hM0:0<M) (hB:∀k,k<80→0≤gn N.cnt k∧gn N.cnt k≤1000000) (hx:SltM M H x x0 x1 y0 y1) (hk:SltOk x):
  WC F fXw [.c (.ptr (some (q,0))),.c (.int .i64 (x.slot:Nat)),.agg [.int .i64 x.ss,.int .u16 (x.mem:Nat)],.agg [.sl x0 x.l0.length d0 u0,.sl x1 x.l1.length d1 u1],.agg [.sl y0 x.k0.length f0 v0,.sl y1 x.k1.length f1 v1]] H fun v H'=>StepQ H q P N x v H':=by
 refine WC_start eXw (by simp) ?_
 unfold cXw
 have hn4:=ho.n4
 have hn16:=ho.n16
 have hwl:=ho.hn
 have how:=ow_eq (ws:=P.ws) x (by omega)
 have hno:=fun(Hx:Heap) (t:Xt H Hx)=>s_none (hp.keepX (H':=Hx) t.2)
 have hsi:i64 (x.slot:Nat):=by have:=hk.sl;unfold i64;omega
 have hcar0:=fun(Hx:Heap) (t:Xt H Hx) (hb:BusM Hx P.p0 (some (P.e0,0)) P.n true P.ws N.bl0 N.pa0)=>s_Carry (N:=M) (c2:=d0) (c3:=f0) (o2:=u0) (o3:=v0) hb (by omega) hsi (by omega) (((hx.keep fun b hb=>t.2 b (by omega)).s0 _ hM.2.1)) rfl hk.n0 hk.b0 ((hx.keep fun b hb=>t.2 b (by omega)).c0) (fun b z e=>by have:=hx.d0 b z e;omega) rfl hk.k0 (by have:=t.1;omega)
 have hcar1:=fun(Hx:Heap) (t:∀b,b<M→Hx[b]?=H[b]?) (tl:H.length≤Hx.length) (hb:BusM Hx P.p1 (some (P.e1,0)) P.n true P.ws N.bl1 N.pa1)=>s_Carry (N:=M) (c2:=d1) (c3:=f1) (o2:=u1) (o3:=v1) hb (by omega) hsi (by omega) (((hx.keep t).s1 _ hM.2.2)) rfl hk.n1 hk.b1 ((hx.keep t).c1) (fun b z e=>by have:=hx.d1 b z e;omega) rfl hk.k1 (by omega)
 obtain⟨C,gC,hC⟩:=hp.cells
 have lq:=lt_of_get gC
 have h12:=hC.c12
 have h13:=hC.c13
 have hsubK:=hC.hk
 have hKl:=hC.kl
 have hlC:=hC.len
 have h0n:C[0]?=some (.int .i64 (P.n:Nat)):=by rw[sub_get hC.hk (by omega)];exact ho.k0
 have lp0:=lt_of_get hp.b0.1
 have lp1:=lt_of_get hp.b1.1
 have hown:=fun(Hx:Heap) (hs:Sl Hx 1 P.a P.n (nums P.ws))=>s_Owner (H:=Hx) (K:=P.K) (s:=x.slot) hKl ho.k0 ho.k1 hs ho.hn (by omega)
 have how':gn P.ws (x.slot % P.n)=x.ow P.ws:=by unfold Slt.ow;rw[hwl]
 rw[how'] at hown
 have q0:=hp.q0
 have q1:=hp.q1
 have q2:=hp.q2
 have q3:=hp.q3
 have s1:=ho.s1
 have s2:=ho.s2
 have s3:=ho.s3
 have le0:P.e0<H.length:=hp.b0.2.1.lt (b:=P.e0) (x:=0) rfl
 have le1:P.e1<H.length:=hp.b1.2.1.lt (b:=P.e1) (x:=0) rfl
 have hmem:=hk.mem
 have fin0:=zhd10 hp ho hno hcar0 hcar1 hown how hB hC hwl
 clear hp ho hno hcar0 hcar1 hown how hB hC how' hx hk hsi hwl
 obtain⟨m0,m1,m2⟩:=hM
 have hs0:¬((x.slot:Nat):Int)<0:=by omega
 repeat (with_reducible first|(first|refine pI1 ?_|refine pS1 ?_);intros|refine pA1 ?_|refine pX1 ?_|refine pB1 ?_|exact True.intro)
 rename_i b7 H7 p7 g7 x7 b8 H8 p8 g8 x8 b9 H9 p9 g9 x9
 have t9:Xt H H9:=⟨by omega,fun b hb=>by rw[x9 b (by omega),x8 b (by omega),x7 b (by omega)]⟩
 have g7':=(x9 b7 (by omega)).trans ((x8 b7 (by omega)).trans g7)
 have g8':=(x9 b8 (by omega)).trans g8
 have ft:=zhd1 t9
 clear x7 x8 x9 g7 g8 t9
 refine outM_call (fin0 _ fun _ _ hno _ _ _ _ _ _ _=>ft _ fun t=>hno H9 t) ?_
 rintro _ H9 ⟨rfl,rfl⟩
 repeat (with_reducible first|(first|refine pI1 ?_|refine pS1 ?_);intros|refine pA1 ?_|refine pX1 ?_|refine pB1 ?_|exact True.intro)
 rename_i bh Hb pb gb xb
 have tb:Xt H Hb:=ft _ fun t=>⟨by have:=t.1;omega,fun b hb=>by rw[xb b (by have:=t.1;omega)];exact t.2 b hb⟩
 have g7b:=(xb b7 (by omega)).trans g7'
 have g8b:=(xb b8 (by omega)).trans g8'
 have g9b:=(xb b9 (by omega)).trans g9
 have gCb:=(tb.2 q lq).trans gC
 have hb0:=fin0 _ fun hp _ _ _ _ _ _ _ _ _=>(hp.keepX (H':=Hb) tb.2).b0
 have hc0:=fin0 _ fun _ _ _ h _ _ _ _ _ _=>h Hb tb hb0
 have fb:=zhd2 tb hc0
 have lHb:=tb.1
 clear xb tb hc0 hb0 g7' g8' g9 ft gC
 refine W_turn bXw_14.eq_1 ?_
 repeat (with_reducible first|(first|refine pI1 ?_|refine pS1 ?_);intros|refine pA1 ?_|refine pX1 ?_|refine pB1 ?_|exact True.intro)
 refine outM_call (fb _ fun _ h=>h) ?_
 rintro v H11 ⟨hq,l11,x11⟩
 obtain⟨bo0,rfl,w1,w2,ho0,hbus0⟩:=car_rcv hq
 rw[fin0 _ fun _ _ _ _ _ _ h _ _ _=>h] at ho0 hbus0
 rw[fin0 _ fun _ _ _ _ _ _ _ _ _ h=>h] at ho0 ⊢
 have g711:=(x11 b7 (by omega) (by omega)).trans g7b
 have g811:=(x11 b8 (by omega) (by omega)).trans g8b
 have g911:=(x11 b9 (by omega) (by omega)).trans g9b
 have gb11:=(x11 bh (by omega) (by omega)).trans gb
 have gC11:=(x11 q (by omega) q0).trans gCb
 have hx11:∀b,b<H.length→b≠P.p0→H11[b]?=H[b]?:=fun b hb hb2=>by rw[x11 b (by omega) hb2];exact fb _ fun t _=>t.2 b hb
 have f11:=zhd3 hx11 ho0 hbus0
 clear hx11 ho0 hbus0 x11 g7b g8b g9b gb gCb hq fb
 repeat (with_reducible first|(first|refine pI1 ?_|refine pS1 ?_);intros|refine pA1 ?_|refine pX1 ?_|refine pB1 ?_|exact True.intro)
 rename_i H12 l12 g12 x12
 have g712:=(x12 b7 (by omega)).trans g711
 have g812:=(x12 b8 (by omega)).trans g811
 have g912:=(x12 b9 (by omega)).trans g911
 have gC12:=(x12 q (by omega)).trans gC11
 have hx12:∀b,b<H.length→b≠P.p0→H12[b]?=H[b]?:=fun b hb hb2=>by rw[x12 b (by omega)];exact f11 _ fun h _ _=>h b hb hb2
 have ho12:Outs H12 Hb.length bo0 P.n (rcv (x.ow P.ws) x.l0 x.k0):=f11 _ fun _ h _=>h.keep w1 fun b hb hb2=>x12 b (by omega)
 have hb12:=f11 _ fun _ _ h=>h.keep (H':=H12) fun b hb=>x12 b (by rcases hb with rfl|⟨z,e⟩;omega;cases e;omega)
 have hb112:BusM H12 P.p1 (some (P.e1,0)) P.n true P.ws N.bl1 N.pa1:=fin0 _ fun hp _ _ _ _ _ _ _ _ _=>hp.b1.keep fun b hb=>hx12 b (by rcases hb with rfl|⟨z,e⟩;omega;cases e;omega) (by rcases hb with rfl|⟨z,e⟩;exact s1.symm;cases e;exact s3)
 have hc1:=fin0 _ fun _ _ _ _ h _ _ _ _ _=>h H12 (fun b hb=>hx12 b (by omega) (by omega)) (by omega) hb112
 have f12:=zhd4 hx12 ho12 hb12 hc1
 clear hx12 ho12 hb12 hc1 hb112 x12 g711 g811 g911 gC11 f11 gb11
 refine W_turn bXw_14.eq_1 ?_
 repeat (with_reducible first|(first|refine pI1 ?_|refine pS1 ?_);intros|refine pA1 ?_|refine pX1 ?_|refine pB1 ?_|exact True.intro)
 refine outM_call (f12 _ fun _ _ _ h=>h) ?_
 rintro v H13 ⟨hq,l13,x13⟩
 obtain⟨bo1,rfl,w3,w4,ho1,hbus1⟩:=car_rcv hq
 rw[fin0 _ fun _ _ _ _ _ _ h _ _ _=>h] at ho1 hbus1
 rw[fin0 _ fun _ _ _ _ _ _ _ _ _ h=>h] at ho1 ⊢
 have g713:=(x13 b7 (by omega) (by omega)).trans g712
 have gb13:=(x13 bh (by omega) (by omega)).trans g12
 have gC13:=(x13 q (by omega) q1).trans gC12
 have hx13:∀b,b<H.length→b≠P.p0→b≠P.p1→H13[b]?=H[b]?:=fun b hb hb2 hb3=>by rw[x13 b (by omega) hb3];exact f12 _ fun h _ _ _=>h b hb hb2
 have ho013:Outs H13 Hb.length bo0 P.n (rcv (x.ow P.ws) x.l0 x.k0):=f12 _ fun _ h _ _=>h.keep w1 fun b hb hb2=>x13 b (by omega) (by omega)
 have hb013:=f12 _ fun _ _ h _=>h.keep (H':=H13) fun b hb=>x13 b (by rcases hb with rfl|⟨z,e⟩;omega;cases e;omega) (by rcases hb with rfl|⟨z,e⟩;exact s1;cases e;exact s2)
 have f13:=zhd5 hx13 ho013 hb013 ho1 hbus1
 clear hx13 ho013 hb013 ho1 hbus1 x13 g712 g812 g912 gC12 hq f12 g12
 repeat (with_reducible first|(first|refine pI1 ?_|refine pS1 ?_);intros|refine pA1 ?_|refine pX1 ?_|refine pB1 ?_|exact True.intro)
 rename_i H14 l14 g14 x14
 have g714:=(x14 b7 (by omega)).trans g713
 have gC14:=(x14 q (by omega)).trans gC13
 have hx14:∀b,b<H.length→b≠P.p0→b≠P.p1→H14[b]?=H[b]?:=fun b hb hb2 hb3=>by rw[x14 b (by omega)];exact f13 _ fun h _ _ _ _=>h b hb hb2 hb3
 have ho014:Outs H14 Hb.length bo0 P.n (rcv (x.ow P.ws) x.l0 x.k0):=f13 _ fun _ h _ _ _=>h.keep w1 fun b hb hb2=>x14 b (by omega)
 have ho114:Outs H14 H12.length bo1 P.n (rcv (x.ow P.ws) x.l1 x.k1):=f13 _ fun _ _ _ h _=>h.keep w3 fun b hb hb2=>x14 b (by omega)
 have hb014:=f13 _ fun _ _ h _ _=>h.keep (H':=H14) fun b hb=>x14 b (by rcases hb with rfl|⟨z,e⟩;omega;cases e;omega)
 have hb114:=f13 _ fun _ _ _ _ h=>h.keep (H':=H14) fun b hb=>x14 b (by rcases hb with rfl|⟨z,e⟩;omega;cases e;omega)
 have hown14:Sl H14 1 P.a P.n (nums P.ws):=fin0 _ fun hp ho _ _ _ _ _ _ _ _=>hp.owners.keep fun b z e=>hx14 b (hp.owners.lt e) (ho.s4 b z e).1 (ho.s4 b z e).2
 have hpair14:PairM H14 q P ⟨blS (x.ow P.ws) x.l0 N.bl0,paS (x.ow P.ws) x.l0 N.pa0,blS (x.ow P.ws) x.l1 N.bl1,paS (x.ow P.ws) x.l1 N.pa1,N.cnt⟩:=fin0 _ fun hp _ _ _ _ _ _ _ hC _=>⟨⟨C,gC14,hC⟩,hown14,hb014,hb114,q0,q1,q2,q3,hp.q4⟩
 have hcow:=fin0 _ fun _ _ _ _ _ h _ _ _ _=>h H14 hown14
 have f14:=zhd5 hx14 ho014 ho114 hpair14 hcow
 clear hx14 ho014 ho114 hb014 hb114 hown14 hpair14 hcow x14 g713 gC13 gb13 f13
 refine W_turn bXw_14.eq_1 ?_
 repeat (with_reducible first|(first|refine pI1 ?_|refine pS1 ?_);intros|refine pA1 ?_|refine pX1 ?_|refine pB1 ?_|exact True.intro)
 refine outM_call (f14 _ fun _ _ _ _ h=>h) ?_
 rintro _ H15 ⟨rfl,l15,x15⟩
 have g715:=(x15 b7 (by omega)).trans g714
 have gb15:=(x15 bh (by omega)).trans g14
 have gC15:=(x15 q (by omega)).trans gC14
 have f15:=zhd1 x15
 clear x15 g714 g14 gC14
 repeat (with_reducible first|(first|refine pI1 ?_|refine pS1 ?_);intros|refine pA1 ?_|refine pX1 ?_|refine pB1 ?_|exact True.intro)
 refine step_round (x:=x) (P:=P) (N:=⟨blS (x.ow P.ws) x.l0 N.bl0,paS (x.ow P.ws) x.l0 N.pa0,blS (x.ow P.ws) x.l1 N.bl1,paS (x.ow P.ws) x.l1 N.pa1,N.cnt⟩) (q:=q) (b7:=b7) (bh:=bh) (bo0:=bo0) (bo1:=bo1) (lo0:=Hb.length) (lo1:=H12.length) (f14 _ fun _ _ _ h _=>h.keepX (f15 _ fun x=>x)) (fin0 _ fun _ ho _ _ _ _ _ _ _ _=>ho)
  (by rw[f15 _ fun x=>x 0 (by omega)];exact f14 _ fun h _ _ _ _=>(h 0 (by omega) (by omega) (by omega)).trans hT) (by omega) (fin0 _ fun _ _ _ _ _ _ _ h _ _=>h) hmem g715 gb15 (by omega)
  (f14 _ fun _ h _ _ _=>h.keep w1 fun b hb hb2=>f15 _ fun x=>x b hb2) (f14 _ fun _ _ h _ _=>h.keep w3 fun b hb hb2=>f15 _ fun x=>x b hb2) zf zf zf zf zf zf zf zf ?_
 intro ρ' H' fa fo va vo z18 z19 hg hv hz hP l16 x16
 have f16:=zhd5 hg hv hz hP x16
 clear hg hv hz hP x16 g715 gb15 gC15
 repeat (with_reducible first|(first|refine pI1 ?_|refine pS1 ?_);intros|refine pA1 ?_|refine pX1 ?_|refine pB1 ?_|exact True.intro)
 refine f16 _ fun hg hv hz hP x16=>⟨⟨fa,fo,va,vo,H15.length,rfl,by omega,hg,hv,hz⟩,?_,by omega,fun b hb a1 a2 a3=>?_⟩
 ·have e:N.step x P.ws=⟨blS (x.ow P.ws) x.l0 N.bl0,paS (x.ow P.ws) x.l0 N.pa0,blS (x.ow P.ws) x.l1 N.bl1,paS (x.ow P.ws) x.l1 N.pa1,cntS (x.ow P.ws).toNat (x.vN P.ws) N.cnt P.n⟩:=by unfold Cn.step;rw[fin0 _ fun _ _ _ _ _ _ _ _ _ h=>h]
  rw[e];exact hP
 ·rw[x16 b (by omega) a1,f15 _ fun x=>x b (by omega)];exact f14 _ fun h _ _ _ _=>h b hb a2 a3
end Go.Proofs.YtjcgdcadflplcaaDoor.AM.D21
namespace Go.Proofs.YtjcgdcadflplcaaDoor.AM.D21
open Go Go.Proofs.YtjcgdcadflplcaaDoor.AM Go.Proofs.YtjcgdcadflplcaaDoor.AM.C02 Go.Proofs.YtjcgdcadflplcaaDoor.AM.C07 Go.Proofs.YtjcgdcadflplcaaDoor.AM.C21 Go.Proofs.YtjcgdcadflplcaaDoor.AM.P3
set_option maxHeartbeats 2000000
set_option maxRecDepth 100000
attribute [local go_sem] tn_add1 tn_sub1 put_all' nums_len sub_all sub02
structure Rp where
 n:Nat
 a:Option Ad
 c:Nat
 o:Bool
 ws:List Int
structure RpC (R:Rp) (N:Cn) (C:List Cell):Prop where
 len:C.length=98
 c0:C[0]?=some (.int .i64 (R.n:Nat))
 c1:C[1]?=some (.sl R.a R.n R.c R.o)
 c12:C[12]?=some (.sl R.a R.n R.c R.o)
 c13:C[13]?=some (.int .u64 (N.bl0:Nat))
 c14:C[14]?=some (.int .u64 (N.pa0:Nat))
 c15:C[15]?=some (.sl R.a R.n R.c R.o)
 c16:C[16]?=some (.int .u64 (N.bl1:Nat))
 c17:C[17]?=some (.int .u64 (N.pa1:Nat))
 cl:N.cnt.length=80
 cnt:∀k,k<80→C[18+k]?=some (.int .i64 (gn N.cnt k))
theorem RpC.put {R:Rp} {N:Cn} {C:List Cell} (h:RpC R N C) {k:Nat} (hk:k<80) (x:Int):RpC R { N with cnt:=N.cnt.set k x } (C.set (18+k) (.int .i64 x)) where
 len:=by rw[List.length_set];exact h.len
 c0:=by rw[List.getElem?_set_ne (by omega)];exact h.c0
 c1:=by rw[List.getElem?_set_ne (by omega)];exact h.c1
 c12:=by rw[List.getElem?_set_ne (by omega)];exact h.c12
 c13:=by rw[List.getElem?_set_ne (by omega)];exact h.c13
 c14:=by rw[List.getElem?_set_ne (by omega)];exact h.c14
 c15:=by rw[List.getElem?_set_ne (by omega)];exact h.c15
 c16:=by rw[List.getElem?_set_ne (by omega)];exact h.c16
 c17:=by rw[List.getElem?_set_ne (by omega)];exact h.c17
 cl:=by rw[List.length_set];exact h.cl
 cnt:=fun j hj=>by
  have hl:=h.len
  show _=some (Cell.int .i64 (gn (N.cnt.set k x) j))
  rw[gn_set]
  by_cases e:k=j
  ·subst e
   rw[List.getElem?_set_self (by omega),if_pos ⟨rfl,by have:=h.cl;omega⟩]
  ·rw[List.getElem?_set_ne (by omega),if_neg fun h'=>e h'.1];exact h.cnt j hj
structure RpM (H:Heap) (r:Nat) (R:Rp) (N:Cn):Prop where
 cells:∃C,H[r]?=some (.cells C false none)∧RpC R N C
 owners:Sl H 1 R.a R.n (nums R.ws)
 sep:∀b x,R.a=some (b,x)→b≠r
structure RpOk (R:Rp):Prop where
 hn:R.ws.length=R.n
 n4:4≤R.n
 n16:R.n≤16
 hw:∀y∈R.ws,0≤y∧y<(R.n:Int)
theorem RpM.keepX {H H':Heap} {r:Nat} {R:Rp} {N:Cn} (h:RpM H r R N) (hx:∀b,b<H.length→H'[b]?=H[b]?):RpM H' r R N:=by
 obtain⟨C,g,hC⟩:=h.cells
 exact⟨⟨C,by rw[hx r (lt_of_get g)];exact g,hC⟩,h.owners.keep fun b x e=>hx b (h.owners.lt e),h.sep⟩
theorem RpM.lt {H:Heap} {r:Nat} {R:Rp} {N:Cn} (h:RpM H r R N):r<H.length:=by
 obtain⟨C,g,hC⟩:=h.cells
 exact lt_of_get g
theorem s_rCount {H:Heap} {r:Nat} {R:Rp} {N:Cn} (h:RpM H r R N) (ho:RpOk R) {n v:Int} (hn:i64 n) (hv:i64 v):WC F fX23 [.c (.ptr (some (r,0))),.c (.int .i64 n),.c (.int .i64 v)] H fun w H'=>w=.c (.int .i64 (if 0≤n∧n<R.n∧0≤v∧v≤4 then gn N.cnt (n.toNat * 5+v.toNat) else 0))∧H'=H:=by
 refine WC_start eX23 (by simp) ?_
 unfold cX23
 obtain⟨C,g,hC⟩:=h.cells
 have h0:=hC.c0
 have hcnt:=hC.cnt
 have n16:=ho.n16
 have fin0:=zhd1 hcnt
 clear h hC hcnt ho
 obtain⟨hn1,hn2⟩:=hn
 obtain⟨hv1,hv2⟩:=hv
 obtain⟨m,hm⟩:∃m,R.n=m:=⟨_,rfl⟩
 rw[hm] at h0 n16 ⊢
 clear hm
 by_cases c1:n<0
 ·rw[if_neg (by omega)]
  repeat (with_reducible first|(first|refine pI1 ?_|refine pS1 ?_);intros|refine pA1 ?_|refine pX1 ?_|refine pB1 ?_|exact True.intro)
  exact⟨rfl,rfl⟩
 by_cases c2:n≥(m:Int)
 ·rw[if_neg (by omega)]
  repeat (with_reducible first|(first|refine pI1 ?_|refine pS1 ?_);intros|refine pA1 ?_|refine pX1 ?_|refine pB1 ?_|exact True.intro)
  exact⟨rfl,rfl⟩
 by_cases c3:v<0
 ·rw[if_neg (by omega)]
  repeat (with_reducible first|(first|refine pI1 ?_|refine pS1 ?_);intros|refine pA1 ?_|refine pX1 ?_|refine pB1 ?_|exact True.intro)
  exact⟨rfl,rfl⟩
 by_cases c4:v > 4
 ·rw[if_neg (by omega)]
  repeat (with_reducible first|(first|refine pI1 ?_|refine pS1 ?_);intros|refine pA1 ?_|refine pX1 ?_|refine pB1 ?_|exact True.intro)
  exact⟨rfl,rfl⟩
 rw[if_pos (by omega)]
 obtain⟨x,rfl⟩:∃x:Nat,n=x:=⟨n.toNat,by omega⟩
 obtain⟨y,rfl⟩:∃y:Nat,v=y:=⟨v.toNat,by omega⟩
 rw[Int.toNat_natCast,Int.toNat_natCast]
 have hc:=fin0 _ fun h=>h (x * 5+y) (by omega)
 rw[←Nat.add_assoc] at hc
 generalize gn N.cnt (x * 5+y)=r at *
 repeat (with_reducible first|(first|refine pI1 ?_|refine pS1 ?_);intros|refine pA1 ?_|refine pX1 ?_|refine pB1 ?_|exact True.intro)
 exact⟨rfl,rfl⟩
theorem s_rLosses {H:Heap} {r:Nat} {R:Rp} {N:Cn} (h:RpM H r R N) (hB:∀k,k<80→0≤gn N.cnt k∧gn N.cnt k≤1000000):WC F fX24 [.c (.ptr (some (r,0)))] H fun v H'=>v=.tup [.c (.int .i64 (colS N.cnt 2 16)),.c (.int .i64 (colS N.cnt 1 16))]∧Xt H H':=by
 refine WC_start eX24 (by simp) ?_
 unfold cX24
 obtain⟨C,g,hC⟩:=h.cells
 have hcnt:=hC.cnt
 clear h hC
 generalize N.cnt=cnt at *
 have hc1:=colS_in (v:=1) (by omega) hB
 have hc2:=colS_in (v:=2) (by omega) hB
 have fin0:=zhd4 hcnt hc1 hc2 hB
 clear hcnt hc1 hc2 hB
 repeat (with_reducible first|(first|refine pI1 ?_|refine pS1 ?_);intros|refine pA1 ?_|refine pX1 ?_|refine pB1 ?_|exact True.intro)
 refine W_loop (fun mm st=>∃ρ,∃i:Nat,st=⟨L 31 ρ,[],H⟩∧mm=16-i∧i≤16∧ρ 0=.c (.ptr (some (r,0)))∧ρ 4=.c (.int .i64 (colS cnt 2 i))∧ρ 5=.c (.int .i64 (colS cnt 1 i))∧ρ 6=.c (.int .i64 (i:Nat))) 16 ⟨_,0,rfl,rfl,by omega,zf,zf,zf,zf⟩ ?_
 rintro mm st ⟨ρ,i,rfl,rfl,hi,e0,e4,e5,e6⟩
 unfold bX24_8
 by_cases hin:i<16
 ·have hxt:(i:Int)<16:=by omega
  have b1:=fin0 _ fun _ h _ _=>h i (by omega)
  have b2:=fin0 _ fun _ _ h _=>h i (by omega)
  have b3:=fin0 _ fun _ _ _ h=>h (i * 5+1) (by omega)
  have b4:=fin0 _ fun _ _ _ h=>h (i * 5+2) (by omega)
  have r1:=fin0 _ fun h _ _ _=>h (i * 5+1) (by omega)
  have r2:=fin0 _ fun h _ _ _=>h (i * 5+2) (by omega)
  rw[←Nat.add_assoc] at r1 r2
  have n1:colS cnt 1 (i+1)=colS cnt 1 i+gn cnt (i * 5+1):=rfl
  have n2:colS cnt 2 (i+1)=colS cnt 2 i+gn cnt (i * 5+2):=rfl
  generalize gn cnt (i * 5+1)=w1 at *
  generalize gn cnt (i * 5+2)=w2 at *
  have fq:=zhd2 n1 n2
  clear n1 n2
  generalize colS cnt 1 i=s1 at *
  generalize colS cnt 2 i=s2 at *
  repeat (with_reducible first|(first|refine pI1 ?_|refine pS1 ?_);intros|refine pA1 ?_|refine pX1 ?_|refine pB1 ?_|exact True.intro)
  exact loopQ_n (16-(i+1)) (by omega) ⟨_,i+1,rfl,rfl,by omega,zf,by rw[fq _ fun _ h=>h];exact zf,by rw[fq _ fun h _=>h];exact zf,zf⟩
 ·obtain rfl:i=16:=by omega
  generalize colS cnt 1 16=s1 at *
  generalize colS cnt 2 16=s2 at *
  repeat (with_reducible first|(first|refine pI1 ?_|refine pS1 ?_);intros|refine pA1 ?_|refine pX1 ?_|refine pB1 ?_|exact True.intro)
  exact⟨rfl,Nat.le_refl _,fun _ _=>rfl⟩
def six (a b c d e f:Cell):List Cell:=[a,b,c,d,e,f]
def hdr:List Cell:=[Cell.int .i64 0,.sl none 0 0 false,.int .i64 0,.int .i64 0,.int .i64 0,.int .i64 0,.int .i64 0,.int .i64 0,.sl none 0 0 false,.sl none 0 0 false,.sl none 0 0 false,.sl none 0 0 false]
def Z98:List Cell:=hdr++(six (.sl none 0 0 false) (.int .u64 0) (.int .u64 0) (.sl none 0 0 false) (.int .u64 0) (.int .u64 0)++zc80)
theorem Z98_eq:([(Cell.int .i64 0)]++[(.sl none 0 0 false)]++List.replicate 6 (.int .i64 0)++List.replicate 5 (.sl none 0 0 false)++List.replicate 2 (.int .u64 0)++[(.sl none 0 0 false)]++List.replicate 2 (.int .u64 0)++zc80)=Z98:=rfl
theorem Z98_eq2:(Cell.int .i64 0 :: Cell.sl none 0 0 false :: (List.replicate 6 (Cell.int .i64 0)++List.replicate 5 (Cell.sl none 0 0 false)++List.replicate 2 (Cell.int .u64 0)++[Cell.sl none 0 0 false]++List.replicate 2 (Cell.int .u64 0)++zc80))=Z98:=rfl
theorem sub3l (a b c:Cell):sub [a,b,c] 0 3=some [a,b,c]:=rfl
attribute [local go_sem] sub3l
theorem zc80_len:zc80.length=80:=List.length_replicate ..
theorem six_len (a b c d e f:Cell):(six a b c d e f).length=6:=rfl
theorem Z98_len:Z98.length=98:=rfl
attribute [local go_sem 2000] zc80_eq Z98_eq Z98_eq2 Z98_len
def rp0 (c:Cfg) (h:Hd):List Cell:=c.cells h++(six (.sl h.a1 c.owners.length h.c1 h.o1) (.int .u64 0) (.int .u64 0) (.sl h.a1 c.owners.length h.c1 h.o1) (.int .u64 0) (.int .u64 0)++zc80)
theorem rp_at {C S:List Cell} (h:C.length=12) (hs:S.length=6) (k:Nat):(C++(S++zc80))[18+k]?=zc80[k]?:=by
 rw[List.getElem?_append_right (by omega),List.getElem?_append_right (by omega)]
 congr 1;omega
theorem rp0_c {c:Cfg} {h:Hd} (hn:c.nodes=(c.owners.length:Nat)):RpC ⟨c.owners.length,h.a1,h.c1,h.o1,c.owners⟩ ⟨0,0,0,0,z80⟩ (rp0 c h):=by
 refine⟨?_,by show some (Cell.int .i64 c.nodes)=_;rw[hn],rfl,rfl,rfl,rfl,rfl,rfl,rfl,rfl,fun k hk=>?_⟩
 ·unfold rp0
  rw[List.length_append,List.length_append,six_len,zc80_len];rfl
 show (rp0 c h)[18+k]?=some (Cell.int .i64 (gn z80 k))
 unfold rp0
 rw[rp_at rfl (six_len ..)];exact zc80_at hk
theorem s_r21New {N:Nat} {H:Heap} {c:Cfg} {h:Hd} (hc:CfgM N H c h) (hN:N≤H.length) (hf:Few c):WC F fX22 [.agg (c.cells h)] H fun v H'=>Xt H H'∧
  ((c.check≠0∧∃w,w.length=98∧v=.tup [.agg w,.c (.int .i64 c.check)])∨(c.check=0∧v=.tup [.agg (rp0 c h),.c (.int .i64 0)])):=by
 refine WC_start eX22 (by simp) ?_
 unfold cX22
 have hnew:=fun(Hx:Heap) (hx:Xt H Hx)=>s_rNew (hc.keep (H':=Hx) fun b hb=>hx.2 b (by omega)) (by have:=hx.1;omega) hf
 unfold rp0
 obtain⟨C,hC⟩:∃C,C=c.cells h:=⟨_,rfl⟩
 have hsub:sub C 0 12=some C:=by rw[hC];rfl
 have hlen:C.length=12:=by rw[hC];rfl
 have hput:put Z98 0 C=C++(six (.sl none 0 0 false) (.int .u64 0) (.int .u64 0) (.sl none 0 0 false) (.int .u64 0) (.int .u64 0)++zc80):=put_left (by rw[hlen];rfl)
 have hput2:∀a b c d e f,put (C++(six (.sl none 0 0 false) (.int .u64 0) (.int .u64 0) (.sl none 0 0 false) (.int .u64 0) (.int .u64 0)++zc80)) 12 [a,b,c,d,e,f]=C++(six a b c d e f++zc80):=fun a b c d e f=>by
  have:=put_append [a,b,c,d,e,f] C (six (.sl none 0 0 false) (.int .u64 0) (.int .u64 0) (.sl none 0 0 false) (.int .u64 0) (.int .u64 0)) zc80 rfl
  rw[hlen] at this
  rw[←List.append_assoc,this,List.append_assoc];rfl
 have hput4:∀a b c d e f,(((((((C++(six (.sl none 0 0 false) (.int .u64 0) (.int .u64 0) (.sl none 0 0 false) (.int .u64 0) (.int .u64 0)++zc80)).set 12 a).set 13 b).set 14 c).set 15 d).set 16 e).set 17 f)=C++(six a b c d e f++zc80):=hput2
 have hl3:∀a b c d e f,(C++(six a b c d e f++zc80)).length=98:=fun a b c d e f=>by rw[List.length_append,List.length_append,six_len,zc80_len,hlen]
 have hput3:∀a b c d e f,put Z98 0 (C++(six a b c d e f++zc80))=C++(six a b c d e f++zc80):=fun a b c d e f=>put_all' (by rw[hl3];rfl)
 have hs3:∀a b c d e f,sub (C++(six a b c d e f++zc80)) 0 98=some (C++(six a b c d e f++zc80)):=fun a b c d e f=>sub_all _ _ (hl3 ..)
 rw[←hC] at hnew ⊢
 generalize Cell.sl h.a1 c.owners.length h.c1 h.o1=S at *
 obtain⟨k,hk⟩:∃k,k=c.check:=⟨_,rfl⟩
 rw[←hk] at hnew ⊢
 have hsz:=sub_all Z98 98 Z98_len
 have fin0:=zhd1 hnew
 clear hnew hC hc hf hk
 repeat (with_reducible first|(first|refine pI1 ?_|refine pS1 ?_);intros|refine pA1 ?_|refine pX1 ?_|refine pB1 ?_|exact True.intro)
 rename_i b1 H1 p1 g1 x1 b2 H2 p2 g2 x2
 have t2:Xt H H2:=⟨by omega,fun b hb=>by rw[x2 b (by omega),x1 b (by omega)]⟩
 have g12:=(x2 b1 (by omega)).trans g1
 have f2:=zhd1 t2
 clear x1 x2 g1 t2
 refine outM_call (fin0 _ fun h=>f2 _ fun t=>h H2 t) ?_
 rintro v H3 ⟨⟨l3,x3⟩,hv⟩
 have g13:=(x3 b1 (by omega)).trans g12
 have g23:=(x3 b2 (by omega)).trans g2
 have t3:Xt H H3:=f2 _ fun t=>⟨by omega,fun b hb=>by rw[x3 b (by omega)];exact t.2 b hb⟩
 have f3:=zhd1 t3
 clear x3 t3 g12 g2
 rcases hv with ⟨h0,rfl⟩|⟨rfl,rfl⟩
 ·clear hput hput2 hput3 hput4 hl3 hs3
  repeat (with_reducible first|(first|refine pI1 ?_|refine pS1 ?_);intros|refine pA1 ?_|refine pX1 ?_|refine pB1 ?_|exact True.intro)
  rename_i b4 H4 p4 g4 x4 H5 l5 g5 x5
  have t5:Xt H H5:=f3 _ fun t=>⟨by have:=t.1;omega,fun b hb=>by have:=t.1;rw[x5 b (by omega),x4 b (by omega)];exact t.2 b hb⟩
  have g15:=(x5 b1 (by omega)).trans ((x4 b1 (by omega)).trans g13)
  have g25:=(x5 b2 (by omega)).trans ((x4 b2 (by omega)).trans g23)
  have f5:=zhd1 t5
  clear x4 x5 t5 g13 g23 g4 g5
  refine outM_call (fin0 _ fun h=>f5 _ fun t=>h H5 t) ?_
  rintro v H6 ⟨⟨l6,x6⟩,⟨-,rfl⟩|⟨h1,-⟩⟩
  case inr=>exact absurd h1 h0
  have g16:=(x6 b1 (by omega)).trans g15
  have g26:=(x6 b2 (by omega)).trans g25
  have t6:Xt H H6:=f5 _ fun t=>⟨by have:=t.1;omega,fun b hb=>by rw[x6 b (by have:=t.1;omega)];exact t.2 b hb⟩
  have f6:=zhd1 t6
  clear x6 t6 g15 g25
  repeat (with_reducible first|(first|refine pI1 ?_|refine pS1 ?_);intros|refine pA1 ?_|refine pX1 ?_|refine pB1 ?_|exact True.intro)
  rename_i b7 H7 p7 g7 x7 H8 l8 g8 x8 H9 l9 g9 x9
  have t9:Xt H H9:=f6 _ fun t=>⟨by have:=t.1;omega,fun b hb=>by have:=t.1;rw[x9 b (by omega),x8 b (by omega),x7 b (by omega)];exact t.2 b hb⟩
  have f9:=zhd1 t9
  clear x7 x8 x9 g7 g8 t9
  repeat (with_reducible first|(first|refine pI1 ?_|refine pS1 ?_);intros|refine pA1 ?_|refine pX1 ?_|refine pB1 ?_|exact True.intro)
  exact⟨f9 _ fun t=>t,.inl ⟨h0,_,Z98_len,rfl⟩⟩
 ·repeat (with_reducible first|(first|refine pI1 ?_|refine pS1 ?_);intros|refine pA1 ?_|refine pX1 ?_|refine pB1 ?_|exact True.intro)
  rename_i b4 H4 p4 g4 x4 H5 l5 g5 x5
  have t5:Xt H H5:=f3 _ fun t=>⟨by have:=t.1;omega,fun b hb=>by have:=t.1;rw[x5 b (by omega),x4 b (by omega)];exact t.2 b hb⟩
  have g15:=(x5 b1 (by omega)).trans ((x4 b1 (by omega)).trans g13)
  have g25:=(x5 b2 (by omega)).trans ((x4 b2 (by omega)).trans g23)
  have f5:=zhd1 t5
  clear x4 x5 t5 g13 g23 g4
  refine outM_call (fin0 _ fun h=>f5 _ fun t=>h H5 t) ?_
  rintro v H6 ⟨⟨l6,x6⟩,⟨h1,-⟩|⟨-,rfl⟩⟩
  case inl=>exact absurd rfl h1
  have g16:=(x6 b1 (by omega)).trans g15
  have g26:=(x6 b2 (by omega)).trans g25
  have g46:=(x6 b4 (by omega)).trans g5
  have t6:Xt H H6:=f5 _ fun t=>⟨by have:=t.1;omega,fun b hb=>by rw[x6 b (by have:=t.1;omega)];exact t.2 b hb⟩
  have f6:=zhd1 t6
  clear x6 t6 g15 g25 g5
  repeat (with_reducible first|(first|refine pI1 ?_|refine pS1 ?_);intros|refine pA1 ?_|refine pX1 ?_|refine pB1 ?_|exact True.intro)
  rename_i b7 H7 p7 g7 x7 H8 l8 g8 x8 H9 l9 g9 x9
  have t9:Xt H H9:=f6 _ fun t=>⟨by have:=t.1;omega,fun b hb=>by have:=t.1;rw[x9 b (by omega),x8 b (by omega),x7 b (by omega)];exact t.2 b hb⟩
  have f9:=zhd1 t9
  clear x7 x8 x9 g7 g8 t9
  repeat (with_reducible first|(first|refine pI1 ?_|refine pS1 ?_);intros|refine pA1 ?_|refine pX1 ?_|refine pB1 ?_|exact True.intro)
  exact⟨f9 _ fun t=>t,.inr ⟨rfl,rfl⟩⟩
end Go.Proofs.YtjcgdcadflplcaaDoor.AM.D21
namespace Go.Proofs.YtjcgdcadflplcaaDoor.AM.D21
open Go Go.Proofs.YtjcgdcadflplcaaDoor.AM Go.Proofs.YtjcgdcadflplcaaDoor.AM.C02 Go.Proofs.YtjcgdcadflplcaaDoor.AM.C07 Go.Proofs.YtjcgdcadflplcaaDoor.AM.C21 Go.Proofs.YtjcgdcadflplcaaDoor.AM.P3
set_option maxHeartbeats 2000000
set_option maxRecDepth 100000
attribute [local go_sem] tn_add1 tn_sub1 put_all' nums_len sub_all sub02
attribute [local go_sem 2000] zF_eq zF_len
def ROuts (H:Heap) (r:Nat) (oa:Option Ad) (n:Nat) (f:Nat→Option (List Nat)):Prop:=
 ∃cs,Sl H 1 oa n cs∧(∀b z,oa=some (b,z)→b≠r)∧∀j,j<n→∃a' n' c' o',cs[j]?=some (.sl a' n' c' o')∧Cpy H a' n' c' ((f j).getD [])∧∀b z,a'=some (b,z)→b≠r
theorem ROuts.keep {H H':Heap} {r:Nat} {oa:Option Ad} {n:Nat} {f:Nat→Option (List Nat)} (h:ROuts H r oa n f) (hx:∀b,b<H.length→b≠r→H'[b]?=H[b]?):ROuts H' r oa n f:=by
 obtain⟨cs,h1,h2,h3⟩:=h
 refine⟨cs,h1.keep fun b z e=>hx b (h1.lt e) (h2 b z e),h2,fun j hj=>?_⟩
 obtain⟨a',n',c',o',k1,k2,k3⟩:=h3 j hj
 exact⟨a',n',c',o',k1,⟨k2.sl.keep fun b z e=>hx b (k2.sl.lt e) (k3 b z e),k2.le,k2.by_⟩,k3⟩
theorem gx_all256 {l:List Nat} (h:∀y∈l,y<256) (i:Nat):gx l i<256:=by
 unfold gx
 rw[List.getD_eq_getElem?_getD]
 cases e:l[i]? with
 |none=>simp
 |some y=>exact h y (List.mem_of_getElem? e)
theorem rcar_rcv {H H':Heap} {r y0:Nat} {C0:List Cell} {a:Option Ad} {c:Nat} {o:Bool} {ws:List Int} {bl pa:Nat} {slot:Int} {l:List Snd} {cps:List C07.Cpy} {v:V} (hr:r<H.length) (h:RCarQ H r y0 C0 a c o ws bl pa slot l cps v H'):
  ∃oa ha oo ho,v=.tup [.c (.sl oa ws.length ws.length oo),.c (.sl ha ws.length ws.length ho),.c (.int .i64 0)]∧ROuts H' r oa ws.length (rcv (ownF ws slot) l cps)∧BusE H' r y0 C0 a c o ws (blS (ownF ws slot) l bl) (paS (ownF ws slot) l pa):=by
 obtain⟨oa,ha,oo,ho,f,lo,h1,h2,⟨cs,k1,k2,k3,k4⟩,h4⟩:=h
 have key:∀g:Nat→Option (List Nat),(∀j,f j=g j)→ROuts H' r oa ws.length g:=fun g e=>by
  refine⟨cs,k1.sl,fun b z ez=>by have:=(k1.lt _ ez).1;omega,fun j hj=>?_⟩
  obtain⟨q1,q2⟩:=k4 j hj
  rw[e j] at q1
  cases hg:g j with
  |none=>
   rw[hg] at q1
   exact⟨none,0,0,false,q1,⟨Sl.none _ _,Nat.le_refl _,fun i=>by simp[gx]⟩,fun b z e=>by cases e⟩
  |some l=>
   rw[hg] at q1
   obtain⟨a',c',o',q3,q4,q5,q6⟩:=q1
   exact⟨a',l.length,c',o',q3,⟨q4,q6,gx_all256 q5⟩,fun b z e=>(q2 b z l.length c' o' (by rw[q3,e])).1.2⟩
 rcases h4 with ⟨q1,q2,q3⟩|⟨i,q1,q2,q3⟩
 ·refine⟨oa,ha,oo,ho,h1,key _ fun j=>by rw[q2,rcv_none q1],?_⟩
  unfold blS paS
  rw[fstB_none q1];exact q3
 ·refine⟨oa,ha,oo,ho,h1,key _ fun j=>by rw[q2 j,rcv_some q1],?_⟩
  unfold blS paS
  rw[fstB_some q1];exact q3
theorem RpM.bus0 {H:Heap} {r:Nat} {R:Rp} {N:Cn} (h:RpM H r R N) (hn:R.ws.length=R.n):∃C,RpC R N C∧BusE H r 12 C R.a R.c R.o R.ws N.bl0 N.pa0:=by
 obtain⟨C,g,hC⟩:=h.cells
 exact⟨C,hC,C,g,rfl,fun _ _=>rfl,by rw[hn];exact hC.c12,hC.c13,hC.c14,by rw[hn];exact h.owners,h.sep⟩
theorem RpM.bus1 {H:Heap} {r:Nat} {R:Rp} {N:Cn} (h:RpM H r R N) (hn:R.ws.length=R.n):∃C,RpC R N C∧BusE H r 15 C R.a R.c R.o R.ws N.bl1 N.pa1:=by
 obtain⟨C,g,hC⟩:=h.cells
 exact⟨C,hC,C,g,rfl,fun _ _=>rfl,by rw[hn];exact hC.c15,hC.c16,hC.c17,by rw[hn];exact h.owners,h.sep⟩
theorem RpM.of0 {H:Heap} {r bl pa:Nat} {R:Rp} {N:Cn} {C:List Cell} (hC:RpC R N C) (hn:R.ws.length=R.n) (h:BusE H r 12 C R.a R.c R.o R.ws bl pa):RpM H r R { N with bl0:=bl,pa0:=pa }:=by
 obtain⟨C',g,e1,e2,e3,e4,e5,e6,e7⟩:=h
 rw[hn] at e3 e6
 refine⟨⟨C',g,by rw[e1];exact hC.len,by rw[e2 0 (by omega)];exact hC.c0,by rw[e2 1 (by omega)];exact hC.c1,e3,e4,e5,by rw[e2 15 (by omega)];exact hC.c15,by rw[e2 16 (by omega)];exact hC.c16,by rw[e2 17 (by omega)];exact hC.c17,hC.cl,fun k hk=>by rw[e2 (18+k) (by omega)];exact hC.cnt k hk⟩,e6,e7⟩
theorem RpM.of1 {H:Heap} {r bl pa:Nat} {R:Rp} {N:Cn} {C:List Cell} (hC:RpC R N C) (hn:R.ws.length=R.n) (h:BusE H r 15 C R.a R.c R.o R.ws bl pa):RpM H r R { N with bl1:=bl,pa1:=pa }:=by
 obtain⟨C',g,e1,e2,e3,e4,e5,e6,e7⟩:=h
 rw[hn] at e3 e6
 refine⟨⟨C',g,by rw[e1];exact hC.len,by rw[e2 0 (by omega)];exact hC.c0,by rw[e2 1 (by omega)];exact hC.c1,by rw[e2 12 (by omega)];exact hC.c12,by rw[e2 13 (by omega)];exact hC.c13,by rw[e2 14 (by omega)];exact hC.c14,e3,e4,e5,hC.cl,fun k hk=>by rw[e2 (18+k) (by omega)];exact hC.cnt k hk⟩,e6,e7⟩
theorem RpM.keepQ {H H':Heap} {r:Nat} {R:Rp} {N:Cn} (h:RpM H r R N) {cnt:List Int} (hc:∃C,H'[r]?=some (.cells C false none)∧RpC R { N with cnt:=cnt } C) (hx:∀b,b<H.length→b≠r→H'[b]?=H[b]?):RpM H' r R { N with cnt:=cnt }:=
 ⟨hc,h.owners.keep fun b x e=>hx b (h.owners.lt e) (h.sep b x e),h.sep⟩
theorem rstep_round {ρ:Nat→V} {H:Heap} {r b7:Nat} {xa ya:Option Ad} {xo yo:Bool} {R:Rp} {N:Cn} {x:Slt} {Q:Ex→St→Prop} (h:RpM H r R N) (ho:RpOk R) (hB:∀k,k<80→0≤gn N.cnt k∧gn N.cnt k≤1000000) (hm:x.mem<65536)
  (g7:H[b7]?=some (.cells [.int .i64 x.ss,.int .u16 (x.mem:Nat)] false none)) (hh:r≠b7)
  (w0:ROuts H r xa R.n (rcv (x.ow R.ws) x.l0 x.k0)) (w1:ROuts H r ya R.n (rcv (x.ow R.ws) x.l1 x.k1))
  (e0:ρ 0=.c (.ptr (some (r,0)))) (e7:ρ 7=.c (.ptr (some (b7,0)))) (e13:ρ 13=.c (.sl xa R.n R.n xo)) (e16:ρ 16=.c (.sl ya R.n R.n yo)) (e19:ρ 19=.c (.int .i64 (x.ow R.ws))) (e20:ρ 20=.c (.sl none 0 0 false)) (e21:ρ 21=.c (.sl none 0 0 false)) (e22:ρ 22=.c (.int .i64 0))
  (hQ:∀ρ' H' fa fo va vo,ρ' 20=.c (.sl fa R.n R.n fo)→ρ' 21=.c (.sl va R.n R.n vo)→Gr H.length H' 67 fa R.n fo (x.fr R.ws R.n)→Gr H.length H' 1 va R.n vo (nums (x.vv R.ws R.n))→(∀y z,fa=some y→va=some z→y.1≠z.1)→RpM H' r R { N with cnt:=cntS (x.ow R.ws).toNat (x.vN R.ws) N.cnt R.n }→H.length≤H'.length→(∀b,b<H.length→b≠r→H'[b]?=H[b]?)→Q (.exit 0) ⟨L 118 ρ',[],H'⟩):
  W F none (.loop bX25_16) ⟨L 118 ρ,[],H⟩ Q:=by
 obtain⟨cl0,u1,u2,u3⟩:=w0
 obtain⟨cl1,v1,v2,v3⟩:=w1
 have hfr:=fr_s x R.ws
 have hvv:=vv_s x R.ws
 have hvf:=vf_v x R.ws
 have hvl:=vf_len x R.ws
 have hch:∀(Hx:Heap) (j:Nat) (a1 a2:Option Ad) (n1 n2 c1 c2:Nat) (o1 o2:Bool),Cpy Hx a1 n1 c1 ((rcv (x.ow R.ws) x.l0 x.k0 j).getD [])→Cpy Hx a2 n2 c2 ((rcv (x.ow R.ws) x.l1 x.k1 j).getD [])→WC F fX20 [.c (.int .i64 (x.ow R.ws)),.agg [.int .i64 x.ss,.int .u16 (x.mem:Nat)],.c (.sl a1 n1 c1 o1),.c (.sl a2 n2 c2 o2)] Hx fun v H'=>v=.tup [.agg (x.vf R.ws j).1,.c (.int .i64 (x.vf R.ws j).2)]∧X1 Hx H':=fun Hx j a1 a2 n1 n2 c1 c2 o1 o2 k2 k3=>s_rChoose (o1:=o1) (o2:=o2) (by_:=x.ow R.ws) (slot:=x.ss) k2 k3 hm
 obtain⟨ow,how,hw16⟩:∃ow:Nat,x.ow R.ws=ow∧ow<R.n:=by
  have hn:=ho.hn
  have h4:=ho.n4
  have:=ho.hw (x.ow R.ws) (gn_mem (Nat.mod_lt _ (by omega)))
  exact⟨(x.ow R.ws).toNat,by omega,by omega⟩
 rw[how] at hQ hch u3 v3 e19
 rw[Int.toNat_natCast] at hQ
 obtain⟨C,gC,hC⟩:=h.cells
 have hn16:=ho.n16
 have hcin:=fun(k j:Nat) (hk:k<80)=>cntS_in (ow:=ow) (v:=x.vN R.ws) (k:=k) (by rw[hC.cl];exact hk) (hB k hk) j
 have hcs:∀j,cntS ow (x.vN R.ws) N.cnt (j+1)=if j=ow then cntS ow (x.vN R.ws) N.cnt j else (cntS ow (x.vN R.ws) N.cnt j).set (ow * 5+x.vN R.ws j) (gn (cntS ow (x.vN R.ws) N.cnt j) (ow * 5+x.vN R.ws j)+1):=fun _=>rfl
 obtain⟨n,hn⟩:∃n,R.n=n:=⟨_,rfl⟩
 have hnn:=hn
 rw[hn] at hw16 hn16 u1 u3 v1 v3 e13 e16 hQ
 have hf0:x.fr R.ws 0=[]:=rfl
 have hv0:x.vv R.ws 0=[]:=rfl
 generalize x.fr R.ws=FR at *
 generalize x.vv R.ws=VV at *
 generalize x.vf R.ws=VF at *
 generalize x.vN R.ws=VN at *
 have hend:=fun H' cnt (hc:∃C,H'[r]?=some (.cells C false none)∧RpC R { N with cnt:=cnt } C) (hx:∀b,b<H.length→b≠r→H'[b]?=H[b]?)=>h.keepQ hc hx
 have lqH:r<H.length:=lt_of_get gC
 have fin0:=zhd11 hfr hvv hvf hvl hch u3 v3 hcin hcs hQ hend
 have lt7:=lt_of_get g7
 have hinit:Hid ((∀b,b<H.length→b≠r→H[b]?=H[b]?)∧Gr H.length H 67 none 0 false (FR 0)∧Gr H.length H 1 none 0 false (nums (VV 0))∧(∀y z:Ad,(none:Option Ad)=some y→(none:Option Ad)=some z→y.1≠z.1)∧∃C,H[r]?=some (.cells C false none)∧RpC R { N with cnt:=cntS ow VN N.cnt 0 } C):=⟨fun _ _ _=>rfl,by rw[hf0];exact Gr.none _ _ _,by rw[hv0];exact Gr.none _ _ _,fun y z e _=>(by cases e),C,gC,hC⟩
 have fH:=zhd3 g7 u1 v1
 have fs:=zhd3 u2 v2 hnn
 clear hfr hvv hvf hvl hch u3 v3 hcin hcs hQ hend hC gC hB hn hnn how hf0 hv0 h ho g7 u1 v1 u2 v2
 refine W_loop (fun mm st=>∃ρ,∃j:Nat,∃fa fo va vo Hk,st=⟨L 118 ρ,[],Hk⟩∧mm=n-j∧j≤n∧ρ 0=.c (.ptr (some (r,0)))∧ρ 7=.c (.ptr (some (b7,0)))∧ρ 13=.c (.sl xa n n xo)∧ρ 16=.c (.sl ya n n yo)∧ρ 19=.c (.int .i64 (ow:Nat))∧ρ 20=.c (.sl fa j j fo)∧ρ 21=.c (.sl va j j vo)∧ρ 22=.c (.int .i64 (j:Nat))∧H.length≤Hk.length∧
  Hid ((∀b,b<H.length→b≠r→Hk[b]?=H[b]?)∧Gr H.length Hk 67 fa j fo (FR j)∧Gr H.length Hk 1 va j vo (nums (VV j))∧(∀y z,fa=some y→va=some z→y.1≠z.1)∧∃C,Hk[r]?=some (.cells C false none)∧RpC R { N with cnt:=cntS ow VN N.cnt j } C)) n
  ⟨_,0,none,false,none,false,H,rfl,rfl,by omega,e0,e7,e13,e16,e19,e20,e21,e22,Nat.le_refl _,hinit⟩ ?_
 clear hinit e0 e7 e13 e16 e19 e20 e21 e22
 rintro mm st ⟨ρ,j,fa,fo,va,vo,Hk,rfl,rfl,hj,e0,e7,e13,e16,e19,e20,e21,e22,lk,hall⟩
 unfold bX25_16
 obtain⟨C,gC,hC⟩:=hall.2.2.2.2
 have hr0:C[0]?=some (.int .i64 (n:Nat)):=fs _ fun _ _ h=>by rw[←h];exact hC.c0
 have fz:=zhd1 hall
 clear hall
 by_cases hjn:j<n
 case neg=>
  obtain rfl:j=n:=by omega
  have hxt:¬(j:Int)<(j:Int):=by omega
  clear hC
  repeat (with_reducible first|(first|refine pI1 ?_|refine pS1 ?_);intros|refine pA1 ?_|refine pX1 ?_|refine pB1 ?_|exact True.intro)
  refine fin0 _ fun _ _ _ _ _ _ _ _ _ hQ hend=>fz _ fun hz=>hQ _ Hk fa fo va vo zf zf hz.2.1 hz.2.2.1 hz.2.2.2.1 (hend Hk _ hz.2.2.2.2 hz.1) lk hz.1
 have hxt:(j:Int)<(n:Int):=by omega
 have g7k:Hk[b7]?=_:=(fz _ fun h=>h.1 b7 lt7 (Ne.symm hh)).trans (fH _ fun g _ _=>g)
 have u1k:Sl Hk 1 xa n cl0:=fH _ fun _ u1 _=>u1.keep fun b z e=>fz _ fun h=>h.1 b (u1.lt e) (fs _ fun u2 _ _=>u2 b z e)
 have v1k:Sl Hk 1 ya n cl1:=fH _ fun _ _ u1=>u1.keep fun b z e=>fz _ fun h=>h.1 b (u1.lt e) (fs _ fun _ u2 _=>u2 b z e)
 obtain⟨a1,n1,c1,o1,d1,cp1,sp1⟩:=fin0 _ fun _ _ _ _ _ u3 _ _ _ _ _=>u3 j hjn
 obtain⟨a2,n2,c2,o2,d2,cp2,sp2⟩:=fin0 _ fun _ _ _ _ _ _ v3 _ _ _ _=>v3 j hjn
 have cp1k:Cpy Hk a1 n1 c1 _:=⟨cp1.sl.keep fun b z e=>fz _ fun h=>h.1 b (cp1.sl.lt e) (sp1 b z e),cp1.le,cp1.by_⟩
 have cp2k:Cpy Hk a2 n2 c2 _:=⟨cp2.sl.keep fun b z e=>fz _ fun h=>h.1 b (cp2.sl.lt e) (sp2 b z e),cp2.le,cp2.by_⟩
 have hcc:=fin0 _ fun _ _ _ _ hch _ _ _ _ _ _=>hch Hk j a1 a2 n1 n2 c1 c2 o1 o2 cp1k cp2k
 obtain⟨⟨xb,xy⟩,ex⟩:=u1k.is_some (by omega)
 obtain⟨⟨yb,yy⟩,ey⟩:=v1k.is_some (by omega)
 subst ex
 subst ey
 have dd1:=u1k.ld1 (o:=j) (by omega)
 have dd2:=v1k.ld1 (o:=j) (by omega)
 dsimp only at dd1 dd2
 rw[d1] at dd1
 rw[d2] at dd2
 have hFs:=fin0 _ fun h _ _ _ _ _ _ _ _ _ _=>h j
 have hVs:=fin0 _ fun _ h _ _ _ _ _ _ _ _ _=>h j
 obtain⟨ev,hv4⟩:=fin0 _ fun _ _ h _ _ _ _ _ _ _ _=>h j
 have hFl:=fin0 _ fun _ _ _ h _ _ _ _ _ _ _=>h j
 have hcs:=fin0 _ fun _ _ _ _ _ _ _ _ h _ _=>h j
 rw[ev] at hcc
 clear ev cp1 cp2 cp1k cp2k sp1 sp2 u1k v1k d1 d2
 generalize (VF j).1=FM at *
 generalize VN j=vd at *
 have hci:=fin0 _ fun _ _ _ _ _ _ _ h _ _ _=>h (ow * 5+vd) j (by omega)
 have hcg:C[18+(ow * 5+vd)]?=some (.int .i64 (gn (cntS ow VN N.cnt j) (ow * 5+vd))):=hC.cnt (ow * 5+vd) (by omega)
 have hcp:RpC R { N with cnt:=(cntS ow VN N.cnt j).set (ow * 5+vd) (gn (cntS ow VN N.cnt j) (ow * 5+vd)+1) } (C.set (18+(ow * 5+vd)) (.int .i64 (gn (cntS ow VN N.cnt j) (ow * 5+vd)+1))):=hC.put (k:=ow * 5+vd) (by omega) (gn (cntS ow VN N.cnt j) (ow * 5+vd)+1)
 have hlC:=hC.len
 rw[←Nat.add_assoc] at hcg hcp
 obtain⟨w,hw⟩:∃w,w=gn (cntS ow VN N.cnt j) (ow * 5+vd):=⟨_,rfl⟩
 rw[←hw] at hci hcg hcp hcs
 have lqk:=lt_of_get gC
 have f1:=zhd6 hFs hVs hcs hcp hC hcc
 clear hFs hVs hcs hcp hC hcc hw
 have hz67:=zF_len
 repeat (with_reducible first|(first|refine pI1 ?_|refine pS1 ?_);intros|refine pA1 ?_|refine pX1 ?_|refine pB1 ?_|exact True.intro)
 refine outM_call (f1 _ fun _ _ _ _ _ h=>h) ?_
 rintro _ H2 ⟨rfl,l2,x2⟩
 have gC2:=(x2 r (by omega)).trans gC
 have fx2:=zhd1 x2
 clear x2 gC g7k dd1 dd2
 repeat (with_reducible first|(first|refine pI1 ?_|refine pS1 ?_);intros|refine pA1 ?_|refine pX1 ?_|refine pB1 ?_|exact True.intro)
 rename_i b3 H3 p3 g3 x3 H4 l4 g4 x4 b5 H5 p5 g5 x5
 have hx5:∀b,b<Hk.length→H5[b]?=Hk[b]?:=fun b hb=>by rw[x5 b (by omega),x4 b (by omega),x3 b (by omega)];exact fx2 _ fun x=>x b hb
 have gC5:=(x5 r (by omega)).trans ((x4 r (by omega)).trans ((x3 r (by omega)).trans gC2))
 have hg5:Gr H.length H5 67 fa j fo (FR j):=fz _ fun h=>h.2.1.keepX hx5
 have hv5:Gr H.length H5 1 va j vo (nums (VV j)):=fz _ fun h=>h.2.2.1.keepX hx5
 have f5:=zhd1 hx5
 clear hx5 x5 x4 x3 gC2 g3 g4
 refine outM_appG (ys:=FM) hg5 (by omega) (Sl.blk2 g5 (by rw[hFl])) (by omega) (by omega) ?_
 intro fa' H6 hg6 l6 x6 y6 z6
 have gC6:=(x6 r (by omega)).trans gC5
 have hv6:Gr H.length H6 1 va j vo (nums (VV j)):=hv5.keep fun b hb hb2 hna=>y6 b hb2 fun y e hby=>hna fun x ex hbx=>fz _ fun h=>h.2.2.2.1 y x e ex (by omega)
 have hva:∀x,va=some x→x.1<H5.length:=fun x e=>(hv5.lt x e).2
 have hx6:∀b,b<H.length→H6[b]?=Hk[b]?:=fun b hb=>by rw[x6 b hb];exact f5 _ fun x=>x b (by omega)
 rw[←f1 _ fun h _ _ _ _ _=>h] at hg6
 have f6:=zhd3 hg6 hv6 hx6
 have hz6:∀x y,fa'=some x→va=some y→x.1≠y.1:=fun x y e e' h=>z6 y.1 (hva y e') x e h.symm
 have fz6:=zhd1 hz6
 clear hg6 hv6 hx6 x6 y6 z6 gC5 hg5 hv5 g5 hz6 f5 fx2 hva
 repeat (with_reducible first|(first|refine pI1 ?_|refine pS1 ?_);intros|refine pA1 ?_|refine pX1 ?_|refine pB1 ?_|exact True.intro)
 rename_i b7' H7 p7 g7' x7
 have gC7:=(x7 r (by omega)).trans gC6
 have hv7:Gr H.length H7 1 va j vo (nums (VV j)):=f6 _ fun _ h _=>h.keepX fun b hb=>x7 b (by omega)
 have hg7:Gr H.length H7 67 fa' (j+1) true (FR (j+1)):=f6 _ fun h _ _=>h.keepX fun b hb=>x7 b (by omega)
 have hx7:∀b,b<H.length→H7[b]?=Hk[b]?:=fun b hb=>by rw[x7 b (by omega)];exact f6 _ fun _ _ x=>x b hb
 clear x7 gC6
 refine outM_appG (ys:=[.int .i64 (vd:Nat)]) hv7 (by omega) (Sl.blk g7' rfl) (by omega) (by omega) ?_
 intro va' H8 hv8 l8 x8 y8 z8
 have gC8:=(x8 r (by omega)).trans gC7
 have e8:nums (VV j)++[Cell.int .i64 (vd:Nat)]=nums (VV (j+1)):=by rw[f1 _ fun _ h _ _ _ _=>h];unfold nums;rw[List.map_append];rfl
 rw[e8] at hv8
 have hg8:Gr H.length H8 67 fa' (j+1) true (FR (j+1)):=hg7.keep fun b hb hb2 hna=>y8 b hb2 fun y e hby=>hna fun x ex hbx=>fz6 _ fun h=>h x y ex e (by omega)
 have hz8:∀x y,fa'=some x→va'=some y→x.1≠y.1:=fun x y e e' h=>z8 x.1 (hg7.lt x e).2 y e' h
 have hx8:∀b,b<H.length→H8[b]?=Hk[b]?:=fun b hb=>by rw[x8 b hb];exact hx7 b hb
 have f8:=zhd4 hg8 hv8 hz8 hx8
 clear hg8 hv8 hz8 hx8 x8 y8 z8 gC7 hg7 hv7 g7' hx7 e8 fz6 f6
 by_cases hjo:j=ow
 ·have hjo':(j:Int)=(ow:Nat):=by omega
  have hkeep:cntS ow VN N.cnt (j+1)=cntS ow VN N.cnt j:=f1 _ fun _ _ h _ _ _=>by rw[h,if_pos hjo]
  have fk:=zhd1 hkeep
  clear hkeep hcg hci
  repeat (with_reducible first|(first|refine pI1 ?_|refine pS1 ?_);intros|refine pA1 ?_|refine pX1 ?_|refine pB1 ?_|exact True.intro)
  exact loopQ_n (n-(j+1)) (by omega) ⟨_,j+1,fa',true,va',true,H8,rfl,rfl,by omega,zf,zf,zf,zf,zf,zf,zf,zf,by omega,f8 _ fun hg hv hz hx=>⟨fun b hb hb2=>by rw[hx b hb];exact fz _ fun h=>h.1 b hb hb2,hg,hv,hz,C,gC8,by rw[fk _ fun h=>h];exact f1 _ fun _ _ _ _ h _=>h⟩⟩
 ·have hjo':¬(j:Int)=(ow:Nat):=by omega
  have hkeep:cntS ow VN N.cnt (j+1)=(cntS ow VN N.cnt j).set (ow * 5+vd) (w+1):=f1 _ fun _ _ h _ _ _=>by rw[h,if_neg hjo]
  have fk:=zhd1 hkeep
  clear hkeep
  obtain⟨hw0,hw1⟩:=hci
  have lq8:=lt_of_get gC8
  repeat (with_reducible first|(first|refine pI1 ?_|refine pS1 ?_);intros|refine pA1 ?_|refine pX1 ?_|refine pB1 ?_|exact True.intro)
  rename_i H9 l9 g9 x9
  have x9':∀b,b≠r→H9[b]?=H8[b]?:=fun b hb=>x9 b hb
  have f9:=zhd2 x9' g9
  clear x9' x9 g9 gC8
  repeat (with_reducible first|(first|refine pI1 ?_|refine pS1 ?_);intros|refine pA1 ?_|refine pX1 ?_|refine pB1 ?_|exact True.intro)
  have lf8:Gr H.length H9 67 fa' (j+1) true (FR (j+1)):=f8 _ fun hg _ _ _=>hg.keep fun b hb _ _=>f9 _ fun x _=>x b (by omega)
  have lv8:Gr H.length H9 1 va' (j+1) true (nums (VV (j+1))):=f8 _ fun _ hv _ _=>hv.keep fun b hb _ _=>f9 _ fun x _=>x b (by omega)
  exact loopQ_n (n-(j+1)) (by omega) ⟨_,j+1,fa',true,va',true,H9,rfl,rfl,by omega,zf,zf,zf,zf,zf,zf,zf,zf,by omega,f8 _ fun _ _ hz hx=>⟨fun b hb hb2=>by rw[f9 _ fun x _=>x b hb2,hx b hb];exact fz _ fun h=>h.1 b hb hb2,lf8,lv8,hz,_,f9 _ fun _ g=>g,by rw[fk _ fun h=>h];exact f1 _ fun _ _ _ h _ _=>h⟩⟩
end Go.Proofs.YtjcgdcadflplcaaDoor.AM.D21
namespace Go.Proofs.YtjcgdcadflplcaaDoor.AM.D21
open Go Go.Proofs.YtjcgdcadflplcaaDoor.AM Go.Proofs.YtjcgdcadflplcaaDoor.AM.C02 Go.Proofs.YtjcgdcadflplcaaDoor.AM.C07 Go.Proofs.YtjcgdcadflplcaaDoor.AM.C21 Go.Proofs.YtjcgdcadflplcaaDoor.AM.P3
set_option maxHeartbeats 2000000
set_option maxRecDepth 100000
attribute [local go_sem] tn_add1 tn_sub1 put_all' nums_len sub_all sub02
def RStepQ (H:Heap) (r:Nat) (R:Rp) (N:Cn) (x:Slt) (v:V) (H':Heap):Prop:=
 (∃fa fo va vo lo,v=.tup [.c (.sl fa R.n R.n fo),.c (.sl va R.n R.n vo),.c (.int .i64 0)]∧H.length≤lo∧Gr lo H' 67 fa R.n fo (x.fr R.ws R.n)∧Gr lo H' 1 va R.n vo (nums (x.vv R.ws R.n))∧∀y z,fa=some y→va=some z→y.1≠z.1)∧
  RpM H' r R (N.step x R.ws)∧H.length≤H'.length∧∀b,b<H.length→b≠r→H'[b]?=H[b]?
theorem s_dStepN {H:Heap} {q:Nat} {P:Pr} {N:Cn} {slot:Int} {S:List Cell} {X Y:List Cell} (h:PairM H q P N) (hs:slot<0):WC F fXw [.c (.ptr (some (q,0))),.c (.int .i64 slot),.agg S,.agg X,.agg Y] H fun v H'=>v=.tup [.c (.sl none 0 0 false),.c (.sl none 0 0 false),.c (.int .i64 2)]∧Xt H H':=by
 refine WC_start eXw (by simp) ?_
 unfold cXw
 have hno:=fun(Hx:Heap) (t:Xt H Hx)=>s_none (h.keepX (H':=Hx) t.2)
 have fin0:=zhd1 hno
 clear hno h
 repeat (with_reducible first|(first|refine pI1 ?_|refine pS1 ?_);intros|refine pA1 ?_|refine pX1 ?_|refine pB1 ?_|exact True.intro)
 rename_i b7 H7 p7 g7 x7 b8 H8 p8 g8 x8 b9 H9 p9 g9 x9
 have t9:Xt H H9:=⟨by omega,fun b hb=>by rw[x9 b (by omega),x8 b (by omega),x7 b (by omega)]⟩
 have ft:=zhd1 t9
 clear x7 x8 x9 g7 g8 t9
 refine outM_call (fin0 _ fun hno=>ft _ fun t=>hno H9 t) ?_
 rintro _ H9 ⟨rfl,rfl⟩
 repeat (with_reducible first|(first|refine pI1 ?_|refine pS1 ?_);intros|refine pA1 ?_|refine pX1 ?_|refine pB1 ?_|exact True.intro)
 exact⟨rfl,ft _ fun t=>t⟩
theorem s_rStepN {H:Heap} {r:Nat} {slot:Int} {S:List Cell} {X Y:List Cell} (hs:slot<0):WC F fX25 [.c (.ptr (some (r,0))),.c (.int .i64 slot),.agg S,.agg X,.agg Y] H fun v H'=>v=.tup [.c (.sl none 0 0 false),.c (.sl none 0 0 false),.c (.int .i64 2)]∧Xt H H':=by
 refine WC_start eX25 (by simp) ?_
 unfold cX25
 repeat (with_reducible first|(first|refine pI1 ?_|refine pS1 ?_);intros|refine pA1 ?_|refine pX1 ?_|refine pB1 ?_|exact True.intro)
 rename_i b7 H7 p7 g7 x7 b8 H8 p8 g8 x8 b9 H9 p9 g9 x9
 exact⟨rfl,by omega,fun b hb=>by rw[x9 b (by omega),x8 b (by omega),x7 b (by omega)]⟩
theorem s_rStep {M:Nat} {H:Heap} {r:Nat} {R:Rp} {N:Cn} {x:Slt} {x0 x1 y0 y1:Option Ad} {d0 d1 f0 f1:Nat} {u0 u1 v0 v1:Bool} (hp:RpM H r R N) (ho:RpOk R) (hM:M≤r) (hML:M≤H.length) (hB:∀k,k<80→0≤gn N.cnt k∧gn N.cnt k≤1000000) (hx:SltM M H x x0 x1 y0 y1) (hk:SltOk x):
  WC F fX25 [.c (.ptr (some (r,0))),.c (.int .i64 (x.slot:Nat)),.agg [.int .i64 x.ss,.int .u16 (x.mem:Nat)],.agg [.sl x0 x.l0.length d0 u0,.sl x1 x.l1.length d1 u1],.agg [.sl y0 x.k0.length f0 v0,.sl y1 x.k1.length f1 v1]] H fun v H'=>RStepQ H r R N x v H':=by
 refine WC_start eX25 (by simp) ?_
 unfold cX25
 have hn4:=ho.n4
 have hn16:=ho.n16
 have hwl:=ho.hn
 have how:=ow_eq (ws:=R.ws) x (by omega)
 have hsi:i64 (x.slot:Nat):=by have:=hk.sl;unfold i64;omega
 have hcar0:∀Hx,Xt H Hx→∃C,RpC R N C∧WC F fX1t [.c (.ptr (some (r,12))),.c (.int .i64 (x.slot:Nat)),.c (.sl x0 x.l0.length d0 u0),.c (.sl y0 x.k0.length f0 v0)] Hx fun v H'=>RCarQ Hx r 12 C R.a R.c R.o R.ws N.bl0 N.pa0 (x.slot:Nat) x.l0 x.k0 v H'∧But r Hx H':=fun Hx t=>by
  obtain⟨C,hC,hb⟩:=(hp.keepX (H':=Hx) t.2).bus0 hwl
  exact⟨C,hC,s_rCarry (N:=M) (c2:=d0) (c3:=f0) (o2:=u0) (o3:=v0) hb (by omega) (by omega) hsi (by omega) ((hx.keep fun b hb=>t.2 b (by omega)).s0 _ hM) rfl hk.n0 hk.b0 ((hx.keep fun b hb=>t.2 b (by omega)).c0) (fun b z e=>by have:=hx.d0 b z e;omega) rfl hk.k0 (by have:=t.1;omega)⟩
 have hcar1:∀(Hx:Heap) (N1:Cn),(∀b,b<M→Hx[b]?=H[b]?)→H.length≤Hx.length→RpM Hx r R N1→∃C,RpC R N1 C∧WC F fX1t [.c (.ptr (some (r,15))),.c (.int .i64 (x.slot:Nat)),.c (.sl x1 x.l1.length d1 u1),.c (.sl y1 x.k1.length f1 v1)] Hx fun v H'=>RCarQ Hx r 15 C R.a R.c R.o R.ws N1.bl1 N1.pa1 (x.slot:Nat) x.l1 x.k1 v H'∧But r Hx H':=fun Hx N1 t tl hb=>by
  obtain⟨C,hC,hb⟩:=hb.bus1 hwl
  exact⟨C,hC,s_rCarry (N:=M) (c2:=d1) (c3:=f1) (o2:=u1) (o3:=v1) hb (by omega) (by omega) hsi (by omega) ((hx.keep t).s1 _ hM) rfl hk.n1 hk.b1 ((hx.keep t).c1) (fun b z e=>by have:=hx.d1 b z e;omega) rfl hk.k1 (by omega)⟩
 have lr:=hp.lt
 have hmem:=hk.mem
 have hs0:¬((x.slot:Nat):Int)<0:=by omega
 have hmod:((x.slot:Nat):Int) % ((R.n:Nat):Int)=((x.slot % R.n:Nat):Int):=rfl
 have hmlt:x.slot % R.n<R.n:=Nat.mod_lt _ (by omega)
 have how':gn R.ws (x.slot % R.n)=x.ow R.ws:=by unfold Slt.ow;rw[hwl]
 have fin0:=zhd8 hp ho hcar0 hcar1 how hB hwl how'
 clear hp ho hcar0 hcar1 how hB hx hk hsi hwl how'
 repeat (with_reducible first|(first|refine pI1 ?_|refine pS1 ?_);intros|refine pA1 ?_|refine pX1 ?_|refine pB1 ?_|exact True.intro)
 rename_i b7 H7 p7 g7 x7 b8 H8 p8 g8 x8 b9 H9 p9 g9 x9
 have t9:Xt H H9:=⟨by omega,fun b hb=>by rw[x9 b (by omega),x8 b (by omega),x7 b (by omega)]⟩
 have g7':=(x9 b7 (by omega)).trans ((x8 b7 (by omega)).trans g7)
 have g8':=(x9 b8 (by omega)).trans g8
 have lH9:=t9.1
 obtain⟨C,hC,hc0⟩:=fin0 _ fun _ _ h _ _ _ _ _=>h H9 t9
 have ft:=zhd3 t9 hC hc0
 clear x7 x8 x9 g7 g8 t9 hC hc0
 refine outM_call (ft _ fun _ _ h=>h) ?_
 rintro v H11 ⟨hq,l11,x11⟩
 obtain⟨oa,ha,oo,ho',rfl,hr0,hb0⟩:=rcar_rcv (by omega) hq
 rw[fin0 _ fun _ _ _ _ h _ _ _=>h] at hr0 hb0
 rw[fin0 _ fun _ _ _ _ _ _ h _=>h] at hr0 ⊢
 have hp11:=ft _ fun _ hC _=>RpM.of0 hC (fin0 _ fun _ _ _ _ _ _ h _=>h) hb0
 have g711:=(x11 b7 (by omega) (by omega)).trans g7'
 have g811:=(x11 b8 (by omega) (by omega)).trans g8'
 have g911:=(x11 b9 (by omega) (by omega)).trans g9
 have hx11:∀b,b<H.length→b≠r→H11[b]?=H[b]?:=fun b hb hb2=>by rw[x11 b (by omega) hb2];exact ft _ fun t _ _=>t.2 b hb
 obtain⟨C1,hC1,hc1⟩:=fin0 _ fun _ _ _ h _ _ _ _=>h H11 _ (fun b hb=>hx11 b (by omega) (by omega)) (by omega) hp11
 have f11:=zhd4 hx11 hr0 hC1 hc1
 clear hx11 hr0 hC1 hc1 hp11 hb0 x11 g7' g8' g9 hq ft
 repeat (with_reducible first|(first|refine pI1 ?_|refine pS1 ?_);intros|refine pA1 ?_|refine pX1 ?_|refine pB1 ?_|exact True.intro)
 refine outM_call (f11 _ fun _ _ _ h=>h) ?_
 rintro v H13 ⟨hq,l13,x13⟩
 obtain⟨oa1,ha1,oo1,ho1,rfl,hr1,hb1⟩:=rcar_rcv (by omega) hq
 rw[fin0 _ fun _ _ _ _ h _ _ _=>h] at hr1 hb1
 rw[fin0 _ fun _ _ _ _ _ _ h _=>h] at hr1 ⊢
 have hp13:=f11 _ fun _ _ hC _=>RpM.of1 hC (fin0 _ fun _ _ _ _ _ _ h _=>h) hb1
 have hr013:=f11 _ fun _ h _ _=>h.keep (H':=H13) fun b hb hb2=>x13 b hb hb2
 have g713:=(x13 b7 (by omega) (by omega)).trans g711
 have hx13:∀b,b<H.length→b≠r→H13[b]?=H[b]?:=fun b hb hb2=>by rw[x13 b (by omega) hb2];exact f11 _ fun h _ _ _=>h b hb hb2
 obtain⟨C2,gC2,hC2⟩:=hp13.cells
 have e0:=hC2.c0
 have e1:=hC2.c1
 have hsl:=hp13.owners
 obtain⟨⟨lb,ly⟩,ea⟩:=hsl.is_some (by omega)
 have hlb:lb<H13.length:=hsl.lt ea
 rw[ea] at e1 hsl
 have hg:=hsl.gn (fin0 _ fun _ _ _ _ _ _ h _=>h) hmlt
 dsimp only at hg
 rw[fin0 _ fun _ _ _ _ _ _ _ h=>h] at hg
 have f13:=zhd4 hx13 hr013 hr1 hp13
 clear hx13 hr013 hr1 hp13 hb1 x13 g711 g811 g911 hq f11 hC2 hsl ea
 repeat (with_reducible first|(first|refine pI1 ?_|refine pS1 ?_);intros|refine pA1 ?_|refine pX1 ?_|refine pB1 ?_|exact True.intro)
 refine rstep_round (x:=x) (R:=R) (r:=r) (b7:=b7) (f13 _ fun _ _ _ h=>h) (fin0 _ fun _ ho _ _ _ _ _ _=>ho) (fin0 _ fun _ _ _ _ _ h _ _=>h) hmem g713 (by omega) (f13 _ fun _ h _ _=>h) (f13 _ fun _ _ h _=>h) zf zf zf zf zf zf zf zf ?_
 intro ρ' H' fa fo va vo z18 z19 hg' hv hz hP l16 x16
 have f16:=zhd5 hg' hv hz hP x16
 clear hg' hv hz hP x16 g713 gC2
 repeat (with_reducible first|(first|refine pI1 ?_|refine pS1 ?_);intros|refine pA1 ?_|refine pX1 ?_|refine pB1 ?_|exact True.intro)
 refine f16 _ fun hg hv hz hP x16=>⟨⟨fa,fo,va,vo,H13.length,rfl,by omega,hg,hv,hz⟩,?_,by omega,fun b hb a1=>?_⟩
 ·have e:N.step x R.ws=⟨blS (x.ow R.ws) x.l0 N.bl0,paS (x.ow R.ws) x.l0 N.pa0,blS (x.ow R.ws) x.l1 N.bl1,paS (x.ow R.ws) x.l1 N.pa1,cntS (x.ow R.ws).toNat (x.vN R.ws) N.cnt R.n⟩:=by unfold Cn.step;rw[fin0 _ fun _ _ _ _ _ _ h _=>h]
  rw[e];exact hP
 ·rw[x16 b (by omega) a1];exact f13 _ fun h _ _ _=>h b hb a1
end Go.Proofs.YtjcgdcadflplcaaDoor.AM.D21
namespace Go.Proofs.YtjcgdcadflplcaaDoor.AM.D21
open Go Go.Proofs.YtjcgdcadflplcaaDoor.AM Go.Proofs.YtjcgdcadflplcaaDoor.AM.C02 Go.Proofs.YtjcgdcadflplcaaDoor.AM.C07 Go.Proofs.YtjcgdcadflplcaaDoor.AM.C21 Go.Proofs.YtjcgdcadflplcaaDoor.AM.P3
set_option maxHeartbeats 2000000
set_option maxRecDepth 100000
attribute [local go_sem] tn_add1 tn_sub1 put_all' nums_len sub_all sub02
structure Op where
 slot:Int
 x:Slt
abbrev Op.T:Ty:=.pair I (.pair (.pair I (.pair (.int .u16) .unit)) (.pair (.arr 2 (.sl Snd.T)) (.pair (.arr 2 (.sl C07.Cpy.T)) .unit)))
def OpR (N:Nat) (H:Heap) (e:Op) (cs:List Cell):Prop:=
 ∃x0 d0 x1 d1 y0 f0 y1 f1,cs=[.int .i64 e.slot,.int .i64 e.x.ss,.int .u16 (e.x.mem:Nat),.sl x0 e.x.l0.length d0 false,.sl x1 e.x.l1.length d1 false,.sl y0 e.x.k0.length f0 false,.sl y1 e.x.k1.length f1 false]∧
  i64 e.slot∧e.x.slot=e.slot.toNat∧e.x.mem<65536∧SltM N H e.x x0 x1 y0 y1
def wO (e:Op):Nat:=1+(e.x.l0.map wS).sum+(e.x.l1.map wS).sum+e.x.k0.length+e.x.k1.length
theorem sl_lt {T:Ty} {H:Heap} {x:(Ty.sl T).D} {a:Option Ad} {n c:Nat} {o:Bool} (h:Vw (.sl T) H x [.sl a n c o]):∀b y,a=some (b,y)→b<H.length:=fun b y e=>vw_sl_lt h e
theorem snds_of {H:Heap} {x:List Snd.T.D} {cs:List Cell} (h:Vw (.sl Snd.T) H x cs):∃a c l,cs=[.sl a (List.length l) c false]∧(∀p,H.length≤p→Snds H.length p H a l)∧(l.map wS).sum≤wt (.sl Snd.T) x:=by
 obtain⟨a,c,l,rfl,k1,k2,k3,k4⟩:=Vw.tabW (R:=SnR H.length H.length) (S:=fun x e=>wS e≤wt Snd.T x) (fun _ _=>snd_row) h
 have s1:=all2_wt k4
 refine⟨a,c,l,rfl,fun p hp=>⟨tab_imp k3 fun e cs h=>h.to hp,fun b y e=>?_⟩,?_⟩
 ·have:=vw_sl_lt h e;omega
 ·show _≤1+(x.map fun x=>wt Snd.T x).sum
  omega
theorem cpys_of {H:Heap} {x:List C07.Cpy.T.D} {cs:List Cell} (h:Vw (.sl C07.Cpy.T) H x cs):∃a c l,cs=[.sl a (List.length l) c false]∧Tab 3 CpR H.length H a l∧(∀b y,a=some (b,y)→b<H.length)∧l.length≤wt (.sl C07.Cpy.T) x:=by
 obtain⟨a,c,l,rfl,k1,k2,k3,k4⟩:=Vw.tabW (R:=CpR) (S:=fun x _=>1≤wt C07.Cpy.T x) (fun _ _=>cpy_row) h
 have s2:=all2_wt (f:=fun _=>1) k4
 rw[len_sum] at s2
 refine⟨a,c,l,rfl,k3,sl_lt h,?_⟩
 show _≤1+(x.map fun x=>wt C07.Cpy.T x).sum
 omega
theorem arr2 {T:Ty} {H:Heap} {x:List T.D} {cs:List Cell} (h:Vw (.arr 2 T) H x cs):∃u v r1 r2,x=[u,v]∧cs=r1++r2∧Vw T H u r1∧Vw T H v r2:=by
 obtain⟨hl,rows,rfl,-,hr⟩:=h
 match x,rows,hr,hl with
 |_,_,.cons h1 (.cons h2 .nil),_=>exact⟨_,_,_,_,rfl,by simp,h1,h2⟩
 |_,_,.nil,hl=>simp at hl
 |_,_,.cons h1 .nil,hl=>simp at hl
 |_,_,.cons h1 (.cons h2 (.cons h3 h4)),hl=>simp at hl
theorem op_row {H:Heap} {x:Op.T.D} {cs:List Cell} (h:Vw Op.T H x cs):∃e,OpR H.length H e cs∧wO e≤wt Op.T x:=by
 obtain⟨x1,⟨x2,x3,u⟩,x4,x5,u'⟩:=x
 obtain⟨_,_,rfl,⟨rfl,w1⟩,_,_,rfl,⟨_,_,rfl,⟨rfl,w2⟩,_,_,rfl,⟨rfl,w3⟩,rfl⟩,_,_,rfl,h2,_,_,rfl,h3,rfl⟩:=h
 obtain⟨s0,s1,_,_,e4,rfl,h20,h21⟩:=arr2 h2
 obtain⟨c0,c1,_,_,e5,rfl,h30,h31⟩:=arr2 h3
 have e4:x4=[s0,s1]:=e4
 have e5:x5=[c0,c1]:=e5
 subst e4 e5
 obtain⟨ax0,d0,l0,rfl,q0,z0⟩:=snds_of h20
 obtain⟨ax1,d1,l1,rfl,q1,z1⟩:=snds_of h21
 obtain⟨ay0,f0,k0,rfl,p0,v0,y0⟩:=cpys_of h30
 obtain⟨ay1,f1,k1,rfl,p1,v1,y1⟩:=cpys_of h31
 obtain⟨m,hm,hmb⟩:=wf_u rfl w3
 refine⟨⟨x1,⟨Int.toNat x1,x2,m,l0,l1,k0,k1⟩⟩,⟨ax0,d0,ax1,d1,ay0,f0,ay1,f1,?_,wf_i64 w1,rfl,hmb,⟨q0,q1,p0,p1,v0,v1⟩⟩,?_⟩
 ·have hm:x3=(m:Int):=hm
  subst hm
  rfl
 ·have e:wt Op.T (x1,(x2,x3,u),[s0,s1],[c0,c1],u')=1+((1+(1+0))+(([s0,s1].map fun d=>wt (.sl Snd.T) d).sum+(([c0,c1].map fun d=>wt (.sl C07.Cpy.T) d).sum+0))):=rfl
  rw[e]
  show 1+(l0.map wS).sum+(l1.map wS).sum+k0.length+k1.length≤_
  simp only[List.map_cons,List.map_nil,List.sum_cons,List.sum_nil]
  omega
end Go.Proofs.YtjcgdcadflplcaaDoor.AM.D21
namespace Go.Proofs.YtjcgdcadflplcaaDoor.AM.D21
open Go Go.Proofs.YtjcgdcadflplcaaDoor.AM Go.Proofs.YtjcgdcadflplcaaDoor.AM.C02 Go.Proofs.YtjcgdcadflplcaaDoor.AM.C07 Go.Proofs.YtjcgdcadflplcaaDoor.AM.C21 Go.Proofs.YtjcgdcadflplcaaDoor.AM.P3
set_option maxHeartbeats 2000000
set_option maxRecDepth 100000
attribute [local go_sem] tn_add1 tn_sub1 put_all' nums_len sub_all sub02
attribute [local go_sem 2000] zF_eq eqF neF zF_len
theorem s_Ints {H:Heap} {a b:Option Ad} {n c1 c2:Nat} {o1 o2:Bool} {l:List Int} (h1:Sl H 1 a n (nums l)) (h2:Sl H 1 b n (nums l)) (hl:l.length=n) (hn:n≤100000):WC F fX1z [.c (.sl a n c1 o1),.c (.sl b n c2 o2)] H fun v H'=>v=.c (.bool true)∧H'=H:=by
 refine WC_start eX1z (by simp) ?_
 unfold cX1z
 have fin0:=zhd3 h1 h2 hl
 clear h1 h2 hl
 repeat (with_reducible first|(first|refine pI1 ?_|refine pS1 ?_);intros|refine pA1 ?_|refine pX1 ?_|refine pB1 ?_|exact True.intro)
 refine W_loop (fun mm st=>∃ρ,∃i:Nat,st=⟨L 26 ρ,[],H⟩∧mm=n-i∧i≤n∧ρ 0=.c (.sl a n c1 o1)∧ρ 1=.c (.sl b n c2 o2)∧ρ 5=.c (.int .i64 (i:Nat))) n ⟨_,0,rfl,rfl,by omega,zf,zf,zf⟩ ?_
 rintro mm st ⟨ρ,i,rfl,rfl,hi,e0,e1,e5⟩
 unfold bX1z_8
 by_cases hin:i<n
 ·have hxt:(i:Int)<(n:Int):=by omega
  obtain⟨⟨xb,xy⟩,rfl⟩:=fin0 _ fun h _ _=>h.is_some (by omega)
  obtain⟨⟨yb,yy⟩,rfl⟩:=fin0 _ fun _ h _=>h.is_some (by omega)
  have d1:=fin0 _ fun h1 _ hl=>h1.gn hl hin
  have d2:=fin0 _ fun _ h1 hl=>h1.gn hl hin
  dsimp only at d1 d2
  generalize gn l i=w at *
  repeat (with_reducible first|(first|refine pI1 ?_|refine pS1 ?_);intros|refine pA1 ?_|refine pX1 ?_|refine pB1 ?_|exact True.intro)
  exact loopQ_n (n-(i+1)) (by omega) ⟨_,i+1,rfl,rfl,by omega,zf,zf,zf⟩
 ·obtain rfl:i=n:=by omega
  have hxt:¬(i:Int)<(i:Int):=by omega
  repeat (with_reducible first|(first|refine pI1 ?_|refine pS1 ?_);intros|refine pA1 ?_|refine pX1 ?_|refine pB1 ?_|exact True.intro)
  exact⟨rfl,rfl⟩
theorem fr_row {x:Slt} {ws:List Int} {i k:Nat} (h:i<k):sub (x.fr ws k) (i * 67) 67=some (x.vf ws i).1:=by
 have e:x.fr ws k=((List.range k).map fun j=>(x.vf ws j).1).flatten:=by unfold Slt.fr;rw[List.flatMap_def]
 obtain⟨q1,q2⟩:=sub_rows (rows:=(List.range k).map fun j=>(x.vf ws j).1) (sz:=67) (i:=i) (r:=(x.vf ws i).1) (fun r hr=>by obtain⟨j,-,rfl⟩:=List.mem_map.1 hr;exact vf_len x ws j) (by rw[List.getElem?_map,List.getElem?_range h];rfl)
 rw[←e] at q1 q2
 unfold sub
 rw[if_pos q1,q2]
theorem Sl.row {H:Heap} {sz n i:Nat} {a:Ad} {xs r:List Cell} (h:Sl H sz (some a) n xs) (hi:i<n) (hr:sub xs (i * sz) sz=some r):ldnB H[a.1]? (a.2+i * sz) sz=some r:=by
 have hrd:=h.rd a rfl
 unfold Heap.ldn Heap.cells at hrd
 generalize H[a.1]?=k at *
 match k,hrd with
 |some (.cells cs ro g),hrd=>
  have hrd:sub cs a.2 (n * sz)=some xs:=hrd
  show sub cs (a.2+i * sz) sz=some r
  have hle:i * sz+sz≤n * sz:=by rw[←Nat.succ_mul];exact Nat.mul_le_mul_right _ hi
  unfold sub at hrd hr ⊢
  split at hrd
  ·rename_i hc
   have e1:=Option.some.inj hrd
   split at hr
   ·have e2:=Option.some.inj hr
    rw[if_pos (by omega),←e2,←e1,List.drop_take,List.take_take,List.drop_drop,Nat.min_eq_left (by omega)]
   ·cases hr
  ·cases hrd
theorem s_Frames {H:Heap} {a b:Option Ad} {n c1 c2:Nat} {o1 o2:Bool} {x:Slt} {ws:List Int} (h1:Sl H 67 a n (x.fr ws n)) (h2:Sl H 67 b n (x.fr ws n)) (hn:n≤100000):WC F fX21 [.c (.sl a n c1 o1),.c (.sl b n c2 o2)] H fun v H'=>v=.c (.bool true)∧H'=H:=by
 refine WC_start eX21 (by simp) ?_
 unfold cX21
 have hrow:=fun(i:Nat) (hi:i<n)=>fr_row (x:=x) (ws:=ws) hi
 have hsh:=vf_sh x ws
 have fin0:=zhd4 h1 h2 hrow hsh
 clear h1 h2 hrow hsh
 repeat (with_reducible first|(first|refine pI1 ?_|refine pS1 ?_);intros|refine pA1 ?_|refine pX1 ?_|refine pB1 ?_|exact True.intro)
 refine W_loop (fun mm st=>∃ρ,∃i:Nat,st=⟨L 26 ρ,[],H⟩∧mm=n-i∧i≤n∧ρ 0=.c (.sl a n c1 o1)∧ρ 1=.c (.sl b n c2 o2)∧ρ 5=.c (.int .i64 (i:Nat))) n ⟨_,0,rfl,rfl,by omega,zf,zf,zf⟩ ?_
 rintro mm st ⟨ρ,i,rfl,rfl,hi,e0,e1,e5⟩
 unfold bX21_8
 by_cases hin:i<n
 ·have hxt:(i:Int)<(n:Int):=by omega
  obtain⟨⟨xb,xy⟩,rfl⟩:=fin0 _ fun h _ _ _=>h.is_some (by omega)
  obtain⟨⟨yb,yy⟩,rfl⟩:=fin0 _ fun _ h _ _=>h.is_some (by omega)
  have d1:=fin0 _ fun h1 _ hr _=>Sl.row h1 hin (hr i hin)
  have d2:=fin0 _ fun _ h1 hr _=>Sl.row h1 hin (hr i hin)
  have hs:=fin0 _ fun _ _ _ h=>h i
  dsimp only at d1 d2
  generalize (x.vf ws i).1=FM at *
  have hq:=neF hs hs
  rw[decide_eq_false (fun h=>h rfl)] at hq
  repeat (with_reducible first|(first|refine pI1 ?_|refine pS1 ?_);intros|refine pA1 ?_|refine pX1 ?_|refine pB1 ?_|exact True.intro)
  exact loopQ_n (n-(i+1)) (by omega) ⟨_,i+1,rfl,rfl,by omega,zf,zf,zf⟩
 ·obtain rfl:i=n:=by omega
  have hxt:¬(i:Int)<(i:Int):=by omega
  repeat (with_reducible first|(first|refine pI1 ?_|refine pS1 ?_);intros|refine pA1 ?_|refine pX1 ?_|refine pB1 ?_|exact True.intro)
  exact⟨rfl,rfl⟩
end Go.Proofs.YtjcgdcadflplcaaDoor.AM.D21
namespace Go.Proofs.YtjcgdcadflplcaaDoor.AM.D21
open Go Go.Proofs.YtjcgdcadflplcaaDoor.AM Go.Proofs.YtjcgdcadflplcaaDoor.AM.C02 Go.Proofs.YtjcgdcadflplcaaDoor.AM.C07 Go.Proofs.YtjcgdcadflplcaaDoor.AM.C21 Go.Proofs.YtjcgdcadflplcaaDoor.AM.P3
set_option maxHeartbeats 2000000
set_option maxRecDepth 100000
attribute [local go_sem] tn_add1 tn_sub1 put_all' nums_len sub_all sub02
def smallL (L:List Snd) (nK:Nat):Prop:=L.length≤20∧nK≤40∧∀j,j<L.length→(gs L j).bytes.length≤200
def smallO (e:Op):Prop:=smallL e.x.l0 e.x.k0.length∧smallL e.x.l1 e.x.k1.length
theorem great_ch {ρ:Nat→V} {H:Heap} {N p n tb ty i k nL dL nK dK c:Nat} {o oL oK:Bool} {xa ya:Option Ad} {L_:List Snd} {m:Nat} (e0:ρ 0=.c (.sl (some (tb,ty)) n c o)) (e3:ρ 3=.c (.int .i64 (i:Nat))) (e4:ρ 4=.c (.int .i64 (k:Nat))) (e10:ρ 10=.c (.int .i64 (m:Nat))) (e11:ρ 11=.c (.int .i64 (i:Nat))) (hi:i<n) (hk:k<2)
  (hS:ldB H[tb]? (ty+i * 7+3+k)=some (.sl xa nL dL oL)) (hC:ldB H[tb]? (ty+i * 7+5+k)=some (.sl ya nK dK oK)) (hs:Snds N p H xa L_) (hL:L_.length=nL) (hb:nL≤1000000000) (hbb:∀j,j<nL→(gs L_ j).bytes.length≤1000000000):
  W F none (.seq (.seq (.ops oX17_8) (.cond (.t 37) (.seq (.ops oX17_9) .ret) .skip)) (.seq (.ops oX17_10) (.block 4 (.loop bX17_16)))) ⟨L 64 ρ,[],H⟩ fun e st=>
   (e=.ret∧∃ρ',st=⟨L 64 ρ',[],H⟩∧ρ' 2=.c (.bool true))∨(e=.normal∧smallL L_ nK∧∃ρ',st=⟨L 64 ρ',[],H⟩∧ρ' 0=.c (.sl (some (tb,ty)) n c o)∧ρ' 3=.c (.int .i64 (i:Nat))∧ρ' 4=.c (.int .i64 (k:Nat))∧ρ' 10=.c (.int .i64 (m:Nat))∧ρ' 11=.c (.int .i64 (i:Nat))):=by
 have f0:=zhd3 hs hL hbb
 clear hs hL hbb
 by_cases c1:(nL:Int) > 20
 ·repeat (with_reducible first|(first|refine pI1 ?_|refine pS1 ?_);intros|refine pA1 ?_|refine pX1 ?_|refine pB1 ?_|exact True.intro)
  exact .inl ⟨rfl,_,rfl,zf⟩
 by_cases c2:(nK:Int) > 40
 ·repeat (with_reducible first|(first|refine pI1 ?_|refine pS1 ?_);intros|refine pA1 ?_|refine pX1 ?_|refine pB1 ?_|exact True.intro)
  exact .inl ⟨rfl,_,rfl,zf⟩
 repeat (with_reducible first|(first|refine pI1 ?_|refine pS1 ?_);intros|refine pA1 ?_|refine pX1 ?_|refine pB1 ?_|exact True.intro)
 refine W_loop (fun mm st=>∃ρ,∃j:Nat,st=⟨L 64 ρ,[],H⟩∧mm=nL-j∧j≤nL∧ρ 0=.c (.sl (some (tb,ty)) n c o)∧ρ 3=.c (.int .i64 (i:Nat))∧ρ 4=.c (.int .i64 (k:Nat))∧ρ 10=.c (.int .i64 (m:Nat))∧ρ 11=.c (.int .i64 (i:Nat))∧ρ 45=.c (.int .i64 (nL:Nat))∧ρ 46=.c (.int .i64 (j:Nat))∧Hid (∀t,t<j→(gs L_ t).bytes.length≤200)) nL ⟨_,0,rfl,rfl,by omega,zf,zf,zf,zf,zf,zf,zf,fun t ht=>absurd ht (by omega)⟩ ?_
 clear e0 e3 e4 e10 e11
 rintro mm st ⟨ρ,j,rfl,rfl,hj,e0,e3,e4,e10,e11,e45,e46,hall⟩
 unfold bX17_16
 have fz:=zhd1 hall
 clear hall
 by_cases hjn:j<nL
 ·have hxt:(j:Int)<(nL:Int):=by omega
  obtain⟨b,y,a',c',o',ea,-,-,hld,-,-,-,-⟩:=f0 _ fun hs hL _=>send_at hs (i:=j) (by omega)
  obtain⟨-,hd1⟩:=ldB_two hld
  have hbl:=f0 _ fun _ _ h=>h j hjn
  obtain⟨nb,hnb⟩:∃nb,(gs L_ j).bytes.length=nb:=⟨_,rfl⟩
  rw[hnb] at hd1 hbl
  have fn:=zhd1 hnb
  clear hnb hld
  rw[ea] at hS
  by_cases c3:(nb:Int) > 200
  ·repeat (with_reducible first|(first|refine pI1 ?_|refine pS1 ?_);intros|refine pA1 ?_|refine pX1 ?_|refine pB1 ?_|exact True.intro)
   exact .inl ⟨rfl,_,rfl,zf⟩
  ·have hnext:Hid (∀t,t<j+1→(gs L_ t).bytes.length≤200):=fun t ht=>by
    by_cases e:t=j
    ·subst e;rw[fn _ fun h=>h];omega
    ·exact fz _ fun h=>h t (by omega)
   have fx:=zhd1 hnext
   clear hnext
   repeat (with_reducible first|(first|refine pI1 ?_|refine pS1 ?_);intros|refine pA1 ?_|refine pX1 ?_|refine pB1 ?_|exact True.intro)
   exact loopQ_n (nL-(j+1)) (by omega) ⟨_,j+1,rfl,rfl,by omega,zf,zf,zf,zf,zf,zf,zf,fx _ fun h=>h⟩
 ·obtain rfl:j=nL:=by omega
  have hxt:¬(j:Int)<(j:Int):=by omega
  repeat (with_reducible first|(first|refine pI1 ?_|refine pS1 ?_);intros|refine pA1 ?_|refine pX1 ?_|refine pB1 ?_|exact True.intro)
  exact .inr ⟨rfl,f0 _ fun _ hL _=>⟨by omega,by omega,fun t ht=>fz _ fun h=>h t (by omega)⟩,_,rfl,zf,zf,zf,zf,zf⟩
theorem cells_at {H:Heap} {b o n:Nat} {cs:List Cell} (h:ldnB H[b]? o n=some cs) {j:Nat} (hj:j<n):ldB H[b]? (o+j)=cs[j]?:=by
 generalize H[b]?=k at *
 match k,h with
 |some (.cells C ro g),h=>exact sub_at (i:=j) h hj
theorem s_great {N:Nat} {H:Heap} {a:Option Ad} {n c:Nat} {o:Bool} {l:List Op} (ht:Tab 7 (OpR N) N H a l) (hn:l.length=n) (hb:n≤1000000000) (hw:∀e∈l,wO e≤2000000):
  WC F fX17 [.c (.sl a n c o)] H fun v H'=>H'=H∧∃b,v=.c (.bool b)∧(b=false→n≤40∧∀e∈l,smallO e):=by
 refine WC_start eX17 (by simp) ?_
 unfold cX17
 have f0:=zhd3 ht hn hw
 clear ht hn hw
 by_cases c1:(n:Int) > 40
 ·repeat (with_reducible first|(first|refine pI1 ?_|refine pS1 ?_);intros|refine pA1 ?_|refine pX1 ?_|refine pB1 ?_|exact True.intro)
  exact⟨rfl,true,rfl,fun h=>by cases h⟩
 repeat (with_reducible first|(first|refine pI1 ?_|refine pS1 ?_);intros|refine pA1 ?_|refine pX1 ?_|refine pB1 ?_|exact True.intro)
 refine W_loop (fun mm st=>∃ρ,∃i:Nat,st=⟨L 64 ρ,[],H⟩∧mm=n-i∧i≤n∧ρ 0=.c (.sl a n c o)∧ρ 10=.c (.int .i64 (n:Nat))∧ρ 11=.c (.int .i64 (i:Nat))∧Hid (∀t e,t<i→l[t]?=some e→smallO e)) n ⟨_,0,rfl,rfl,by omega,zf,zf,zf,fun t e ht=>absurd ht (by omega)⟩ ?_
 rintro mm st ⟨ρ,i,rfl,rfl,hi,e0,e10,e11,hall⟩
 unfold bX17_20
 have fz:=zhd1 hall
 clear hall
 by_cases hin:i<n
 case neg=>
  obtain rfl:i=n:=by omega
  have hxt:¬(i:Int)<(i:Int):=by omega
  repeat (with_reducible first|(first|refine pI1 ?_|refine pS1 ?_);intros|refine pA1 ?_|refine pX1 ?_|refine pB1 ?_|exact True.intro)
  exact⟨rfl,false,rfl,fun _=>⟨by omega,fun e he=>by
   obtain⟨t,ht,rfl⟩:=List.mem_iff_getElem.1 he
   exact fz _ fun h=>h t _ (f0 _ fun _ hn _=>by omega) (List.getElem?_eq_getElem ht)⟩⟩
 have hxt:(i:Int)<(n:Int):=by omega
 have hlt:i<l.length:=f0 _ fun _ h _=>by omega
 obtain⟨⟨tb,ty⟩,cs,ea,ltb,hld,x0,d0,x1,d1,y0,f0',y1,f1',rfl,hsl,hsx,hmem,hm⟩:=f0 _ fun ht _ _=>ht.at hlt
 have hwl:=f0 _ fun _ _ h=>h _ (List.getElem_mem hlt)
 have hq3:=cells_at hld (j:=3) (by omega)
 have hq4:=cells_at hld (j:=4) (by omega)
 have hq5:=cells_at hld (j:=5) (by omega)
 have hq6:=cells_at hld (j:=6) (by omega)
 dsimp only at hq3 hq4 hq5 hq6
 have hnext:smallO l[i]→Hid (∀t e,t<i+1→l[t]?=some e→smallO e):=fun h t e ht he=>by
  by_cases et:t=i
  ·subst et;rw[List.getElem?_eq_getElem hlt] at he;cases he;exact h
  ·exact fz _ fun hz=>hz t e (by omega) he
 obtain⟨⟨slot,x⟩,hx⟩:∃e,e=l[i]:=⟨_,rfl⟩
 rw[←hx] at hq3 hq4 hq5 hq6 hm hwl hnext
 dsimp only at hq3 hq4 hq5 hq6 hm
 have hwb:∀L_:List Snd,(L_.map wS).sum≤2000000→L_.length≤2000000∧∀j,j<L_.length→(gs L_ j).bytes.length≤2000000:=fun L_ hL=>by
  have key:∀L_:List Snd,L_.length≤(L_.map wS).sum∧∀j,j<L_.length→(gs L_ j).bytes.length≤(L_.map wS).sum:=fun L_=>by
   induction L_ with
   |nil=>exact⟨Nat.le_refl _,fun j hj=>absurd hj (by simp)⟩
   |cons s L_ ih=>
    rw[List.map_cons,List.sum_cons]
    have hs:wS s=1+s.bytes.length:=rfl
    refine⟨by rw[List.length_cons];omega,fun j hj=>?_⟩
    cases j with
    |zero=>show s.bytes.length≤_;omega
    |succ j=>have:=ih.2 j (by simpa using hj);show (gs L_ j).bytes.length≤_;omega
  exact⟨by have:=(key L_).1;omega,fun j hj=>by have:=(key L_).2 j hj;omega⟩
 have hw1:wO ⟨slot,x⟩=1+(x.l0.map wS).sum+(x.l1.map wS).sum+x.k0.length+x.k1.length:=rfl
 have hb0:=hwb x.l0 (by omega)
 have hb1:=hwb x.l1 (by omega)
 have f1:=zhd4 hm hnext hb0 hb1
 clear hm hnext hwb hwl hx hld hw1 hsl hsx hmem hb0 hb1
 subst ea
 obtain⟨Y,hY⟩:∃Y,Y=IC.seq (.seq (.ops oX17_8) (.cond (.t 37) (.seq (.ops oX17_9) .ret) .skip)) (.seq (.ops oX17_10) (.block 4 (.loop bX17_16))):=⟨_,rfl⟩
 have hb18:bX17_18=.seq (.seq (.ops oX17_7) (.cond (.t 15) .skip (.exit 2))) (.seq (.block 3 Y) (.ops oX17_17)):=by rw[hY];rfl
 have fY:=zhd2 hY hb18
 clear hY hb18
 repeat (with_reducible first|(first|refine pI1 ?_|refine pS1 ?_);intros|refine pA1 ?_|refine pX1 ?_|refine pB1 ?_|exact True.intro)
 refine W_turn (fY _ fun _ h=>h) ?_
 repeat (with_reducible first|(first|refine pI1 ?_|refine pS1 ?_);intros|refine pA1 ?_|refine pX1 ?_|refine pB1 ?_|exact True.intro)
 rw[fY _ fun h _=>h]
 refine W.mono (f1 _ fun hm _ hb0 _=>great_ch (k:=0) (m:=n) (n:=n) (i:=i) (tb:=tb) (ty:=ty) (L_:=x.l0) zf zf zf zf zf hin (by omega) hq3 hq5 (hm.s0 N (Nat.le_refl _)) rfl (by have:=hb0.1;omega) fun j hj=>by have:=hb0.2 j hj;omega) ?_
 rintro _ _ (⟨rfl,ρ',rfl,e2⟩|⟨rfl,hs0,ρ',rfl,z0,z3,z4,z10,z11⟩)
 ·repeat (with_reducible first|(first|refine pI1 ?_|refine pS1 ?_);intros|refine pA1 ?_|refine pX1 ?_|refine pB1 ?_|exact True.intro)
  exact⟨rfl,true,rfl,fun h=>by cases h⟩
 have g0:=zhd1 hs0
 clear hs0 e0 e10 e11
 repeat (with_reducible first|(first|refine pI1 ?_|refine pS1 ?_);intros|refine pA1 ?_|refine pX1 ?_|refine pB1 ?_|exact True.intro)
 refine W_turn (fY _ fun _ h=>h) ?_
 repeat (with_reducible first|(first|refine pI1 ?_|refine pS1 ?_);intros|refine pA1 ?_|refine pX1 ?_|refine pB1 ?_|exact True.intro)
 rw[fY _ fun h _=>h]
 refine W.mono (f1 _ fun hm _ _ hb0=>great_ch (k:=1) (m:=n) (n:=n) (i:=i) (tb:=tb) (ty:=ty) (L_:=x.l1) zf zf zf zf zf hin (by omega) hq4 hq6 (hm.s1 N (Nat.le_refl _)) rfl (by have:=hb0.1;omega) fun j hj=>by have:=hb0.2 j hj;omega) ?_
 clear z0 z3 z4 z10 z11
 rintro _ _ (⟨rfl,ρ',rfl,e2⟩|⟨rfl,hs1,ρ',rfl,z0,z3,z4,z10,z11⟩)
 ·repeat (with_reducible first|(first|refine pI1 ?_|refine pS1 ?_);intros|refine pA1 ?_|refine pX1 ?_|refine pB1 ?_|exact True.intro)
  exact⟨rfl,true,rfl,fun h=>by cases h⟩
 have g1:=zhd1 hs1
 clear hs1
 repeat (with_reducible first|(first|refine pI1 ?_|refine pS1 ?_);intros|refine pA1 ?_|refine pX1 ?_|refine pB1 ?_|exact True.intro)
 refine W_turn (fY _ fun _ h=>h) ?_
 repeat (with_reducible first|(first|refine pI1 ?_|refine pS1 ?_);intros|refine pA1 ?_|refine pX1 ?_|refine pB1 ?_|exact True.intro)
 exact loopQ_n (n-(i+1)) (by omega) ⟨_,i+1,rfl,rfl,by omega,zf,zf,zf,f1 _ fun _ hnext _ _=>hnext ⟨g0 _ fun h=>h,g1 _ fun h=>h⟩⟩
end Go.Proofs.YtjcgdcadflplcaaDoor.AM.D21
