/- What the functions that this law reaches come to, each walked once, and the plain laws that stand behind them. -/
import Derived.Test.YtjcgdcadflplcaaDoorA4
import Derived.Test.YtjcgdcadflplcaaDoorB1
import Derived.KernelRfl
set_option linter.unusedVariables false
set_option linter.unusedSimpArgs false
set_option linter.unusedSectionVars false
namespace Go.Proofs.YtjcgdcadflplcaaDoor.AM.P3
open Go Go.Proofs.YtjcgdcadflplcaaDoor.AM
abbrev X1 (H H':Heap):Prop:=H.length≤H'.length∧∀b,b<H.length→H'[b]?=H[b]?
theorem mo {k:Nat} (h:k≤100000):k * (1+1)≤most:=by have:most=2 ^ 40:=rfl;omega
def nibN:List Nat:=[0x00000000,0x1db71064,0x3b6e20c8,0x26d930ac,0x76dc4190,0x6b6b51f4,0x4db26158,0x5005713c,0xedb88320,0xf00f9344,0xd6d6a3e8,0xcb61b38c,0x9b64c2b0,0x86d3d2d4,0xa00ae278,0xbdbdf21c]
def nibB:Blk:=.cells (nats .u32 nibN) true none
def s4 (n:Nat):Nat:=(n / 16 ^^^ gx nibN (n % 16)) % 4294967296
def sby (n c:Nat):Nat:=s4 (s4 ((n ^^^ c) % 4294967296))
def inv (n:Nat):Nat:=(4294967295 ^^^ n) % 4294967296
def mor (n:Nat) (l:List Nat):Nat:=inv (l.foldl sby (inv n))
def stBy (slot:Int) (mem:Nat):List Nat:=[(slot % 4294967296).toNat / 16777216,(slot % 4294967296).toNat / 65536 % 256,(slot % 4294967296).toNat / 256 % 256,(slot % 4294967296).toNat % 256,mem / 256,mem % 256]
theorem s4_lt (n:Nat):s4 n<4294967296:=Nat.mod_lt _ (by decide)
theorem sby_lt (n c:Nat):sby n c<4294967296:=s4_lt _
theorem inv_lt (n:Nat):inv n<4294967296:=Nat.mod_lt _ (by decide)
theorem foldl_lt {f:Nat→Nat→Nat} {M:Nat} (hf:∀n c,f n c<M):∀(l:List Nat) {z:Nat},z<M→l.foldl f z<M
 |[],_,h=>h
 |_ :: l,_,_=>foldl_lt hf l (hf _ _)
theorem foldl_take {f:Nat→Nat→Nat} {l:List Nat} {k:Nat} (z:Nat) (h:k<l.length):(l.take (k+1)).foldl f z=f ((l.take k).foldl f z) (gx l k):=by
 rw[List.take_add_one,List.foldl_append,List.getElem?_eq_getElem h]
 simp[gx,List.getD_eq_getElem?_getD,h]
def num (l:List Nat):Nat:=l.foldl (fun v c=>v * 256+c) 0
theorem num_lt:∀(l:List Nat) (v k:Nat),(∀x∈l,x<256)→v<256 ^ k→l.foldl (fun v c=>v * 256+c) v<256 ^ (k+l.length)
 |[],v,k,_,h=>h
 |x :: l,v,k,hx,h=>by
  have:=num_lt l (v * 256+x) (k+1) (fun y hy=>hx y (by simp[hy])) (by have:=hx x (by simp);rw[Nat.pow_succ];omega)
  rw[show k+(x :: l).length=k+1+l.length by simp;omega]
  exact this
structure Fm where
 o:Int
 s:Int
 m:Nat
 p:List Nat
abbrev frC (f:Fm):List Cell:=.int .i64 f.o :: .int .i64 f.s :: .int .u16 (f.m:Nat) :: nats .u8 f.p
def z64:List Nat:=List.replicate 64 0
abbrev fr0:Fm:=⟨0,0,0,z64⟩
theorem z64_len:z64.length=64:=rfl
theorem fr0C:(List.replicate 2 (Cell.int .i64 0)++[(.int .u16 0)]++List.replicate 64 (.int .u8 0))=.int .i64 0 :: .int .i64 0 :: .int .u16 0 :: nats .u8 z64:=by rfl
theorem sub67 {p:List Nat} (a b c:Cell) (h:p.length=64):sub (a :: b :: c :: nats .u8 p) 0 67=some (a :: b :: c :: nats .u8 p):=by
 simp[sub,nats_len,h]
 exact List.take_of_length_le (by simp[nats_len,h])
theorem sub12 (a b c:Cell) (l:List Cell):sub (a :: b :: c :: l) 1 2=some [b,c]:=by
 simp[sub]
theorem sub02 (a b:Cell):sub [a,b] 0 2=some [a,b]:=rfl
theorem subP {p:List Nat} (a b c:Cell) (h:p.length=64):sub (a :: b :: c :: nats .u8 p) 3 64=some (nats .u8 p):=by
 simp[sub,nats_len,h]
 exact List.take_of_length_le (by simp[nats_len,h])
theorem putP {p q:List Nat} (a b c:Cell) (h:q.length=p.length):put (a :: b :: c :: nats .u8 p) 3 (nats .u8 q)=a :: b :: c :: nats .u8 q:=by
 have:=put_append (nats .u8 q) [a,b,c] (nats .u8 p) [] (by simp[nats_len,h])
 simpa using this
def le4 (n:Nat):List Nat:=[n % 256,n / 256 % 256,n / 65536 % 256,n / 16777216]
def okS (l:List Nat) (n:Nat):Prop:=gx l 71=n % 256∧gx l 72=n / 256 % 256∧gx l 73=n / 65536 % 256∧gx l 74=n / 16777216
instance (l:List Nat) (n:Nat):Decidable (okS l n):=by unfold okS;infer_instance
def tell (l:List Nat):Option Fm:=if l.length=75∧gx l 6<16∧gx l 0≤127 then some ⟨gx l 6,((((gx l 0 * 256+gx l 1) * 256+gx l 2) * 256+gx l 3:Nat):Int),gx l 4 * 256+gx l 5,(l.drop 7).take 64⟩ else none
def acc (l:List Nat) (o s:Int) (m:Nat):Fm × Int:=
 match tell l with
 |none=>(fr0,30)
 |some f=>if okS l (mor (mor 0 (stBy s m)) ((l.drop 6).take 65)) then if f.o=o∧f.s=s∧f.m=m then (f,0) else (fr0,30) else (fr0,31)
theorem mor_lt (n:Nat) (l:List Nat):mor n l<4294967296:=inv_lt _
def encB (f:Fm):List Nat:=stBy f.s f.m++[f.o.toNat]++f.p
def enc (f:Fm):List Nat:=encB f++le4 (mor 0 (encB f))
def encOk (f:Fm):Prop:=0≤f.o∧f.o<16∧0≤f.s∧f.s≤2147483647
theorem take4 {l:List Nat} (h:4≤l.length):l.take 4=[gx l 0,gx l 1,gx l 2,gx l 3]:=by
 match l,h with
 |a :: b :: c :: d :: l,_=>rfl
theorem take46 {l:List Nat} (h:6≤l.length):(l.drop 4).take 2=[gx l 4,gx l 5]:=by
 match l,h with
 |a :: b :: c :: d :: e :: f :: l,_=>rfl
structure Fm.wf (f:Fm):Prop where
 m:f.m<65536
 len:f.p.length=64
 by_:∀i,gx f.p i<256
theorem gx_lt {l:List Nat} (h:∀i,gx l i<256):∀x∈l,x<256:=fun x hx=>by
 obtain⟨i,hi,rfl⟩:=List.mem_iff_getElem.1 hx
 have:=h i
 simpa [gx,List.getD_eq_getElem?_getD,hi] using this
theorem lt_gx {l:List Nat} (h:∀x∈l,x<256):∀i,gx l i<256:=fun i=>by
 by_cases hi:i<l.length
 ·have:gx l i=l[i]:=by simp[gx,List.getD_eq_getElem?_getD,hi]
  rw[this];exact h _ (List.getElem_mem _)
 ·have:gx l i=0:=by rw[gx,List.getD_eq_getElem?_getD,List.getElem?_eq_none (by omega)];rfl
  omega
theorem stBy_by (s:Int) (m:Nat) (hm:m<65536):∀x∈stBy s m,x<256:=by
 intro x hx
 simp only[stBy,List.mem_cons,List.not_mem_nil,or_false] at hx
 omega
theorem le4_by (n:Nat) (hn:n<4294967296):∀x∈le4 n,x<256:=by
 intro x hx
 simp only[le4,List.mem_cons,List.not_mem_nil,or_false] at hx
 omega
theorem encB_by {f:Fm} (h:f.wf) (ho:encOk f):∀x∈encB f,x<256:=by
 intro x hx
 simp only[encB,List.mem_append,List.mem_cons,List.not_mem_nil,or_false] at hx
 rcases hx with (hx|hx)|hx
 ·exact stBy_by _ _ h.m x hx
 ·have:=ho.1;have:=ho.2.1;omega
 ·exact gx_lt h.by_ x hx
theorem enc_by {f:Fm} (h:f.wf) (ho:encOk f):∀x∈enc f,x<256:=by
 intro x hx
 rcases List.mem_append.1 hx with hx|hx
 ·exact encB_by h ho x hx
 ·exact le4_by _ (mor_lt _ _) x hx
theorem encB_len {f:Fm} (h:f.wf):(encB f).length=71:=by simp[encB,stBy,h.len]
theorem enc_len {f:Fm} (h:f.wf):(enc f).length=75:=by simp[enc,encB_len h,le4]
theorem nats_app (k:IntKind) (a b:List Nat):nats k a++nats k b=nats k (a++b):=by simp[nats]
theorem nats_set (k:IntKind) (l:List Nat) (i n:Nat):(nats k l).set i (.int k (n:Nat))=nats k (l.set i n):=by simp[nats,List.map_set]
theorem nats_drop (k:IntKind) (a:List Nat) (n:Nat):(nats k a).drop n=nats k (a.drop n):=by simp[nats,List.map_drop]
theorem nats_take (k:IntKind) (a:List Nat) (n:Nat):(nats k a).take n=nats k (a.take n):=by simp[nats,List.map_take]
def P:Nat:=3988292384
theorem inv_sub {n:Nat} (h:n<4294967296):inv n=4294967295-n:=by
 have h1:=BitVec.xor_allOnes (x:=BitVec.ofNat 32 n)
 have h2:=congrArg BitVec.toNat h1
 rw[BitVec.toNat_xor,BitVec.toNat_not,BitVec.toNat_allOnes,BitVec.toNat_ofNat,Nat.mod_eq_of_lt h] at h2
 unfold inv
 rw[Nat.xor_comm,show (4294967295:Nat)=2 ^ 32-1 from rfl,h2,Nat.mod_eq_of_lt (by omega)]
theorem inv_inv {n:Nat} (h:n<4294967296):inv (inv n)=n:=by
 rw[inv_sub (inv_lt n),inv_sub h];omega
theorem mor_mor (n:Nat) (a b:List Nat) (ha:∀i,gx a i<256):mor (mor n a) b=mor n (a++b):=by
 unfold mor
 rw[inv_inv (foldl_lt sby_lt _ (inv_lt _)),List.foldl_append]
def bt (mask i:Nat):Bool:=mask / 2 ^ i % 2 == 1
def fl (k:Nat) (l:List Nat):List Nat:=l.set (k / 8) ((gx l (k / 8) ^^^ 2 ^ (k % 8)) % 256)
theorem fl_len (k:Nat) (l:List Nat):(fl k l).length=l.length:=by simp[fl]
abbrev hit (at_:Int) (mask k:Nat):Prop:=at_≤k∧(k:Int)-31≤at_∧bt mask ((k:Int)-at_).toNat=true
def R (xs:List Nat) (at_:Int) (mask:Nat):Nat→List Nat
 |0=>xs
 |k+1=>if hit at_ mask k then fl k (R xs at_ mask k) else R xs at_ mask k
theorem R_len (xs:List Nat) (at_:Int) (mask:Nat):∀k,(R xs at_ mask k).length=xs.length
 |0=>rfl
 |k+1=>by unfold R;split<;>simp only[fl_len,R_len xs at_ mask k]
theorem R_skip {xs:List Nat} {at_:Int} {mask:Nat} {k:Nat} (h:¬hit at_ mask k):R xs at_ mask (k+1)=R xs at_ mask k:=by
 rw[R,if_neg h]
theorem R_flip {xs:List Nat} {at_:Int} {mask:Nat} {k:Nat} (h:hit at_ mask k):R xs at_ mask (k+1)=fl k (R xs at_ mask k):=by
 rw[R,if_pos h]
theorem R_same {xs:List Nat} {at_:Int} {mask:Nat} {a b:Nat} (hab:a≤b) (h:∀k,a≤k→k<b→¬hit at_ mask k):R xs at_ mask b=R xs at_ mask a:=by
 induction b with
 |zero=>have:a=0:=by omega
        rw[this]
 |succ b ih=>
  by_cases e:a=b+1
  ·rw[e]
  ·rw[R_skip (h b (by omega) (by omega)),ih (by omega) fun k h1 h2=>h k h1 (by omega)]
def corr (l:List Nat) (at_:Int) (mask:Nat):List Nat:=R l at_ mask (8 * l.length)
theorem corr_len (l:List Nat) (at_:Int) (mask:Nat):(corr l at_ mask).length=l.length:=R_len _ _ _ _
theorem mem_set {l:List Nat} {i x y:Nat} (h:y∈l.set i x):y=x∨y∈l:=(List.mem_or_eq_of_mem_set h).symm
theorem R_by {xs:List Nat} (h:∀x∈xs,x<256) (at_:Int) (mask:Nat):∀k,∀x∈R xs at_ mask k,x<256
 |0=>h
 |k+1=>by
  intro x hx
  unfold R at hx
  split at hx
  ·rcases mem_set hx with rfl|hx
   ·exact Nat.mod_lt _ (by decide)
   ·exact R_by h at_ mask k x hx
  ·exact R_by h at_ mask k x hx
theorem corr_by {l:List Nat} (h:∀x∈l,x<256) (at_:Int) (mask:Nat):∀x∈corr l at_ mask,x<256:=R_by h at_ mask _
def bl (mask:Nat):Nat→Nat→List (List V)
 |0,_=>[]
 |f+1,j=>if bt mask j then [.c (.int .i64 (j:Nat))] :: bl mask f (j+1) else bl mask f (j+1)
theorem bt_none {mask j:Nat} (h:mask / 2 ^ j=0):bt mask j=false:=by simp[bt,h]
theorem bl_none {mask:Nat}:∀(f j:Nat),mask / 2 ^ j=0→bl mask f j=[]
 |0,_,_=>rfl
 |f+1,j,h=>by
  have:mask / 2 ^ (j+1)=0:=by rw[Nat.pow_succ,←Nat.div_div_eq_div_mul,h,Nat.zero_div]
  simp[bl,bt_none h,bl_none f (j+1) this]
theorem bl_cons {mask:Nat} {x:List V} {rest:List (List V)}:∀{f j:Nat},bl mask f j=x :: rest→∃i,j≤i∧i<j+f∧bt mask i=true∧(∀k,j≤k→k<i→bt mask k=false)∧x=[.c (.int .i64 (i:Nat))]∧rest=bl mask (j+f-(i+1)) (i+1)
 |0,_,h=>by cases h
 |f+1,j,h=>by
  unfold bl at h
  split at h
  ·rename_i hb
   cases h
   exact⟨j,Nat.le_refl _,by omega,hb,fun k h1 h2=>by omega,rfl,by rw[show j+(f+1)-(j+1)=f by omega]⟩
  ·rename_i hb
   obtain⟨i,h1,h2,h3,h4,h5,h6⟩:=bl_cons h
   refine⟨i,by omega,by omega,h3,fun k k1 k2=>?_,h5,by rw[h6];congr 1;omega⟩
   by_cases e:k=j
   ·subst e;simpa using hb
   ·exact h4 k (by omega) k2
theorem bl_end {mask:Nat}:∀{f j:Nat},bl mask f j=[]→∀k,j≤k→k<j+f→bt mask k=false
 |0,_,_,k,h1,h2=>by omega
 |f+1,j,h,k,h1,h2=>by
  unfold bl at h
  split at h
  ·cases h
  ·rename_i hb
   by_cases e:k=j
   ·subst e;simpa using hb
   ·exact bl_end h k (by omega) (by omega)
def clamp (n:Nat) (k:Int):Nat:=min (8 * n) k.toNat
theorem gx_app_r (a b:List Nat) (i:Nat):gx (a++b) (a.length+i)=gx b i:=by
 simp[gx,List.getD_eq_getElem?_getD,List.getElem?_append_right]
theorem enc_cons (f:Fm):enc f=(f.s % 4294967296).toNat / 16777216 :: (f.s % 4294967296).toNat / 65536 % 256 :: (f.s % 4294967296).toNat / 256 % 256 :: (f.s % 4294967296).toNat % 256 :: f.m / 256 :: f.m % 256 :: f.o.toNat :: (f.p++le4 (mor 0 (encB f))):=by
 simp[enc,encB,stBy]
theorem tell_enc {f:Fm} (h:f.wf) (ho:encOk f):tell (enc f)=some f:=by
 have hl:=enc_len h
 obtain⟨h1,h2,h3,h4⟩:=ho
 have hm:=h.m
 have e:=enc_cons f
 have g0:gx (enc f) 0=(f.s % 4294967296).toNat / 16777216:=by rw[e];rfl
 have g1:gx (enc f) 1=(f.s % 4294967296).toNat / 65536 % 256:=by rw[e];rfl
 have g2:gx (enc f) 2=(f.s % 4294967296).toNat / 256 % 256:=by rw[e];rfl
 have g3:gx (enc f) 3=(f.s % 4294967296).toNat % 256:=by rw[e];rfl
 have g4:gx (enc f) 4=f.m / 256:=by rw[e];rfl
 have g5:gx (enc f) 5=f.m % 256:=by rw[e];rfl
 have g6:gx (enc f) 6=f.o.toNat:=by rw[e];rfl
 have gp:((enc f).drop 7).take 64=f.p:=by
  rw[e]
  show (f.p++le4 _).take 64=f.p
  rw[List.take_append_of_le_length (by rw[h.len];exact Nat.le_refl _),←h.len,List.take_length]
 unfold tell
 rw[if_pos ⟨hl,by rw[g6];omega,by rw[g0];omega⟩,g0,g1,g2,g3,g4,g5,g6,gp]
 obtain⟨o,s,m,p⟩:=f
 simp only at *
 congr 2<;>omega
theorem okS_enc {f:Fm} (h:f.wf) {n:Nat} (hn:n<4294967296):okS (enc f) n↔n=mor 0 (encB f):=by
 have hl:=encB_len h
 have hm:=mor_lt 0 (encB f)
 have g:∀i,gx (enc f) (71+i)=gx (le4 (mor 0 (encB f))) i:=fun i=>by
  have:=gx_app_r (encB f) (le4 (mor 0 (encB f))) i
  rw[hl] at this;exact this
 have g0:=g 0;have g1:=g 1;have g2:=g 2;have g3:=g 3
 unfold okS
 rw[g0,g1,g2,g3]
 show (_ % 256=_∧_ / 256 % 256=_∧_ / 65536 % 256=_∧_ / 16777216=_)↔_
 omega
theorem enc_mid {f:Fm} (h:f.wf):((enc f).drop 6).take 65=f.o.toNat :: f.p:=by
 rw[enc_cons f]
 show (f.o.toNat :: (f.p++le4 _)).take (64+1)=_
 rw[List.take_succ_cons,List.take_append_of_le_length (by rw[h.len];exact Nat.le_refl _),←h.len,List.take_length]
theorem acc_enc {f:Fm} (h:f.wf) (ho:encOk f) {o s:Int} {m:Nat} (hm:m<65536):acc (enc f) o s m=(f,0)∧f.o=o∧f.s=s∧f.m=m∨((acc (enc f) o s m).1=fr0∧(acc (enc f) o s m).2≠0)∧¬(f.o=o∧f.s=s∧f.m=m):=by
 simp only[acc,tell_enc h ho]
 rw[enc_mid h,mor_mor _ _ _ (lt_gx (stBy_by s m hm))]
 by_cases c:f.o=o∧f.s=s∧f.m=m
 ·left
  refine⟨?_,c⟩
  rw[if_pos,if_pos c]
  rw[okS_enc h (mor_lt _ _)]
  obtain⟨rfl,rfl,rfl⟩:=c
  rw[encB];simp
 ·right
  refine⟨?_,c⟩
  rw[if_neg c]
  split
  ·exact⟨rfl,by decide⟩
  ·exact⟨rfl,by decide⟩
theorem mid {l:List Nat} (h:l.length=75):l.take 6++(l.drop 6).take 65=l.take 71:=by
 rw[List.take_drop]
 have:l.take 6=(l.take 71).take 6:=by rw[List.take_take];rfl
 rw[this]
 exact List.take_append_drop 6 _
end Go.Proofs.YtjcgdcadflplcaaDoor.AM.P3
namespace Go.Proofs.YtjcgdcadflplcaaDoor.AM.C07
open Go Go.Proofs.YtjcgdcadflplcaaDoor.AM Go.Proofs.YtjcgdcadflplcaaDoor.AM.C02
structure Snd where
 node:Int
 bytes:List Nat
def snd0:Snd:=⟨0,[]⟩
def gs (l:List Snd) (i:Nat):Snd:=l.getD i snd0
def SnR (N p:Nat) (H:Heap) (s:Snd) (cs:List Cell):Prop:=
 ∃a c o,cs=[.int .i64 s.node,.sl a s.bytes.length c o]∧Sl H 1 a s.bytes.length (nats .u8 s.bytes)∧(∀b x,a=some (b,x)→b<N∧b≠p)∧i64 s.node∧(∀x∈s.bytes,x<256)∧s.bytes.length≤c
def ownF (ws:List Int) (slot:Int):Int:=if slot<0∨ws.length=0 then -1 else gn ws (slot.toNat % ws.length)
def fstP (o:Int) (l:List Snd) (i:Nat):Prop:=i<l.length∧0≤o∧(gs l i).node=o∧∀j,j<i→(gs l j).node≠o
def noneP (o:Int) (l:List Snd):Prop:=∀j,j<l.length→0≤o→(gs l j).node≠o
theorem ldB_two {k:Option Blk} {o:Nat} {x y:Cell} (h:ldnB k o 2=some [x,y]):ldB k o=some x∧ldB k (o+1)=some y:=by
 match k,h with
 |some (.cells cs ro g),h=>
  have h:sub cs o 2=some [x,y]:=h
  unfold sub at h
  split at h
  ·have e:=Option.some.inj h
   have e0:((cs.drop o).take 2)[0]?=some x:=by rw[e];rfl
   have e1:((cs.drop o).take 2)[1]?=some y:=by rw[e];rfl
   simp at e0 e1
   exact⟨by simpa [ldB] using e0,by simpa [ldB] using e1⟩
  ·cases h
def Snds (N p:Nat) (H:Heap) (a:Option Ad) (l:List Snd):Prop:=Tab 2 (SnR N p) N H a l∧∀b x,a=some (b,x)→b≠p
theorem Snds.keep {N p:Nat} {H H':Heap} {a:Option Ad} {l:List Snd} (h:Snds N p H a l) (hx:∀b,b<N→b≠p→H'[b]?=H[b]?):Snds N p H' a l:=by
 refine⟨fun i e he=>?_,h.2⟩
 obtain⟨⟨b,y⟩,cs,rfl,h1,h2,a',c,o,rfl,h3,h4,h5,h6⟩:=h.1 i e he
 exact⟨(b,y),_,rfl,h1,by rw[hx _ h1 (h.2 _ _ rfl)];exact h2,a',c,o,rfl,h3.keep fun b x e=>hx b (h4 b x e).1 (h4 b x e).2,h4,h5,h6⟩
theorem send_atc {N p:Nat} {H:Heap} {a:Option Ad} {l:List Snd} (h:Snds N p H a l) {i:Nat} (hi:i<l.length):
  ∃b y a' c o,a=some (b,y)∧b<N∧b≠p∧ldnB H[b]? (y+i * 2) 2=some [.int .i64 (gs l i).node,.sl a' (gs l i).bytes.length c o]∧Sl H 1 a' (gs l i).bytes.length (nats .u8 (gs l i).bytes)∧(∀b x,a'=some (b,x)→b<N∧b≠p)∧i64 (gs l i).node∧(∀x∈(gs l i).bytes,x<256)∧(gs l i).bytes.length≤c:=by
 obtain⟨⟨b,y⟩,cs,e,h1,h2,a',c,o,rfl,h3,h4,h5,h6⟩:=h.1.at hi
 have eg:gs l i=l[i]:=by simp[gs,hi]
 exact⟨b,y,a',c,o,e,h1,h.2 _ _ e,by rw[eg];exact h2,by rw[eg];exact h3,h4,by rw[eg];exact h5,by rw[eg];exact h6⟩
theorem send_at {N p:Nat} {H:Heap} {a:Option Ad} {l:List Snd} (h:Snds N p H a l) {i:Nat} (hi:i<l.length):
  ∃b y a' c o,a=some (b,y)∧b<N∧b≠p∧ldnB H[b]? (y+i * 2) 2=some [.int .i64 (gs l i).node,.sl a' (gs l i).bytes.length c o]∧Sl H 1 a' (gs l i).bytes.length (nats .u8 (gs l i).bytes)∧(∀b x,a'=some (b,x)→b<N∧b≠p)∧i64 (gs l i).node∧∀x∈(gs l i).bytes,x<256:=by
 obtain⟨b,y,a',c,o,k1,k2,k3,k4,k5,k6,k7,k8,-⟩:=send_atc h hi
 exact⟨b,y,a',c,o,k1,k2,k3,k4,k5,k6,k7,k8⟩
def BusM (H:Heap) (p:Nat) (a:Option Ad) (c:Nat) (o:Bool) (ws:List Int) (bl pa:Nat):Prop:=
 H[p]?=some (.cells [.sl a ws.length c o,.int .u64 (bl:Nat),.int .u64 (pa:Nat)] false none)∧Sl H 1 a ws.length (nums ws)∧(∀b x,a=some (b,x)→b≠p)
end Go.Proofs.YtjcgdcadflplcaaDoor.AM.C07
namespace Go.Proofs.YtjcgdcadflplcaaDoor.AM.C07
open Go Go.Proofs.YtjcgdcadflplcaaDoor.AM Go.Proofs.YtjcgdcadflplcaaDoor.AM.C02
structure Cpy where
 kind:Int
 at_:Int
 mask:Nat
def cpy0:Cpy:=⟨0,0,0⟩
def gc (l:List Cpy) (i:Nat):Cpy:=l.getD i cpy0
abbrev Cpy.cells (c:Cpy):List Cell:=[.int .i64 c.kind,.int .i64 c.at_,.int .u32 (c.mask:Nat)]
def CpR (_:Heap) (c:Cpy) (cs:List Cell):Prop:=cs=c.cells∧i64 c.kind∧i64 c.at_∧c.mask<4294967296
theorem copy_at {N:Nat} {H:Heap} {a:Option Ad} {l:List Cpy} (h:Tab 3 CpR N H a l) {i:Nat} (hi:i<l.length):
  ∃b y,a=some (b,y)∧b<N∧ldnB H[b]? (y+i * 3) 3=some (gc l i).cells∧i64 (gc l i).kind∧i64 (gc l i).at_∧(gc l i).mask<4294967296:=by
 obtain⟨⟨b,y⟩,cs,e,h1,h2,rfl,h4⟩:=h.at hi
 have eg:gc l i=l[i]:=by simp[gc,hi]
 exact⟨b,y,e,h1,by rw[eg];exact h2,by rw[eg];exact h4⟩
def cpF (ow:Int) (cps:List Cpy) (n:Nat):Cpy:=if n<cps.length∧(n:Int)≠ow then gc cps n else cpy0
theorem cpF_ok {N:Nat} {H:Heap} {a:Option Ad} {l:List Cpy} (h:Tab 3 CpR N H a l) (ow:Int) (i:Nat):i64 (cpF ow l i).at_∧(cpF ow l i).mask<4294967296:=by
 unfold cpF
 split
 ·rename_i hi
  obtain⟨_,_,_,_,_,_,h1,h2⟩:=copy_at h hi.1
  exact⟨h1,h2⟩
 ·exact⟨⟨by decide,by decide⟩,by decide⟩
def becomes (c:Cpy) (l:List Nat):Option (List Nat):=if c.kind=1 then none else if c.kind=2 then some (P3.corr l c.at_ c.mask) else some l
def nilC:Cell:=.sl none 0 0 false
def Slot (H:Heap) (lo bo:Nat) (x:Option Cell):Option (List Nat)→Prop
 |none=>x=some nilC
 |some l=>∃e c o g,x=some (.sl (some (e,0)) l.length c o)∧lo≤e∧e≠bo∧H[e]?=some (.cells (nats .u8 l) false g)∧(∀y∈l,y<256)∧l.length≤c
def Outs (H:Heap) (lo bo m:Nat) (f:Nat→Option (List Nat)):Prop:=
 ∃cells,H[bo]?=some (.cells cells false none)∧cells.length=m∧∀j,j<m→Slot H lo bo cells[j]? (f j)
theorem Slot.keep {H H':Heap} {lo bo:Nat} {x:Option Cell} {r:Option (List Nat)} (h:Slot H lo bo x r) (hx:∀b,lo≤b→b<H.length→b≠bo→H'[b]?=H[b]?):Slot H' lo bo x r:=by
 cases r with
 |none=>exact h
 |some l=>
  obtain⟨e,c,o,g,h1,h2,h3,h4,h5⟩:=h
  exact⟨e,c,o,g,h1,h2,h3,by rw[hx e h2 (lt_of_get h4) h3];exact h4,h5⟩
theorem Outs.keep {H H':Heap} {lo bo m:Nat} {f:Nat→Option (List Nat)} (h:Outs H lo bo m f) (hl:lo≤bo) (hx:∀b,lo≤b→b<H.length→H'[b]?=H[b]?):Outs H' lo bo m f:=by
 obtain⟨cells,h1,h2,h3⟩:=h
 exact⟨cells,by rw[hx bo hl (lt_of_get h1)];exact h1,h2,fun j hj=>(h3 j hj).keep fun b hb hb' _=>hx b hb hb'⟩
theorem Outs.same {H:Heap} {lo bo m:Nat} {f g:Nat→Option (List Nat)} (h:Outs H lo bo m f) (e:∀j,j<m→f j=g j):Outs H lo bo m g:=by
 obtain⟨cells,h1,h2,h3⟩:=h
 exact⟨cells,h1,h2,fun j hj=>by rw[←e j hj];exact h3 j hj⟩
theorem Outs.put {H H':Heap} {lo bo m i:Nat} {f:Nat→Option (List Nat)} {cells:List Cell} {l:List Nat} {e c n:Nat} {o:Bool} {g:Option Nat} (h2:cells.length=m) (h3:∀j,j<m→Slot H lo bo cells[j]? (f j)) (hi:i<m)
  (he:lo≤e) (heb:e≠bo) (hg:H[e]?=some (.cells (nats .u8 l) false g)) (hn:l.length=n) (hby:∀y∈l,y<256) (hnc:n≤c) (hb:H'[bo]?=some (.cells (cells.set i (.sl (some (e,0)) n c o)) false none)) (hx:∀b,b≠bo→H'[b]?=H[b]?):
  Outs H' lo bo m (fun j=>if j=i then some l else f j):=by
 refine⟨_,hb,by rw[List.length_set,h2],fun j hj=>?_⟩
 show Slot _ lo bo _ (if j=i then some l else f j)
 by_cases hji:j=i
 ·subst hji
  rw[if_pos rfl,List.getElem?_set_self (by omega)]
  exact⟨e,c,o,g,by rw[hn],he,heb,by rw[hx e heb];exact hg,hby,by omega⟩
 ·rw[if_neg hji,List.getElem?_set_ne (Ne.symm hji)]
  exact(h3 j hj).keep fun b _ _ hb=>hx b hb
end Go.Proofs.YtjcgdcadflplcaaDoor.AM.C07
namespace Go.Proofs.YtjcgdcadflplcaaDoor.AM.C07
open Go Go.Proofs.YtjcgdcadflplcaaDoor.AM Go.Proofs.YtjcgdcadflplcaaDoor.AM.C02
structure Trn where
 slot:Int
 sends:List Snd
 copies:List Cpy
 pass:Bool
end Go.Proofs.YtjcgdcadflplcaaDoor.AM.C07
namespace Go.Proofs.YtjcgdcadflplcaaDoor.AM.C07
open Go Go.Proofs.YtjcgdcadflplcaaDoor.AM Go.Proofs.YtjcgdcadflplcaaDoor.AM.C02
theorem gs_mem {l:List Snd} {i:Nat} (h:i<l.length):gs l i∈l:=by
 have:gs l i=l[i]:=by simp[gs,h]
 rw[this];exact List.getElem_mem h
def OnlyM (o:Int) (mine:Snd) (l:List Snd):Prop:=∀s∈l,s.node=o→s=mine
theorem OnlyM.nil (o:Int) (mine:Snd):OnlyM o mine []:=fun s h=>by cases h
theorem OnlyM.add {o:Int} {mine s:Snd} {l:List Snd} (h:OnlyM o mine l) (hs:s.node≠o):OnlyM o mine (l++[s]):=fun t ht hn=>by
 rcases List.mem_append.1 ht with ht|ht
 ·exact h t ht hn
 ·obtain rfl:=List.mem_singleton.1 ht
  exact absurd hn hs
theorem OnlyM.own {o:Int} {mine:Snd} {l:List Snd} (h:OnlyM o mine l):OnlyM o mine (l++[mine]):=fun t ht hn=>by
 rcases List.mem_append.1 ht with ht|ht
 ·exact h t ht hn
 ·exact List.mem_singleton.1 ht
end Go.Proofs.YtjcgdcadflplcaaDoor.AM.C07
namespace Go.Proofs.YtjcgdcadflplcaaDoor.AM.C07
open Go Go.Proofs.YtjcgdcadflplcaaDoor.AM Go.Proofs.YtjcgdcadflplcaaDoor.AM.C02
abbrev Snd.T:Ty:=.pair I (.pair (.sl (.int .u8)) .unit)
abbrev Cpy.T:Ty:=.pair I (.pair I (.pair (.int .u32) .unit))
abbrev Trn.T:Ty:=.pair I (.pair (.sl Snd.T) (.pair (.sl Cpy.T) (.pair .bool .unit)))
def wS (s:Snd):Nat:=1+s.bytes.length
theorem SnR.to {N p q:Nat} {H:Heap} {s:Snd} {cs:List Cell} (hp:N≤p) (h:SnR N q H s cs):SnR N p H s cs:=by
 obtain⟨a,c,o,h1,h2,h3,h4⟩:=h
 exact⟨a,c,o,h1,h2,fun b y e=>by have:=(h3 b y e).1;exact⟨this,by omega⟩,h4⟩
theorem tab_imp {α:Type} {sz:Nat} {R R':Heap→α→List Cell→Prop} {N:Nat} {H:Heap} {a:Option Ad} {l:List α} (h:Tab sz R N H a l) (hR:∀e cs,R H e cs→R' H e cs):Tab sz R' N H a l:=fun i e he=>by
 obtain⟨a',cs,e1,h1,h2,h3⟩:=h i e he
 exact⟨a',cs,e1,h1,h2,hR _ _ h3⟩
theorem tab_mono {α:Type} {sz:Nat} {R:Heap→α→List Cell→Prop} {N N':Nat} {H:Heap} {a:Option Ad} {l:List α} (h:Tab sz R N H a l) (hN:N≤N'):Tab sz R N' H a l:=fun i e he=>by
 obtain⟨a',cs,e1,h1,h2,h3⟩:=h i e he
 exact⟨a',cs,e1,by omega,h2,h3⟩
theorem Snds.mono {N N' p:Nat} {H:Heap} {a:Option Ad} {l:List Snd} (h:Snds N p H a l) (hN:N≤N'):Snds N' p H a l:=by
 refine⟨tab_imp (tab_mono h.1 hN) fun e cs hr=>?_,h.2⟩
 obtain⟨a,c,o,h1,h2,h3,h4⟩:=hr
 exact⟨a,c,o,h1,h2,fun b y e=>⟨by have:=(h3 b y e).1;omega,(h3 b y e).2⟩,h4⟩
theorem snd_row {H:Heap} {x:Snd.T.D} {cs:List Cell} (h:Vw Snd.T H x cs):∃e,SnR H.length H.length H e cs∧wS e≤wt Snd.T x:=by
 obtain⟨_,_,rfl,⟨rfl,w1⟩,_,_,rfl,h2,rfl⟩:=h
 obtain⟨a,c,l,rfl,h3,h4,h5,h6,h7⟩:=Vw.nats rfl h2
 refine⟨⟨x.1,l⟩,⟨a,c,false,rfl,h3,fun b y e=>?_,wf_i64 w1,h6,h4⟩,?_⟩
 ·have:=h3.lt e;exact⟨this,by omega⟩
 ·show 1+l.length≤1+(wt (.sl (.int .u8)) x.2.1+0)
  rw[h7];omega
theorem cpy_row {H:Heap} {x:Cpy.T.D} {cs:List Cell} (h:Vw Cpy.T H x cs):∃e,CpR H e cs∧1≤wt Cpy.T x:=by
 obtain⟨_,_,rfl,⟨rfl,w1⟩,_,_,rfl,⟨rfl,w2⟩,_,_,rfl,⟨rfl,w3⟩,rfl⟩:=h
 obtain⟨m,e,hm⟩:=wf_u rfl w3
 refine⟨⟨x.1,x.2.1,m⟩,⟨?_,wf_i64 w1,wf_i64 w2,hm⟩,?_⟩
 ·show [Cell.int .i64 x.1,.int .i64 x.2.1,.int .u32 x.2.2.1]=_
  rw[e]
 ·show 1≤1+_
  omega
theorem len_sum {α:Type} (l:List α):(l.map fun _=>1).sum=l.length:=by
 induction l with
 |nil=>rfl
 |cons x l ih=>simp only[List.map_cons,List.sum_cons,ih,List.length_cons];omega
theorem vw_sl_lt {T:Ty} {H:Heap} {x:(Ty.sl T).D} {a:Option Ad} {n c:Nat} {o:Bool} (h:Vw (.sl T) H x [.sl a n c o]) {b y:Nat} (e:a=some (b,y)):b<H.length:=by
 obtain⟨a',c',hcs,-,-,h4⟩:=h
 injection hcs with hcs _
 injection hcs with e1 e2 _
 subst e1
 rcases h4 with ⟨h4,_⟩|⟨b',rows,h4,h5,_⟩
 ·rw[h4] at e;cases e
 ·rw[h4] at e;cases e;exact lt_of_get h5
end Go.Proofs.YtjcgdcadflplcaaDoor.AM.C07
namespace Go.Proofs.YtjcgdcadflplcaaDoor.AM.C07
open Go Go.Proofs.YtjcgdcadflplcaaDoor.AM Go.Proofs.YtjcgdcadflplcaaDoor.AM.P3
def tv (x:Nat) (h:Nat→Bool):Nat→Nat
 |0=>0
 |j+1=>tv x h j+if (x / 2 ^ j % 2 == 1) != h j then 2 ^ j else 0
def hb (at_:Int) (mask p:Nat):Bool:=decide (hit at_ mask p)
end Go.Proofs.YtjcgdcadflplcaaDoor.AM.C07
namespace Go.Proofs.YtjcgdcadflplcaaDoor.AM.C21
open Go Go.Proofs.YtjcgdcadflplcaaDoor.AM Go.Proofs.YtjcgdcadflplcaaDoor.AM.C02 Go.Proofs.YtjcgdcadflplcaaDoor.AM.C07
def fstB (o:Int) (l:List Snd):Option (List Nat):=if 0≤o then (l.find? fun s=>decide (s.node=o)).map Snd.bytes else none
theorem gs_mem {l:List Snd} {s:Snd} (h:s∈l):∃j,j<l.length∧gs l j=s:=by
 obtain⟨j,hj,rfl⟩:=List.mem_iff_getElem.1 h
 exact⟨j,hj,by simp[gs,hj]⟩
theorem fstB_none {o:Int} {l:List Snd} (h:noneP o l):fstB o l=none:=by
 unfold fstB
 split
 ·rename_i h0
  rw[List.find?_eq_none.2];· rfl
  intro s hs
  obtain⟨j,hj,rfl⟩:=gs_mem hs
  simpa using h j hj h0
 ·rfl
theorem find_first:∀{l:List Snd} {o:Int} {i:Nat},i<l.length→(gs l i).node=o→(∀j,j<i→(gs l j).node≠o)→l.find? (fun s=>decide (s.node=o))=some (gs l i)
 |[],_,_,h,_,_=>by simp at h
 |s :: l,o,0,_,h1,_=>by
  have:s.node=o:=h1
  rw[List.find?_cons_of_pos (by simpa using this)];rfl
 |s :: l,o,i+1,h0,h1,h2=>by
  have hs:s.node≠o:=h2 0 (by omega)
  rw[List.find?_cons_of_neg (by simpa using hs)]
  exact find_first (l:=l) (i:=i) (by simpa using h0) h1 fun j hj=>h2 (j+1) (by omega)
theorem fstB_some {o:Int} {l:List Snd} {i:Nat} (h:fstP o l i):fstB o l=some (gs l i).bytes:=by
 obtain⟨h1,h2,h3,h4⟩:=h
 unfold fstB
 rw[if_pos h2,find_first h1 h3 h4];rfl
def rcv (o:Int) (l:List Snd) (cps:List Cpy) (j:Nat):Option (List Nat):=(fstB o l).bind fun b=>becomes (cpF o cps j) b
theorem rcv_none {o:Int} {l:List Snd} (h:noneP o l) (cps:List Cpy) (j:Nat):rcv o l cps j=none:=by unfold rcv;rw[fstB_none h];rfl
theorem rcv_some {o:Int} {l:List Snd} {i:Nat} (h:fstP o l i) (cps:List Cpy) (j:Nat):rcv o l cps j=becomes (cpF o cps j) (gs l i).bytes:=by unfold rcv;rw[fstB_some h];rfl
def blS (o:Int) (l:List Snd) (bl:Nat):Nat:=match fstB o l with
 |none=>(bl+l.length) % 18446744073709551616
 |some _=>(bl+(l.length-1)) % 18446744073709551616
def paS (o:Int) (l:List Snd) (pa:Nat):Nat:=match fstB o l with
 |none=>pa
 |some _=>(pa+1) % 18446744073709551616
def cntS (ow:Nat) (v:Nat→Nat) (c:List Int):Nat→List Int
 |0=>c
 |n+1=>if n=ow then cntS ow v c n else (cntS ow v c n).set (ow * 5+v n) (gn (cntS ow v c n) (ow * 5+v n)+1)
theorem cntS_len (ow:Nat) (v:Nat→Nat) (c:List Int):∀n,(cntS ow v c n).length=c.length
 |0=>rfl
 |n+1=>by
  unfold cntS
  split
  ·exact cntS_len ow v c n
  ·rw[List.length_set];exact cntS_len ow v c n
theorem gn_set (l:List Int) (i j:Nat) (x:Int):gn (l.set i x) j=if i=j∧i<l.length then x else gn l j:=by
 unfold gn
 rw[List.getD_eq_getElem?_getD,List.getD_eq_getElem?_getD,List.getElem?_set]
 by_cases h:i=j
 ·subst h
  by_cases h':i<l.length
  ·simp[h']
  ·simp[h',List.getElem?_eq_none (show l.length≤i by omega)]
 ·simp[h]
theorem cntS_gn (ow:Nat) (v:Nat→Nat) (c:List Int) (k:Nat) (hk:k<c.length):∀n,gn (cntS ow v c n) k=gn c k+(((List.range n).countP fun j=>decide (j≠ow∧ow * 5+v j=k):Nat):Int)
 |0=>by simp[cntS]
 |n+1=>by
  have ih:=cntS_gn ow v c k hk n
  rw[List.range_succ,List.countP_append,List.countP_cons,List.countP_nil]
  unfold cntS
  by_cases h:n=ow
  ·rw[if_pos h,ih,if_neg (by simp[h])];omega
  ·rw[if_neg h,gn_set,cntS_len]
   by_cases e:ow * 5+v n=k
   ·rw[if_pos ⟨e,by omega⟩,e,ih,if_pos (by simp[h,e])];omega
   ·rw[if_neg fun h'=>e h'.1,ih,if_neg (by simp[e])];omega
theorem cntS_in {ow:Nat} {v:Nat→Nat} {c:List Int} {k:Nat} {B:Int} (hk:k<c.length) (h:0≤gn c k∧gn c k≤B) (n:Nat):0≤gn (cntS ow v c n) k∧gn (cntS ow v c n) k≤B+n:=by
 rw[cntS_gn ow v c k hk n]
 have:=List.countP_le_length (p:=fun j=>decide (j≠ow∧ow * 5+v j=k)) (l:=List.range n)
 rw[List.length_range] at this
 omega
theorem countP_s (l:List Int) (n:Nat):l.countP (fun y=>decide (0≤y∧y<((n+1:Nat):Int)))=l.countP (fun y=>decide (0≤y∧y<(n:Int)))+l.countP (fun y=>decide (y=(n:Int))):=by
 induction l with
 |nil=>rfl
 |cons y l ih=>
  rw[List.countP_cons,List.countP_cons,List.countP_cons,ih]
  by_cases h1:0≤y∧y<(n:Int)
  ·rw[if_pos (by simp;omega),if_pos (by simpa using h1),if_neg (by simp;omega)];omega
  ·by_cases h2:y=(n:Int)
   ·rw[if_pos (by simp;omega),if_neg (by simpa using h1),if_pos (by simpa using h2)];omega
   ·rw[if_neg (by simp;omega),if_neg (by simpa using h1),if_neg (by simpa using h2)];omega
theorem countP_all {l:List Int}:∀{n:Nat},(∀k:Nat,k<n→(k:Int)∈l)→n≤l.countP fun y=>decide (0≤y∧y<(n:Int))
 |0,_=>Nat.zero_le _
 |n+1,h=>by
  have ih:=countP_all (l:=l) (n:=n) fun k hk=>h k (by omega)
  have h1:0<l.countP fun y=>decide (y=(n:Int)):=List.countP_pos_iff.2 ⟨_,h n (by omega),by simp⟩
  rw[countP_s];omega
theorem own_in {l:List Int} {n:Nat} (hl:l.length=n) (h:∀k:Nat,k<n→(k:Int)∈l):∀y∈l,0≤y∧y<(n:Int):=fun y hy=>by
 have h1:=countP_all h
 have h2:=List.countP_le_length (p:=fun y:Int=>decide (0≤y∧y<(n:Int))) (l:=l)
 have h3:l.countP (fun y=>decide (0≤y∧y<(n:Int)))=l.length:=by omega
 have:=List.countP_eq_length.1 h3 y hy
 simpa using this
end Go.Proofs.YtjcgdcadflplcaaDoor.AM.C21
namespace Go.Proofs.YtjcgdcadflplcaaDoor.AM.D21
open Go Go.Proofs.YtjcgdcadflplcaaDoor.AM Go.Proofs.YtjcgdcadflplcaaDoor.AM.P3
set_option maxHeartbeats 2000000
set_option maxRecDepth 100000
theorem s_state {H:Heap} {slot:Int} {mem:Nat} (hm:mem<65536):
  WC F fX16 [.agg [.int .i64 slot,.int .u16 (mem:Nat)]] H fun v H'=>∃b,v=.c (.sl (some (b,0)) 6 6 false)∧H.length≤b∧b<H'.length∧H'[b]?=some (.cells (nats .u8 (stBy slot mem)) false none)∧X1 H H':=by
 refine WC_start eX16 (by simp) ?_
 unfold cX16
 repeat (with_reducible first|(first|refine pI1 ?_|refine pS1 ?_);intros|refine pA1 ?_|refine pX1 ?_|refine pB1 ?_|exact True.intro)
 rename_i b1 H1 l1 g1 x1 b2 H2 l2 g2 x2
 simp only[List.reduceReplicate,List.set_cons_zero,List.set_cons_succ] at g2
 exact⟨_,rfl,by omega,by omega,g2,by omega,fun b hb=>by simp (disch:=first|with_reducible assumption|omega) only [go_sem, *,reduceCtorEq,↓reduceIte,Nat.reduceLT,Nat.reduceBEq,Nat.reduceAdd,Nat.reduceSub,Nat.reduceMul,Nat.reduceDiv,Nat.reduceMod,Nat.reducePow,Nat.reduceEqDiff,Nat.reduceLeDiff,Int.reduceLT,Int.reduceLE,Int.reduceNeg,Int.reduceToNat,Int.reduceAdd,Int.reduceSub,Int.reduceMul,Int.reduceEq,Int.reduceNe,Int.reduceBEq,Int.reduceBNe,Int.reducePow]⟩
attribute [local go_sem] nibB in
theorem s_More {H:Heap} {n0:Nat} {a:Option Ad} {n c:Nat} {o:Bool} {l:List Nat} (hT:H[0]?=some nibB) (hs:Sl H 1 a n (nats .u8 l)) (hn:n≤100000) (hby:∀i,gx l i<256):
  WC F fX1i [.c (.int .u32 (n0:Nat)),.c (.sl a n c o)] H fun v H'=>v=.c (.int .u32 (mor n0 l:Nat))∧H'=H:=by
 refine WC_start eX1i (by simp) ?_
 unfold cX1i
 have hlen:=hs.len
 rw[nats_len,Nat.mul_one] at hlen
 have hs_n:=hs.nil;have hs_l:=hs.lt0;have hs_a:=hs.at;have hs_0:=hs.at0
 repeat (with_reducible first|(first|refine pI1 ?_|refine pS1 ?_);intros|refine pA1 ?_|refine pX1 ?_|refine pB1 ?_|exact True.intro)
 refine W_loop (fun m st=>∃ρ k,st=⟨L 37 ρ,[],H⟩∧m=n-k∧k≤n∧ρ 10=.c (.sl a n c o)∧ρ 11=.c (.int .i64 n)∧ρ 12=.c (.int .i64 (k:Nat))∧ρ 5=.c (.int .u32 ((l.take k).foldl sby (inv n0):Nat))) n ⟨_,0,rfl,rfl,by omega,zf,zf,zf,zf⟩ ?_
 rintro m st ⟨ρ,k,rfl,rfl,hk,e10,e11,e12,e5⟩
 unfold bX1i_9
 have hnl:nibN.length=16:=rfl
 have hb:=foldl_lt sby_lt (l.take k) (inv_lt n0)
 have hy:=hby k
 repeat (with_reducible first|(first|refine pI1 ?_|refine pS1 ?_);intros|refine pA1 ?_|refine pX1 ?_|refine pB1 ?_|exact True.intro)
 first|refine ifM_d ?_ ?_|refine gM_dt ?_ ?_|refine gM_df ?_ ?_
 ·intro hlt
  repeat (with_reducible first|(first|refine pI1 ?_|refine pS1 ?_);intros|refine pA1 ?_|refine pX1 ?_|refine pB1 ?_|exact True.intro)
  refine loopQ_n (n-(k+1)) (by omega) ⟨_,k+1,rfl,rfl,by omega,zf,zf,zf,?_⟩
  simp (disch:=first|with_reducible assumption|omega) only [go_sem, *,reduceCtorEq,↓reduceIte,Nat.reduceLT,Nat.reduceBEq,Nat.reduceAdd,Nat.reduceSub,Nat.reduceMul,Nat.reduceDiv,Nat.reduceMod,Nat.reducePow,Nat.reduceEqDiff,Nat.reduceLeDiff,Int.reduceLT,Int.reduceLE,Int.reduceNeg,Int.reduceToNat,Int.reduceAdd,Int.reduceSub,Int.reduceMul,Int.reduceEq,Int.reduceNe,Int.reduceBEq,Int.reduceBNe,Int.reducePow]
  rw[foldl_take _ (by omega)];rfl
 ·intro hge
  repeat (with_reducible first|(first|refine pI1 ?_|refine pS1 ?_);intros|refine pA1 ?_|refine pX1 ?_|refine pB1 ?_|exact True.intro)
  have:k=n:=by omega
  subst this
  rw[←hlen,List.take_length];exact⟨rfl,rfl⟩
theorem s_Sum {H:Heap} {a:Option Ad} {n c:Nat} {o:Bool} {l:List Nat} (hT:H[0]?=some nibB) (hs:Sl H 1 a n (nats .u8 l)) (hn:n≤100000) (hby:∀i,gx l i<256):
  WC F fX1j [.c (.sl a n c o)] H fun v H'=>v=.c (.int .u32 (mor 0 l:Nat))∧H'=H:=by
 refine WC_start eX1j (by simp) ?_
 unfold cX1j
 repeat (with_reducible first|(first|refine pI1 ?_|refine pS1 ?_);intros|refine pA1 ?_|refine pX1 ?_|refine pB1 ?_|exact True.intro)
 refine outM_call (s_More (n0:=0) hT hs hn hby) ?_
 rintro _ _ ⟨rfl,rfl⟩
 repeat (with_reducible first|(first|refine pI1 ?_|refine pS1 ?_);intros|refine pA1 ?_|refine pX1 ?_|refine pB1 ?_|exact True.intro)
 exact⟨rfl,rfl⟩
theorem s_number {H:Heap} {a:Option Ad} {n c:Nat} {o:Bool} {l:List Nat} (hs:Sl H 1 a n (nats .u8 l)) (hn:n≤4) (hby:∀x∈l,x<256):
  WC F fX14 [.c (.sl a n c o)] H fun v H'=>v=.c (.int .i64 (num l:Nat))∧H'=H:=by
 refine WC_start eX14 (by simp) ?_
 unfold cX14
 have hlen:=hs.len
 rw[nats_len,Nat.mul_one] at hlen
 have hs_n:=hs.nil;have hs_l:=hs.lt0;have hs_a:=hs.at;have hs_0:=hs.at0
 repeat (with_reducible first|(first|refine pI1 ?_|refine pS1 ?_);intros|refine pA1 ?_|refine pX1 ?_|refine pB1 ?_|exact True.intro)
 refine W_loop (fun m st=>∃ρ k,st=⟨L 18 ρ,[],H⟩∧m=n-k∧k≤n∧ρ 5=.c (.sl a n c o)∧ρ 6=.c (.int .i64 n)∧ρ 7=.c (.int .i64 (k:Nat))∧ρ 2=.c (.int .i64 (num (l.take k):Nat))) n ⟨_,0,rfl,rfl,by omega,zf,zf,zf,zf⟩ ?_
 rintro m st ⟨ρ,k,rfl,rfl,hk,e5,e6,e7,e2⟩
 unfold bX14_6
 repeat (with_reducible first|(first|refine pI1 ?_|refine pS1 ?_);intros|refine pA1 ?_|refine pX1 ?_|refine pB1 ?_|exact True.intro)
 first|refine ifM_d ?_ ?_|refine gM_dt ?_ ?_|refine gM_df ?_ ?_
 ·intro hlt
  have hb:num (l.take k)<16777216:=by
   have:=num_lt (l.take k) 0 0 (fun x hx=>hby x (List.mem_of_mem_take hx)) (by decide)
   have h3:0+(l.take k).length≤3:=by simp;omega
   exact Nat.lt_of_lt_of_le this (Nat.pow_le_pow_right (by decide) h3)
  have hy:gx l k<256:=by
   have:gx l k=l[k]:=by simp[gx,List.getD_eq_getElem?_getD,show k<l.length by omega]
   rw[this];exact hby _ (List.getElem_mem _)
  have ht:((num (l.take k):Nat):Int) * 256=((num (l.take k) * 256:Nat):Int):=by push_cast;rfl
  repeat (with_reducible first|(first|refine pI1 ?_|refine pS1 ?_);intros|refine pA1 ?_|refine pX1 ?_|refine pB1 ?_|exact True.intro)
  refine loopQ_n (n-(k+1)) (by omega) ⟨_,k+1,rfl,rfl,by omega,zf,zf,zf,?_⟩
  simp (disch:=first|with_reducible assumption|omega) only [go_sem, *,reduceCtorEq,↓reduceIte,Nat.reduceLT,Nat.reduceBEq,Nat.reduceAdd,Nat.reduceSub,Nat.reduceMul,Nat.reduceDiv,Nat.reduceMod,Nat.reducePow,Nat.reduceEqDiff,Nat.reduceLeDiff,Int.reduceLT,Int.reduceLE,Int.reduceNeg,Int.reduceToNat,Int.reduceAdd,Int.reduceSub,Int.reduceMul,Int.reduceEq,Int.reduceNe,Int.reduceBEq,Int.reduceBNe,Int.reducePow]
  rw[show num (l.take (k+1))=num (l.take k) * 256+gx l k from foldl_take _ (by omega)]
 ·intro hge
  repeat (with_reducible first|(first|refine pI1 ?_|refine pS1 ?_);intros|refine pA1 ?_|refine pX1 ?_|refine pB1 ?_|exact True.intro)
  have:k=n:=by omega
  subst this
  rw[←hlen,List.take_length];exact⟨rfl,rfl⟩
end Go.Proofs.YtjcgdcadflplcaaDoor.AM.D21
namespace Go.Proofs.YtjcgdcadflplcaaDoor.AM.D21
open Go Go.Proofs.YtjcgdcadflplcaaDoor.AM Go.Proofs.YtjcgdcadflplcaaDoor.AM.P3
set_option maxHeartbeats 2000000
set_option maxRecDepth 100000
attribute [local go_sem] fr0C sub67 sub12 putP z64_len
theorem s_Encode {H:Heap} {f:Fm} (hf:f.wf) (hT:H[0]?=some nibB) (h:encOk f):
  WC F fX10 [.agg (frC f)] H fun v H'=>∃b,v=.tup [.c (.sl (some (b,0)) 75 75 true),.c (.int .i64 0)]∧H.length≤b∧b<H'.length∧H'[b]?=some (.cells (nats .u8 (enc f)) false (some 1))∧X1 H H':=by
 have henc:=encB_by hf h
 obtain⟨o,s,m,p⟩:=f
 obtain⟨ho1,ho2,hs1,hs2⟩:=h
 have hp:p.length=64:=hf.len
 have hm:m<65536:=hf.m
 simp only at ho1 ho2 hs1 hs2
 refine WC_start eX10 (by simp) ?_
 unfold cX10
 have h0:0<H.length:=lt_of_get hT
 repeat (with_reducible first|(first|refine pI1 ?_|refine pS1 ?_);intros|refine pA1 ?_|refine pX1 ?_|refine pB1 ?_|exact True.intro)
 rename_i b1 H1 l1 g1 x1
 repeat (with_reducible first|(first|refine pI1 ?_|refine pS1 ?_);intros|refine pA1 ?_|refine pX1 ?_|refine pB1 ?_|exact True.intro)
 refine outM_call (s_state hm) ?_
 rintro _ H2 ⟨b,rfl,hb,hb',g2,l2,x2⟩
 repeat (with_reducible first|(first|refine pI1 ?_|refine pS1 ?_);intros|refine pA1 ?_|refine pX1 ?_|refine pB1 ?_|exact True.intro)
 rename_i b3 H3 l3 g3 x3
 have s3:Sl H3 1 (some (b,0)) 6 (nats .u8 (stBy s m)):=Sl.blk (ro:=false) (g:=none) zf (by rfl)
 repeat (with_reducible first|(first|refine pI1 ?_|refine pS1 ?_);intros|refine pA1 ?_|refine pX1 ?_|refine pB1 ?_|exact True.intro)
 refine outM_appC (i:=6) (j:=1) s3 (Sl.blk (b:=b3) (cs:=nats .u8 [o.toNat]) (ro:=false) (g:=none) g3 (by rfl)) (by omega) (mo (by omega)) ?_
 intro b4 H4 l4 g4 x4
 rw[nats_app] at g4
 have hP:Sl H4 1 (some (b1,3)) 64 (nats .u8 p):=Sl.in_blk (cs:=frC ⟨o,s,m,p⟩) (ro:=false) (g:=none) zf (subP _ _ _ hp)
 repeat (with_reducible first|(first|refine pI1 ?_|refine pS1 ?_);intros|refine pA1 ?_|refine pX1 ?_|refine pB1 ?_|exact True.intro)
 refine outM_appO (i:=7) (j:=64) g4 (by simp[nats,stBy]) hP (by omega) (mo (by omega)) ?_
 intro b5 H5 l5 g5 x5
 rw[nats_app] at g5
 replace g5:H5[b5]?=some (.cells (nats .u8 (encB ⟨o,s,m,p⟩)) false (some 1)):=g5
 have hl5:(encB ⟨o,s,m,p⟩).length=71:=encB_len hf
 rw[enc]
 generalize encB ⟨o,s,m,p⟩=eb at *
 repeat (with_reducible first|(first|refine pI1 ?_|refine pS1 ?_);intros|refine pA1 ?_|refine pX1 ?_|refine pB1 ?_|exact True.intro)
 have hT5:H5[0]?=some nibB:=by simp (disch:=first|with_reducible assumption|omega) only [go_sem, *,reduceCtorEq,↓reduceIte,Nat.reduceLT,Nat.reduceBEq,Nat.reduceAdd,Nat.reduceSub,Nat.reduceMul,Nat.reduceDiv,Nat.reduceMod,Nat.reducePow,Nat.reduceEqDiff,Nat.reduceLeDiff,Int.reduceLT,Int.reduceLE,Int.reduceNeg,Int.reduceToNat,Int.reduceAdd,Int.reduceSub,Int.reduceMul,Int.reduceEq,Int.reduceNe,Int.reduceBEq,Int.reduceBNe,Int.reducePow]
 repeat (with_reducible first|(first|refine pI1 ?_|refine pS1 ?_);intros|refine pA1 ?_|refine pX1 ?_|refine pB1 ?_|exact True.intro)
 refine outM_call (s_Sum (l:=eb) hT5 (Sl.blk (k:=71) g5 (by rw[nats_len,hl5])) (by omega) (lt_gx henc)) ?_
 rintro _ _ ⟨rfl,rfl⟩
 have hmor:=mor_lt 0 eb
 repeat (with_reducible first|(first|refine pI1 ?_|refine pS1 ?_);intros|refine pA1 ?_|refine pX1 ?_|refine pB1 ?_|exact True.intro)
 rename_i b6 H6 l6 g6 x6
 simp only[List.reduceReplicate,List.set_cons_zero,List.set_cons_succ] at g6
 repeat (with_reducible first|(first|refine pI1 ?_|refine pS1 ?_);intros|refine pA1 ?_|refine pX1 ?_|refine pB1 ?_|exact True.intro)
 refine outM_appO (i:=71) (j:=4) (xs:=nats .u8 eb) zf (by rw[nats_len,hl5]) (Sl.blk (b:=b6) (cs:=nats .u8 (le4 (mor 0 eb))) (ro:=false) (g:=none) g6 (by rfl)) (by omega) (mo (by omega)) ?_
 intro b7 H7 l7 g7 x7
 rw[nats_app] at g7
 repeat (with_reducible first|(first|refine pI1 ?_|refine pS1 ?_);intros|refine pA1 ?_|refine pX1 ?_|refine pB1 ?_|exact True.intro)
 exact⟨_,rfl,by omega,by omega,g7,by omega,fun b hb=>by simp (disch:=first|with_reducible assumption|omega) only [go_sem, *,reduceCtorEq,↓reduceIte,Nat.reduceLT,Nat.reduceBEq,Nat.reduceAdd,Nat.reduceSub,Nat.reduceMul,Nat.reduceDiv,Nat.reduceMod,Nat.reducePow,Nat.reduceEqDiff,Nat.reduceLeDiff,Int.reduceLT,Int.reduceLE,Int.reduceNeg,Int.reduceToNat,Int.reduceAdd,Int.reduceSub,Int.reduceMul,Int.reduceEq,Int.reduceNe,Int.reduceBEq,Int.reduceBNe,Int.reducePow]⟩
end Go.Proofs.YtjcgdcadflplcaaDoor.AM.D21
namespace Go.Proofs.YtjcgdcadflplcaaDoor.AM.D21
open Go Go.Proofs.YtjcgdcadflplcaaDoor.AM Go.Proofs.YtjcgdcadflplcaaDoor.AM.P3
set_option maxHeartbeats 2000000
set_option maxRecDepth 100000
attribute [local go_sem] fr0C sub67 sub12 putP z64_len
theorem s_checked {H:Heap} {a:Option Ad} {n c:Nat} {o:Bool} {l:List Nat} {k:Nat} (hs:Sl H 1 a n (nats .u8 l)) (hn:n=75) (hk:k<4294967296):
  WC F fX13 [.c (.sl a n c o),.c (.int .u32 (k:Nat))] H fun v H'=>v=.c (.bool (decide (okS l k)))∧H'=H:=by
 subst hn
 refine WC_start eX13 (by simp) ?_
 unfold cX13
 have hlen:=hs.len
 rw[nats_len,Nat.mul_one] at hlen
 have hs_n:=hs.nil;have hs_l:=hs.lt0;have hs_a:=hs.at;have hs_0:=hs.at0
 by_cases c1:gx l 71=k % 256
 ·by_cases c2:gx l 72=k / 256 % 256
  ·by_cases c3:gx l 73=k / 65536 % 256
   ·repeat (with_reducible first|(first|refine pI1 ?_|refine pS1 ?_);intros|refine pA1 ?_|refine pX1 ?_|refine pB1 ?_|exact True.intro)
    have:okS l k↔gx l 74=k / 16777216:=by unfold okS;simp[c1,c2,c3]
    rw[dec_iff this]
    exact⟨rfl,rfl⟩
   ·have:¬okS l k:=fun h=>c3 h.2.2.1
    repeat (with_reducible first|(first|refine pI1 ?_|refine pS1 ?_);intros|refine pA1 ?_|refine pX1 ?_|refine pB1 ?_|exact True.intro)
    exact⟨by rw[dec_f this],rfl⟩
  ·have:¬okS l k:=fun h=>c2 h.2.1
   repeat (with_reducible first|(first|refine pI1 ?_|refine pS1 ?_);intros|refine pA1 ?_|refine pX1 ?_|refine pB1 ?_|exact True.intro)
   exact⟨by rw[dec_f this],rfl⟩
 ·have:¬okS l k:=fun h=>c1 h.1
  repeat (with_reducible first|(first|refine pI1 ?_|refine pS1 ?_);intros|refine pA1 ?_|refine pX1 ?_|refine pB1 ?_|exact True.intro)
  exact⟨by rw[dec_f this],rfl⟩
theorem num4 {l:List Nat} (h:4≤l.length):num (l.take 4)=((gx l 0 * 256+gx l 1) * 256+gx l 2) * 256+gx l 3:=by
 rw[take4 h];simp[num]
theorem num46 {l:List Nat} (h:6≤l.length):num ((l.drop 4).take 2)=gx l 4 * 256+gx l 5:=by
 rw[take46 h];simp[num]
theorem s_read {H:Heap} {a:Option Ad} {n c:Nat} {o:Bool} {l:List Nat} (hs:Sl H 1 a n (nats .u8 l)) (hc:n≤c) (hby:∀i,gx l i<256):
  WC F fX15 [.c (.sl a n c o)] H fun v H'=>v=.tup [.agg (frC ((tell l).getD fr0)),.c (.bool (tell l).isSome)]∧X1 H H':=by
 refine WC_start eX15 (by simp) ?_
 unfold cX15
 have hlen:=hs.len
 rw[nats_len,Nat.mul_one] at hlen
 have hs_n:=hs.nil;have hs_l:=hs.lt0;have hs_a:=hs.at;have hs_0:=hs.at0
 have hz:z64.length=64:=rfl
 by_cases c1:n=75
 ·subst c1
  by_cases c2:gx l 6<16
  ·by_cases c3:gx l 0≤127
   ·have ht:tell l=some ⟨gx l 6,((((gx l 0 * 256+gx l 1) * 256+gx l 2) * 256+gx l 3:Nat):Int),gx l 4 * 256+gx l 5,(l.drop 7).take 64⟩:=by
     rw[tell,if_pos ⟨hlen,c2,c3⟩]
    rw[ht]
    cases a with
    |none=>have:=hs_n rfl;omega
    |some ad=>
     simp only[oa_some] at hs_l hs_a hs_0
     repeat (with_reducible first|(first|refine pI1 ?_|refine pS1 ?_);intros|refine pA1 ?_|refine pX1 ?_|refine pB1 ?_|exact True.intro)
     rename_i b1 H1 l1 g1 x1
     have hs1:=hs.to (H':=H1) (fun b hb=>x1 b (by omega))
     have s4:Sl H1 1 (some ad) 4 (nats .u8 (l.take 4)):=by rw[←nats_take];exact hs1.first (by omega)
     have s46:Sl H1 1 (some (addA ad 4)) 2 (nats .u8 ((l.drop 4).take 2)):=by rw[←nats_take,←nats_drop];exact hs1.sub1 (l:=4) (h:=6) (by omega) (by omega)
     have s7:Sl H1 1 (some (addA ad 7)) 64 (nats .u8 ((l.drop 7).take 64)):=by rw[←nats_take,←nats_drop];exact hs1.sub1 (l:=7) (h:=71) (by omega) (by omega)
     repeat (with_reducible first|(first|refine pI1 ?_|refine pS1 ?_);intros|refine pA1 ?_|refine pX1 ?_|refine pB1 ?_|exact True.intro)
     refine outM_call (s_number s4 (by omega) (fun x hx=>gx_lt hby x (List.mem_of_mem_take hx))) ?_
     rw[num4 (by omega)]
     rintro _ H2 ⟨rfl,rfl⟩
     repeat (with_reducible first|(first|refine pI1 ?_|refine pS1 ?_);intros|refine pA1 ?_|refine pX1 ?_|refine pB1 ?_|exact True.intro)
     refine outM_call (s_number s46 (by omega) (fun x hx=>gx_lt hby x (List.mem_of_mem_drop (List.mem_of_mem_take hx)))) ?_
     rw[num46 (by omega)]
     rintro _ H3 ⟨rfl,rfl⟩
     have y4:=hby 4
     have y5:=hby 5
     have hq:((l.drop 7).take 64).length=64:=by simp;omega
     repeat (with_reducible first|(first|refine pI1 ?_|refine pS1 ?_);intros|refine pA1 ?_|refine pX1 ?_|refine pB1 ?_|exact True.intro)
     rename_i b4 H4 l4 g4 x4 H5 l5 g5 x5
     have s75:Sl H5 1 (some (addA ad 7)) 64 (nats .u8 ((l.drop 7).take 64)):=s7.to fun b hb=>by simp (disch:=first|with_reducible assumption|omega) only [go_sem, *,reduceCtorEq,↓reduceIte,Nat.reduceLT,Nat.reduceBEq,Nat.reduceAdd,Nat.reduceSub,Nat.reduceMul,Nat.reduceDiv,Nat.reduceMod,Nat.reducePow,Nat.reduceEqDiff,Nat.reduceLeDiff,Int.reduceLT,Int.reduceLE,Int.reduceNeg,Int.reduceToNat,Int.reduceAdd,Int.reduceSub,Int.reduceMul,Int.reduceEq,Int.reduceNe,Int.reduceBEq,Int.reduceBNe,Int.reducePow]
     repeat (with_reducible first|(first|refine pI1 ?_|refine pS1 ?_);intros|refine pA1 ?_|refine pX1 ?_|refine pB1 ?_|exact True.intro)
     refine outM_cpy (i:=64) (k₂:=64) g5 s75 rfl (by omega) (by simp[nats_len,hz]) ?_
     intro H6 l6 g6 x6
     rw[putP _ _ _ (by rw[hq,hz])] at g6
     repeat (with_reducible first|(first|refine pI1 ?_|refine pS1 ?_);intros|refine pA1 ?_|refine pX1 ?_|refine pB1 ?_|exact True.intro)
     exact⟨rfl,by omega,fun b hb=>by simp (disch:=first|with_reducible assumption|omega) only [go_sem, *,reduceCtorEq,↓reduceIte,Nat.reduceLT,Nat.reduceBEq,Nat.reduceAdd,Nat.reduceSub,Nat.reduceMul,Nat.reduceDiv,Nat.reduceMod,Nat.reducePow,Nat.reduceEqDiff,Nat.reduceLeDiff,Int.reduceLT,Int.reduceLE,Int.reduceNeg,Int.reduceToNat,Int.reduceAdd,Int.reduceSub,Int.reduceMul,Int.reduceEq,Int.reduceNe,Int.reduceBEq,Int.reduceBNe,Int.reducePow]⟩
   ·have ht:tell l=none:=by rw[tell,if_neg (fun h=>c3 h.2.2)]
    rw[ht]
    repeat (with_reducible first|(first|refine pI1 ?_|refine pS1 ?_);intros|refine pA1 ?_|refine pX1 ?_|refine pB1 ?_|exact True.intro)
    exact⟨rfl,by omega,fun b hb=>by simp (disch:=first|with_reducible assumption|omega) only [go_sem, *,reduceCtorEq,↓reduceIte,Nat.reduceLT,Nat.reduceBEq,Nat.reduceAdd,Nat.reduceSub,Nat.reduceMul,Nat.reduceDiv,Nat.reduceMod,Nat.reducePow,Nat.reduceEqDiff,Nat.reduceLeDiff,Int.reduceLT,Int.reduceLE,Int.reduceNeg,Int.reduceToNat,Int.reduceAdd,Int.reduceSub,Int.reduceMul,Int.reduceEq,Int.reduceNe,Int.reduceBEq,Int.reduceBNe,Int.reducePow]⟩
  ·have ht:tell l=none:=by rw[tell,if_neg (fun h=>c2 h.2.1)]
   rw[ht]
   repeat (with_reducible first|(first|refine pI1 ?_|refine pS1 ?_);intros|refine pA1 ?_|refine pX1 ?_|refine pB1 ?_|exact True.intro)
   exact⟨rfl,by omega,fun b hb=>by simp (disch:=first|with_reducible assumption|omega) only [go_sem, *,reduceCtorEq,↓reduceIte,Nat.reduceLT,Nat.reduceBEq,Nat.reduceAdd,Nat.reduceSub,Nat.reduceMul,Nat.reduceDiv,Nat.reduceMod,Nat.reducePow,Nat.reduceEqDiff,Nat.reduceLeDiff,Int.reduceLT,Int.reduceLE,Int.reduceNeg,Int.reduceToNat,Int.reduceAdd,Int.reduceSub,Int.reduceMul,Int.reduceEq,Int.reduceNe,Int.reduceBEq,Int.reduceBNe,Int.reducePow]⟩
 ·have ht:tell l=none:=by rw[tell,if_neg (fun h=>c1 (by omega))]
  rw[ht]
  repeat (with_reducible first|(first|refine pI1 ?_|refine pS1 ?_);intros|refine pA1 ?_|refine pX1 ?_|refine pB1 ?_|exact True.intro)
  exact⟨rfl,by omega,fun b hb=>by simp (disch:=first|with_reducible assumption|omega) only [go_sem, *,reduceCtorEq,↓reduceIte,Nat.reduceLT,Nat.reduceBEq,Nat.reduceAdd,Nat.reduceSub,Nat.reduceMul,Nat.reduceDiv,Nat.reduceMod,Nat.reducePow,Nat.reduceEqDiff,Nat.reduceLeDiff,Int.reduceLT,Int.reduceLE,Int.reduceNeg,Int.reduceToNat,Int.reduceAdd,Int.reduceSub,Int.reduceMul,Int.reduceEq,Int.reduceNe,Int.reduceBEq,Int.reduceBNe,Int.reducePow]⟩
def part (q:List Nat) (k:Nat):List Nat:=q.take k++List.replicate (64-k) 0
end Go.Proofs.YtjcgdcadflplcaaDoor.AM.D21
namespace Go.Proofs.YtjcgdcadflplcaaDoor.AM.D21
open Go Go.Proofs.YtjcgdcadflplcaaDoor.AM Go.Proofs.YtjcgdcadflplcaaDoor.AM.P3
set_option maxHeartbeats 2000000
set_option maxRecDepth 100000
attribute [local go_sem] fr0C sub67 sub12 sub02 putP z64_len
theorem tell_some {l:List Nat} {f:Fm} (h:tell l=some f):l.length=75∧f.p.length=64:=by
 unfold tell at h
 split at h
 ·rename_i c;cases h;refine⟨c.1,?_⟩;simp[c.1]
 ·cases h
theorem s_Accept {H:Heap} {a:Option Ad} {n c:Nat} {o:Bool} {l:List Nat} {by_ slot:Int} {mem:Nat} (hT:H[0]?=some nibB) (hs:Sl H 1 a n (nats .u8 l)) (hc:n≤c) (hby:∀i,gx l i<256) (hm:mem<65536):
  WC F fXy [.c (.sl a n c o),.c (.int .i64 by_),.agg [.int .i64 slot,.int .u16 (mem:Nat)]] H fun v H'=>v=.tup [.agg (frC (acc l by_ slot mem).1),.c (.int .i64 (acc l by_ slot mem).2)]∧X1 H H':=by
 refine WC_start eXy (by simp) ?_
 unfold cXy
 have hz:z64.length=64:=rfl
 have h0:=lt_of_get hT
 have hlen:=hs.len
 rw[nats_len,Nat.mul_one] at hlen
 repeat (with_reducible first|(first|refine pI1 ?_|refine pS1 ?_);intros|refine pA1 ?_|refine pX1 ?_|refine pB1 ?_|exact True.intro)
 rename_i b0 H0 l0 g0 x0 b1 H1 l1 g1 x1
 repeat (with_reducible first|(first|refine pI1 ?_|refine pS1 ?_);intros|refine pA1 ?_|refine pX1 ?_|refine pB1 ?_|exact True.intro)
 refine outM_call (s_read (l:=l) (hs.to fun b hb=>by simp (disch:=first|with_reducible assumption|omega) only [go_sem, *,reduceCtorEq,↓reduceIte,Nat.reduceLT,Nat.reduceBEq,Nat.reduceAdd,Nat.reduceSub,Nat.reduceMul,Nat.reduceDiv,Nat.reduceMod,Nat.reducePow,Nat.reduceEqDiff,Nat.reduceLeDiff,Int.reduceLT,Int.reduceLE,Int.reduceNeg,Int.reduceToNat,Int.reduceAdd,Int.reduceSub,Int.reduceMul,Int.reduceEq,Int.reduceNe,Int.reduceBEq,Int.reduceBNe,Int.reducePow]) hc hby) ?_
 rintro _ H2 ⟨rfl,l2,x2⟩
 cases ht:tell l with
 |none=>
  simp only[Option.getD_none,Option.isSome_none]
  repeat (with_reducible first|(first|refine pI1 ?_|refine pS1 ?_);intros|refine pA1 ?_|refine pX1 ?_|refine pB1 ?_|exact True.intro)
  have e:acc l by_ slot mem=(fr0,30):=by simp only[acc,ht]
  rw[e]
  exact⟨rfl,by omega,fun b hb=>by simp (disch:=first|with_reducible assumption|omega) only [go_sem, *,reduceCtorEq,↓reduceIte,Nat.reduceLT,Nat.reduceBEq,Nat.reduceAdd,Nat.reduceSub,Nat.reduceMul,Nat.reduceDiv,Nat.reduceMod,Nat.reducePow,Nat.reduceEqDiff,Nat.reduceLeDiff,Int.reduceLT,Int.reduceLE,Int.reduceNeg,Int.reduceToNat,Int.reduceAdd,Int.reduceSub,Int.reduceMul,Int.reduceEq,Int.reduceNe,Int.reduceBEq,Int.reduceBNe,Int.reducePow]⟩
 |some f=>
  obtain⟨h75,hp⟩:=tell_some ht
  obtain rfl:n=75:=by omega
  obtain⟨fo,fs,fm,p⟩:=f
  replace hp:p.length=64:=hp
  obtain⟨ad,rfl⟩:∃ad,a=some ad:=by
   cases a with
   |none=>have:=hs.nil rfl;omega
   |some ad=>exact⟨ad,rfl⟩
  simp only[Option.getD_some,Option.isSome_some]
  repeat (with_reducible first|(first|refine pI1 ?_|refine pS1 ?_);intros|refine pA1 ?_|refine pX1 ?_|refine pB1 ?_|exact True.intro)
  rename_i b3 H3 l3 g3 x3 H4 l4 g4 x4
  repeat (with_reducible first|(first|refine pI1 ?_|refine pS1 ?_);intros|refine pA1 ?_|refine pX1 ?_|refine pB1 ?_|exact True.intro)
  refine outM_call (s_state hm) ?_
  rintro _ H5 ⟨b5,rfl,hb5,hb5',g5,l5,x5⟩
  repeat (with_reducible first|(first|refine pI1 ?_|refine pS1 ?_);intros|refine pA1 ?_|refine pX1 ?_|refine pB1 ?_|exact True.intro)
  refine outM_call (s_Sum (l:=stBy slot mem) zf (Sl.blk (k:=6) g5 (by rfl)) (by omega) (lt_gx (stBy_by _ _ hm))) ?_
  rintro _ H6 ⟨rfl,rfl⟩
  have hs6:Sl H6 1 (some ad) 75 (nats .u8 l):=hs.to fun b hb=>by simp (disch:=first|with_reducible assumption|omega) only [go_sem, *,reduceCtorEq,↓reduceIte,Nat.reduceLT,Nat.reduceBEq,Nat.reduceAdd,Nat.reduceSub,Nat.reduceMul,Nat.reduceDiv,Nat.reduceMod,Nat.reducePow,Nat.reduceEqDiff,Nat.reduceLeDiff,Int.reduceLT,Int.reduceLE,Int.reduceNeg,Int.reduceToNat,Int.reduceAdd,Int.reduceSub,Int.reduceMul,Int.reduceEq,Int.reduceNe,Int.reduceBEq,Int.reduceBNe,Int.reducePow]
  have s65:Sl H6 1 (some (addA ad 6)) 65 (nats .u8 ((l.drop 6).take 65)):=by rw[←nats_take,←nats_drop];exact hs6.sub1 (l:=6) (h:=71) (by omega) (by omega)
  repeat (with_reducible first|(first|refine pI1 ?_|refine pS1 ?_);intros|refine pA1 ?_|refine pX1 ?_|refine pB1 ?_|exact True.intro)
  refine outM_call (s_More (n0:=mor 0 (stBy slot mem)) (l:=(l.drop 6).take 65) zf s65 (by omega) (lt_gx fun x hx=>gx_lt hby x (List.mem_of_mem_drop (List.mem_of_mem_take hx)))) ?_
  rintro _ H7 ⟨rfl,rfl⟩
  repeat (with_reducible first|(first|refine pI1 ?_|refine pS1 ?_);intros|refine pA1 ?_|refine pX1 ?_|refine pB1 ?_|exact True.intro)
  refine outM_call (s_checked (k:=mor (mor 0 (stBy slot mem)) ((l.drop 6).take 65)) hs6 rfl (mor_lt _ _)) ?_
  rintro _ H8 ⟨rfl,rfl⟩
  by_cases hk:okS l (mor (mor 0 (stBy slot mem)) ((l.drop 6).take 65))
  ·by_cases c1:fo=by_
   ·subst c1
    by_cases c2:fs=slot∧fm=mem
    ·have e:acc l fo slot mem=(⟨fo,fs,fm,p⟩,0):=by simp only[acc,ht,if_pos hk];rw[if_pos ⟨trivial,c2⟩]
     have eq1:eqCs [.int,.int] [Cell.int .i64 fs,.int .u16 (fm:Nat)] [Cell.int .i64 slot,.int .u16 (mem:Nat)]=some true:=by simp[eqCs,c2.1,c2.2]
     rw[e]
     clear c2
     repeat (with_reducible first|(first|refine pI1 ?_|refine pS1 ?_);intros|refine pA1 ?_|refine pX1 ?_|refine pB1 ?_|exact True.intro)
     exact⟨rfl,by omega,fun b hb=>by simp (disch:=first|with_reducible assumption|omega) only [go_sem, *,reduceCtorEq,↓reduceIte,Nat.reduceLT,Nat.reduceBEq,Nat.reduceAdd,Nat.reduceSub,Nat.reduceMul,Nat.reduceDiv,Nat.reduceMod,Nat.reducePow,Nat.reduceEqDiff,Nat.reduceLeDiff,Int.reduceLT,Int.reduceLE,Int.reduceNeg,Int.reduceToNat,Int.reduceAdd,Int.reduceSub,Int.reduceMul,Int.reduceEq,Int.reduceNe,Int.reduceBEq,Int.reduceBNe,Int.reducePow]⟩
    ·have e:acc l fo slot mem=(fr0,30):=by simp only[acc,ht,if_pos hk];rw[if_neg (fun h=>c2 h.2)]
     have eq1:eqCs [.int,.int] [Cell.int .i64 fs,.int .u16 (fm:Nat)] [Cell.int .i64 slot,.int .u16 (mem:Nat)]=some false:=by
      by_cases h1:fs=slot
      ·have:¬((fm:Int)=(mem:Int)):=fun h=>c2 ⟨h1,by omega⟩
       simp[eqCs,h1];omega
      ·simp[eqCs,h1]
     rw[e]
     clear c2
     repeat (with_reducible first|(first|refine pI1 ?_|refine pS1 ?_);intros|refine pA1 ?_|refine pX1 ?_|refine pB1 ?_|exact True.intro)
     exact⟨rfl,by omega,fun b hb=>by simp (disch:=first|with_reducible assumption|omega) only [go_sem, *,reduceCtorEq,↓reduceIte,Nat.reduceLT,Nat.reduceBEq,Nat.reduceAdd,Nat.reduceSub,Nat.reduceMul,Nat.reduceDiv,Nat.reduceMod,Nat.reducePow,Nat.reduceEqDiff,Nat.reduceLeDiff,Int.reduceLT,Int.reduceLE,Int.reduceNeg,Int.reduceToNat,Int.reduceAdd,Int.reduceSub,Int.reduceMul,Int.reduceEq,Int.reduceNe,Int.reduceBEq,Int.reduceBNe,Int.reducePow]⟩
   ·have e:acc l by_ slot mem=(fr0,30):=by simp only[acc,ht,if_pos hk];rw[if_neg (fun h=>c1 h.1)]
    rw[e]
    repeat (with_reducible first|(first|refine pI1 ?_|refine pS1 ?_);intros|refine pA1 ?_|refine pX1 ?_|refine pB1 ?_|exact True.intro)
    exact⟨rfl,by omega,fun b hb=>by simp (disch:=first|with_reducible assumption|omega) only [go_sem, *,reduceCtorEq,↓reduceIte,Nat.reduceLT,Nat.reduceBEq,Nat.reduceAdd,Nat.reduceSub,Nat.reduceMul,Nat.reduceDiv,Nat.reduceMod,Nat.reducePow,Nat.reduceEqDiff,Nat.reduceLeDiff,Int.reduceLT,Int.reduceLE,Int.reduceNeg,Int.reduceToNat,Int.reduceAdd,Int.reduceSub,Int.reduceMul,Int.reduceEq,Int.reduceNe,Int.reduceBEq,Int.reduceBNe,Int.reducePow]⟩
  ·have e:acc l by_ slot mem=(fr0,31):=by simp only[acc,ht,if_neg hk]
   rw[e]
   repeat (with_reducible first|(first|refine pI1 ?_|refine pS1 ?_);intros|refine pA1 ?_|refine pX1 ?_|refine pB1 ?_|exact True.intro)
   exact⟨rfl,by omega,fun b hb=>by simp (disch:=first|with_reducible assumption|omega) only [go_sem, *,reduceCtorEq,↓reduceIte,Nat.reduceLT,Nat.reduceBEq,Nat.reduceAdd,Nat.reduceSub,Nat.reduceMul,Nat.reduceDiv,Nat.reduceMod,Nat.reducePow,Nat.reduceEqDiff,Nat.reduceLeDiff,Int.reduceLT,Int.reduceLE,Int.reduceNeg,Int.reduceToNat,Int.reduceAdd,Int.reduceSub,Int.reduceMul,Int.reduceEq,Int.reduceNe,Int.reduceBEq,Int.reduceBNe,Int.reducePow]⟩
end Go.Proofs.YtjcgdcadflplcaaDoor.AM.D21
namespace Go.Proofs.YtjcgdcadflplcaaDoor.AM.D21
open Go Go.Proofs.YtjcgdcadflplcaaDoor.AM Go.Proofs.YtjcgdcadflplcaaDoor.AM.C02
set_option maxHeartbeats 2000000
set_option maxRecDepth 100000
attribute [local go_sem] tn_add1 tn_sub1 put_all' nums_len aop_mn aop_mx mnO_int mxO_int
theorem kF:ExtKeep F:=ExtKeep.funsX fun f g h=>by
 unfold X at h
 split at h
 ·cases h;exact fun args H v H' e=>loadX_keep e
 split at h
 ·cases h;exact fun args H v H' e=>addX_keep e
 cases h
theorem s_within {H:Heap} {n lo hi:Int}:WC F fXp [.c (.int .i64 n),.c (.int .i64 lo),.c (.int .i64 hi)] H fun v H'=>v=.c (.bool (decide (lo≤n∧n≤hi)))∧H'=H:=by
 refine WC_start eXp (by simp) ?_
 unfold cXp
 by_cases h1:lo≤n
 ·by_cases h2:n≤hi
  ·repeat (with_reducible first|(first|refine pI1 ?_|refine pS1 ?_);intros|refine pA1 ?_|refine pX1 ?_|refine pB1 ?_|exact True.intro)
   exact⟨by rw[decide_eq_true (by omega)],rfl⟩
  ·repeat (with_reducible first|(first|refine pI1 ?_|refine pS1 ?_);intros|refine pA1 ?_|refine pX1 ?_|refine pB1 ?_|exact True.intro)
   exact⟨by rw[decide_eq_false (by omega)],rfl⟩
 ·repeat (with_reducible first|(first|refine pI1 ?_|refine pS1 ?_);intros|refine pA1 ?_|refine pX1 ?_|refine pB1 ?_|exact True.intro)
  exact⟨by rw[decide_eq_false (by omega)],rfl⟩
theorem s_meet {H:Heap} {a b c d:Int}:WC F fXh [.c (.int .i64 a),.c (.int .i64 b),.c (.int .i64 c),.c (.int .i64 d)] H fun v H'=>v=.c (.bool (dB (Cfg.meets a b c d)))∧H'=H:=by
 refine WC_start eXh (by simp) ?_
 unfold cXh
 have e1:(if c > a then c else a)=max a c:=by split<;>omega
 have e2:(if d<b then d else b)=min b d:=by split<;>omega
 by_cases h:max a c<min b d
 ·have h':dB (Cfg.meets a b c d)=true:=dB_t h
  repeat (with_reducible first|(first|refine pI1 ?_|refine pS1 ?_);intros|refine pA1 ?_|refine pX1 ?_|refine pB1 ?_|exact True.intro)
  exact⟨by rw[h'],rfl⟩
 ·have h':dB (Cfg.meets a b c d)=false:=dB_f h
  repeat (with_reducible first|(first|refine pI1 ?_|refine pS1 ?_);intros|refine pA1 ?_|refine pX1 ?_|refine pB1 ?_|exact True.intro)
  exact⟨by rw[h'],rfl⟩
theorem s_Index {H:Heap} {n c:Nat} {a:Option Ad} {o:Bool} {ws:List Int} {x:Int} (hn:n≤1000000) (hl:ws.length=n) (hs:Sl H 1 a n (nums ws)):
  WC F fX1h [.c (.sl a n c o),.c (.int .i64 x)] H fun v H'=>((∃i:Nat,v=.c (.int .i64 (i:Nat))∧i<n∧gn ws i=x∧∀j,j<i→gn ws j≠x)∨(v=.c (.int .i64 (-1))∧x ∉ ws))∧H'=H:=by
 refine WC_start eX1h (by simp) ?_
 unfold cX1h
 have fin0:=zhd1 hs
 clear hs
 repeat (with_reducible first|(first|refine pI1 ?_|refine pS1 ?_);intros|refine pA1 ?_|refine pX1 ?_|refine pB1 ?_|exact True.intro)
 refine W_loop (fun m st=>∃ρ i,st=⟨L 19 ρ,[],H⟩∧m=n-i∧i≤n∧ρ 0=.c (.sl a n c o)∧ρ 1=.c (.int .i64 x)∧ρ 7=.c (.int .i64 (n:Nat))∧ρ 8=.c (.int .i64 (i:Nat))∧∀j,j<i→gn ws j≠x) n ⟨_,0,rfl,by omega,by omega,zf,zf,zf,zf,fun j hj=>by omega⟩ ?_
 rintro m st ⟨ρ,i,rfl,rfl,hi,e0,e1,e7,e8,hno⟩
 unfold bX1h_7
 have fin1:=zhd1 hno
 clear hno
 by_cases hin:i<n
 ·refine fin0 _ fun hs=>?_
  obtain⟨⟨lb,y⟩,rfl⟩:=hs.is_some (by omega)
  have hld:=Sl.gn hs hl hin
  dsimp only at hld
  have hxt:(i:Int)<(n:Int):=by omega
  clear hs
  generalize hgv:gn ws i=u at *
  by_cases h1:x=u
  ·have fin2:=zhd1 hgv
   clear hgv
   subst h1
   repeat (with_reducible first|(first|refine pI1 ?_|refine pS1 ?_);intros|refine pA1 ?_|refine pX1 ?_|refine pB1 ?_|exact True.intro)
   exact⟨.inl ⟨i,rfl,hin,fin2 _ fun h=>h,fin1 _ fun h=>h⟩,rfl⟩
  ·have fin2:=zhd1 hgv
   clear hgv
   repeat (with_reducible first|(first|refine pI1 ?_|refine pS1 ?_);intros|refine pA1 ?_|refine pX1 ?_|refine pB1 ?_|exact True.intro)
   exact loopQ_n (n-(i+1)) (by omega) ⟨_,i+1,rfl,rfl,by omega,zf,zf,zf,zf,fun j hj=>by
    by_cases e:j=i
    ·subst e;exact fin2 _ fun h=>by rw[h];exact fun e=>h1 e.symm
    ·exact fin1 _ fun h=>h j (by omega)⟩
 ·obtain rfl:i=n:=by omega
  have hxt:¬(i:Int)<(i:Int):=by omega
  clear fin0
  repeat (with_reducible first|(first|refine pI1 ?_|refine pS1 ?_);intros|refine pA1 ?_|refine pX1 ?_|refine pB1 ?_|exact True.intro)
  exact⟨.inr ⟨rfl,fun hx=>by
   obtain⟨j,hj,e⟩:=gn_of hx
   exact fin1 _ fun h=>h j (by omega) e⟩,rfl⟩
theorem s_Contains {H:Heap} {n c:Nat} {a:Option Ad} {o:Bool} {ws:List Int} {x:Int} (hn:n≤1000000) (hl:ws.length=n) (hs:Sl H 1 a n (nums ws)):
  WC F fX1f [.c (.sl a n c o),.c (.int .i64 x)] H fun v H'=>v=.c (.bool (decide (x∈ws)))∧H'=H:=by
 refine WC_start eX1f (by simp) ?_
 unfold cX1f
 have hI:=s_Index (c:=c) (o:=o) (x:=x) hn hl hs
 clear hs
 repeat (with_reducible first|(first|refine pI1 ?_|refine pS1 ?_);intros|refine pA1 ?_|refine pX1 ?_|refine pB1 ?_|exact True.intro)
 refine outM_call hI ?_
 clear hI
 rintro v _ ⟨⟨i,rfl,h1,h2,-⟩|⟨rfl,h1⟩,rfl⟩
 ·have hm:x∈ws:=by rw[←h2];exact gn_mem (by omega)
  clear h2
  repeat (with_reducible first|(first|refine pI1 ?_|refine pS1 ?_);intros|refine pA1 ?_|refine pX1 ?_|refine pB1 ?_|exact True.intro)
  exact⟨by rw[decide_eq_true hm],rfl⟩
 ·repeat (with_reducible first|(first|refine pI1 ?_|refine pS1 ?_);intros|refine pA1 ?_|refine pX1 ?_|refine pB1 ?_|exact True.intro)
  exact⟨by rw[decide_eq_false h1],rfl⟩
theorem s_cnodes {N:Nat} {H:Heap} {c:Cfg} {h:Hd} (hc:CfgM N H c h) (hN:N≤H.length):WC F fXi [.agg (c.cells h)] H fun v H'=>v=.c (.bool (dB c.okNodes))∧Xt H H':=by
 unfold Cfg.cells
 refine WC_start eXi (by simp) ?_
 unfold cXi
 have ho:=hc.owners
 obtain⟨n,hn⟩:∃n,n=c.owners.length:=⟨_,rfl⟩
 rw[←hn] at ho ⊢
 have hlt:∀b x,h.a1=some (b,x)→b<H.length:=fun b x e=>by have:=hc.ownersN b x e;omega
 have hnodes:c.nodes=c.nodes:=rfl
 generalize hnd:c.nodes=nd at *
 have hok:c.okNodes↔(4≤nd∧nd≤16∧(n:Int)=nd∧∀k:Nat,(k:Int)<nd→(k:Int)∈c.owners):=by unfold Cfg.okNodes;rw[hnd,hn]
 rw[dB_iff hok]
 clear hok hnodes hnd hc
 generalize c.owners=ws at *
 have fin0:=zhd2 ho hn
 clear ho hn
 repeat (with_reducible first|(first|refine pI1 ?_|refine pS1 ?_);intros|refine pA1 ?_|refine pX1 ?_|refine pB1 ?_|exact True.intro)
 rename_i b1 H1 p1 g1 x1
 refine outM_call s_within ?_
 rintro _ H1 ⟨rfl,rfl⟩
 by_cases h1:4≤nd∧nd≤16
 ·by_cases h2:(n:Int)=nd
  ·obtain⟨h3,h4⟩:=h1
   repeat (with_reducible first|(first|refine pI1 ?_|refine pS1 ?_);intros|refine pA1 ?_|refine pX1 ?_|refine pB1 ?_|exact True.intro)
   refine W_loop (fun m st=>∃ρ i,st=⟨L 27 ρ,[],H1⟩∧m=n-i∧i≤n∧ρ 1=.c (.ptr (some (b1,0)))∧ρ 17=.c (.int .i64 nd)∧ρ 18=.c (.int .i64 (i:Nat))∧∀k:Nat,k<i→(k:Int)∈ws) n ⟨_,0,rfl,by omega,by omega,zf,zf,zf,fun j hj=>by omega⟩ ?_
   rintro m st ⟨ρ,i,rfl,rfl,hi,e1,e17,e18,hall⟩
   unfold bXi_9
   have fin1:=zhd1 hall
   clear hall
   by_cases hin:i<n
   ·have hxt:(i:Int)<nd:=by omega
    have hC:=fin0 _ fun ho hn=>s_Contains (H:=H1) (c:=h.c1) (o:=h.o1) (x:=(i:Nat)) (by omega) hn.symm (ho.keep fun b x e=>x1 b (by have:=hlt b x e;omega))
    clear hlt
    repeat (with_reducible first|(first|refine pI1 ?_|refine pS1 ?_);intros|refine pA1 ?_|refine pX1 ?_|refine pB1 ?_|exact True.intro)
    refine outM_call hC ?_
    clear hC
    rintro _ H1 ⟨rfl,rfl⟩
    by_cases hm:(i:Int)∈ws
    ·repeat (with_reducible first|(first|refine pI1 ?_|refine pS1 ?_);intros|refine pA1 ?_|refine pX1 ?_|refine pB1 ?_|exact True.intro)
     exact loopQ_n (n-(i+1)) (by omega) ⟨_,i+1,rfl,rfl,by omega,zf,zf,zf,fun j hj=>by
      by_cases e:j=i
      ·subst e;exact hm
      ·exact fin1 _ fun h=>h j (by omega)⟩
    ·repeat (with_reducible first|(first|refine pI1 ?_|refine pS1 ?_);intros|refine pA1 ?_|refine pX1 ?_|refine pB1 ?_|exact True.intro)
     exact⟨by rw[dB_f (fun h=>hm (h.2.2.2 i hxt))],by omega,fun b hb=>x1 b (by omega)⟩
   ·have hxt:¬(i:Int)<nd:=by omega
    clear hlt
    repeat (with_reducible first|(first|refine pI1 ?_|refine pS1 ?_);intros|refine pA1 ?_|refine pX1 ?_|refine pB1 ?_|exact True.intro)
    exact⟨by rw[dB_t ⟨h3,h4,h2,fun k hk=>fin1 _ fun h=>h k (by omega)⟩],by omega,fun b hb=>x1 b (by omega)⟩
  ·obtain⟨h3,h4⟩:=h1
   clear hlt
   repeat (with_reducible first|(first|refine pI1 ?_|refine pS1 ?_);intros|refine pA1 ?_|refine pX1 ?_|refine pB1 ?_|exact True.intro)
   exact⟨by rw[dB_f (fun h=>h2 h.2.2.1)],by omega,fun b hb=>x1 b (by omega)⟩
 ·clear hlt
  repeat (with_reducible first|(first|refine pI1 ?_|refine pS1 ?_);intros|refine pA1 ?_|refine pX1 ?_|refine pB1 ?_|exact True.intro)
  exact⟨by rw[dB_f (fun h=>h1 ⟨h.1,h.2.1⟩)],by omega,fun b hb=>x1 b (by omega)⟩
end Go.Proofs.YtjcgdcadflplcaaDoor.AM.D21
namespace Go.Proofs.YtjcgdcadflplcaaDoor.AM.D21
open Go Go.Proofs.YtjcgdcadflplcaaDoor.AM Go.Proofs.YtjcgdcadflplcaaDoor.AM.C02
set_option maxHeartbeats 2000000
set_option maxRecDepth 100000
attribute [local go_sem] tn_add1 tn_sub1 put_all' nums_len aop_mn aop_mx mnO_int mxO_int
theorem s_Precision {H:Heap} {c:Cfg} {h:Hd} (h1:0≤c.drift∧c.drift≤1048576) (h2:0≤c.reading∧c.reading≤1048576):WC F fXd [.agg (c.cells h)] H fun v H'=>v=.c (.int .i64 c.prec)∧Xt H H':=by
 unfold Cfg.cells Cfg.prec
 generalize c.drift=d at *
 generalize c.reading=r at *
 obtain⟨h3,h4⟩:=h1
 obtain⟨h5,h6⟩:=h2
 refine WC_start eXd (by simp) ?_
 unfold cXd
 repeat (with_reducible first|(first|refine pI1 ?_|refine pS1 ?_);intros|refine pA1 ?_|refine pX1 ?_|refine pB1 ?_|exact True.intro)
 rename_i b1 H1 p1 g1 x1
 repeat (with_reducible first|(first|refine pI1 ?_|refine pS1 ?_);intros|refine pA1 ?_|refine pX1 ?_|refine pB1 ?_|exact True.intro)
 exact⟨rfl,by omega,fun b hb=>x1 b (by omega)⟩
theorem sub12 (a b c d e f g h i j k l:Cell):sub [a,b,c,d,e,f,g,h,i,j,k,l] 0 12=some [a,b,c,d,e,f,g,h,i,j,k,l]:=rfl
attribute [local go_sem] sub12
theorem s_cclocks {H:Heap} {c:Cfg} {h:Hd}:WC F fXe [.agg (c.cells h)] H fun v H'=>v=.c (.bool (dB c.okClock))∧Xt H H':=by
 have hP:∀Hx:Heap,(0≤c.drift∧c.drift≤1048576)→(0≤c.reading∧c.reading≤1048576)→_:=fun Hx h1 h2=>s_Precision (H:=Hx) (c:=c) (h:=h) h1 h2
 have hpr:c.prec=2 * (c.drift+c.reading)+1:=rfl
 have hok:c.okClock↔(0≤c.drift∧c.drift≤1048576∧0≤c.reading∧c.reading≤1048576∧2 * c.prec+c.reading≤c.margin∧c.margin≤16777216∧2 * c.prec+c.reading≤c.bound∧c.bound≤16777216∧1≤c.rejoin∧c.rejoin≤8∧1≤c.quota∧c.quota≤16):=Iff.rfl
 rw[dB_iff hok]
 clear hok
 unfold Cfg.cells at *
 generalize c.prec=p at *
 generalize c.drift=d at *
 generalize c.reading=r at *
 generalize c.margin=m at *
 generalize c.bound=bo at *
 generalize c.rejoin=rj at *
 generalize c.quota=q at *
 refine WC_start eXe (by simp) ?_
 unfold cXe
 repeat (with_reducible first|(first|refine pI1 ?_|refine pS1 ?_);intros|refine pA1 ?_|refine pX1 ?_|refine pB1 ?_|exact True.intro)
 rename_i b1 H1 p1 g1 x1
 refine outM_call s_within ?_
 rintro _ H1 ⟨rfl,rfl⟩
 by_cases h1:0≤d∧d≤1048576
 case neg=>
  clear hP
  repeat (with_reducible first|(first|refine pI1 ?_|refine pS1 ?_);intros|refine pA1 ?_|refine pX1 ?_|refine pB1 ?_|exact True.intro)
  exact⟨by rw[dB_f (by omega)],by omega,fun b hb=>x1 b (by omega)⟩
 have hP:=fun Hx=>hP Hx h1
 obtain⟨d1,d2⟩:=h1
 repeat (with_reducible first|(first|refine pI1 ?_|refine pS1 ?_);intros|refine pA1 ?_|refine pX1 ?_|refine pB1 ?_|exact True.intro)
 refine outM_call s_within ?_
 rintro _ H1 ⟨rfl,rfl⟩
 by_cases h1:0≤r∧r≤1048576
 case neg=>
  clear hP
  repeat (with_reducible first|(first|refine pI1 ?_|refine pS1 ?_);intros|refine pA1 ?_|refine pX1 ?_|refine pB1 ?_|exact True.intro)
  exact⟨by rw[dB_f (by omega)],by omega,fun b hb=>x1 b (by omega)⟩
 have hP:=hP H1 h1
 obtain⟨r1,r2⟩:=h1
 have fin1:=zhd1 hpr
 have hpb:1≤p∧p≤4194305:=by omega
 obtain⟨p1,p2⟩:=hpb
 clear hpr
 repeat (with_reducible first|(first|refine pI1 ?_|refine pS1 ?_);intros|refine pA1 ?_|refine pX1 ?_|refine pB1 ?_|exact True.intro)
 refine outM_call hP ?_
 clear hP
 rintro _ H2 ⟨rfl,l2,x2⟩
 have g2:H2[b1]?=_:=(x2 b1 (by omega)).trans g1
 have y2:∀b,b<H.length→H2[b]?=H[b]?:=fun b hb=>by rw[x2 b (by omega),x1 b (by omega)]
 clear x1 x2 g1
 repeat (with_reducible first|(first|refine pI1 ?_|refine pS1 ?_);intros|refine pA1 ?_|refine pX1 ?_|refine pB1 ?_|exact True.intro)
 refine outM_call s_within ?_
 rintro _ H2 ⟨rfl,rfl⟩
 by_cases h1:2 * p+r≤m∧m≤16777216
 case neg=>
  repeat (with_reducible first|(first|refine pI1 ?_|refine pS1 ?_);intros|refine pA1 ?_|refine pX1 ?_|refine pB1 ?_|exact True.intro)
  exact⟨by rw[dB_f (by omega)],by omega,y2⟩
 obtain⟨m1,m2⟩:=h1
 repeat (with_reducible first|(first|refine pI1 ?_|refine pS1 ?_);intros|refine pA1 ?_|refine pX1 ?_|refine pB1 ?_|exact True.intro)
 refine outM_call s_within ?_
 rintro _ H2 ⟨rfl,rfl⟩
 by_cases h1:2 * p+r≤bo∧bo≤16777216
 case neg=>
  repeat (with_reducible first|(first|refine pI1 ?_|refine pS1 ?_);intros|refine pA1 ?_|refine pX1 ?_|refine pB1 ?_|exact True.intro)
  exact⟨by rw[dB_f (by omega)],by omega,y2⟩
 obtain⟨o1,o2⟩:=h1
 repeat (with_reducible first|(first|refine pI1 ?_|refine pS1 ?_);intros|refine pA1 ?_|refine pX1 ?_|refine pB1 ?_|exact True.intro)
 refine outM_call s_within ?_
 rintro _ H2 ⟨rfl,rfl⟩
 by_cases h1:1≤rj∧rj≤8
 case neg=>
  repeat (with_reducible first|(first|refine pI1 ?_|refine pS1 ?_);intros|refine pA1 ?_|refine pX1 ?_|refine pB1 ?_|exact True.intro)
  exact⟨by rw[dB_f (by omega)],by omega,y2⟩
 obtain⟨j1,j2⟩:=h1
 repeat (with_reducible first|(first|refine pI1 ?_|refine pS1 ?_);intros|refine pA1 ?_|refine pX1 ?_|refine pB1 ?_|exact True.intro)
 refine outM_call s_within ?_
 rintro _ H2 ⟨rfl,rfl⟩
 by_cases h1:1≤q∧q≤16
 case neg=>
  repeat (with_reducible first|(first|refine pI1 ?_|refine pS1 ?_);intros|refine pA1 ?_|refine pX1 ?_|refine pB1 ?_|exact True.intro)
  exact⟨by rw[dB_f (by omega)],by omega,y2⟩
 obtain⟨q1,q2⟩:=h1
 repeat (with_reducible first|(first|refine pI1 ?_|refine pS1 ?_);intros|refine pA1 ?_|refine pX1 ?_|refine pB1 ?_|exact True.intro)
 exact⟨by rw[dB_t ⟨d1,d2,r1,r2,m1,m2,o1,o2,j1,j2,q1,q2⟩],by omega,y2⟩
def up (k i:Nat):List (Nat × Nat):=(List.range (k-i)).map fun j=>(i+j,k)
def rest (n k:Nat):List (Nat × Nat):=(List.range (n-k)).flatMap fun d=>up (k+d) 0
theorem up_cons {k i:Nat} (h:i<k):up k i=(i,k) :: up k (i+1):=by
 unfold up
 obtain⟨m,hm⟩:∃m,k-i=m+1:=⟨k-i-1,by omega⟩
 rw[hm,show k-(i+1)=m by omega,List.range_succ_eq_map,List.map_cons,List.map_map]
 congr 1
 apply List.map_congr_left
 intro j _
 simp[Function.comp];omega
theorem up_nil {k i:Nat} (h:k≤i):up k i=[]:=by unfold up;rw[show k-i=0 by omega];rfl
theorem rest_cons {n k:Nat} (h:k<n):rest n k=up k 0++rest n (k+1):=by
 unfold rest
 obtain⟨m,hm⟩:∃m,n-k=m+1:=⟨n-k-1,by omega⟩
 rw[hm,show n-(k+1)=m by omega,List.range_succ_eq_map,List.flatMap_cons,List.flatMap_map]
 congr 1
 apply congrArg (fun f=>List.flatMap f (List.range m))
 funext j
 simp[Function.comp]
 congr 1;omega
theorem rest_nil {n k:Nat} (h:n≤k):rest n k=[]:=by unfold rest;rw[show n-k=0 by omega];rfl
theorem rest_mem {n i k:Nat} (h1:i<k) (h2:k<n):(i,k)∈rest n 0:=by
 unfold rest
 rw[List.mem_flatMap]
 refine⟨k,List.mem_range.2 (by omega),?_⟩
 unfold up
 rw[List.mem_map]
 exact⟨i,List.mem_range.2 (by omega),by simp⟩
theorem rest_is {n i k:Nat} (h:(i,k)∈rest n 0):i<k∧k<n:=by
 unfold rest at h
 rw[List.mem_flatMap] at h
 obtain⟨d,hd,h⟩:=h
 unfold up at h
 rw[List.mem_map] at h
 obtain⟨j,hj,e⟩:=h
 rw[List.mem_range] at hd hj
 simp at e
 omega
def enp (p:Nat × Nat):List V:=[.c (.int .i64 (p.1:Nat)),.c (.int .i64 (p.2:Nat))]
theorem s_pairs {H:Heap} {x:Cell}:WC F fXj [.c x] H fun v H'=>∃b,v=.c (.fn fXk [] [(b,0)])∧H.length≤b∧b<H'.length∧H'[b]?=some (.cells [x] false none)∧Xt H H':=by
 refine WC_start eXj (by simp) ?_
 unfold cXj
 repeat (with_reducible first|(first|refine pI1 ?_|refine pS1 ?_);intros|refine pA1 ?_|refine pX1 ?_|refine pB1 ?_|exact True.intro)
 rename_i b1 H1 p1 g1 x1
 repeat (with_reducible first|(first|refine pI1 ?_|refine pS1 ?_);intros|refine pA1 ?_|refine pX1 ?_|refine pB1 ?_|exact True.intro)
 exact⟨b1,rfl,by omega,by omega,g1,by omega,fun b hb=>by simp (disch:=first|with_reducible assumption|omega) only [go_sem, *,reduceCtorEq,↓reduceIte,Nat.reduceLT,Nat.reduceBEq,Nat.reduceAdd,Nat.reduceSub,Nat.reduceMul,Nat.reduceDiv,Nat.reduceMod,Nat.reducePow,Nat.reduceEqDiff,Nat.reduceLeDiff,Int.reduceLT,Int.reduceLE,Int.reduceNeg,Int.reduceToNat,Int.reduceAdd,Int.reduceSub,Int.reduceMul,Int.reduceEq,Int.reduceNe,Int.reduceBEq,Int.reduceBNe,Int.reducePow]⟩
theorem it_pairs {b n:Nat} (M:Nat→Prop) (hn:n≤100000):IterM F fXk [] [(b,0)] M (fun H=>H[b]?=some (.cells [.int .i64 (n:Nat)] false none)) ((rest n 0).map enp):=by
 intro l H J E hP hM hlt hJ hE hr h0 hfin
 refine WC_start eXk (by simp) ?_
 unfold cXk
 have fin0:=zhd3 hr h0 hfin
 clear hJ hE hr h0 hfin
 repeat (with_reducible first|(first|refine pI1 ?_|refine pS1 ?_);intros|refine pA1 ?_|refine pX1 ?_|refine pB1 ?_|exact True.intro)
 refine fin0 _ fun _ h0 _=>?_
 refine W_loop (fun m st=>∃ρ k Hk,st=⟨L 20 ρ,[],Hk⟩∧m=n-k∧k≤n∧ρ 0=.c (.yld l)∧ρ 5=.c (.int .i64 (n:Nat))∧ρ 6=.c (.int .i64 (k:Nat))∧J ((rest n k).map enp) Hk) n ⟨_,0,H,rfl,rfl,by omega,zf,zf,zf,h0⟩ ?_
 clear h0
 rintro m st ⟨ρ,k,Hk,rfl,rfl,hk,z0,z5,z6,hJk⟩
 unfold bXk_10
 by_cases hkn:k<n
 ·have hxt:(k:Int)<(n:Int):=by omega
  rw[rest_cons hkn,List.map_append] at hJk
  have fin1:=zhd1 hJk
  clear hJk
  repeat (with_reducible first|(first|refine pI1 ?_|refine pS1 ?_);intros|refine pA1 ?_|refine pX1 ?_|refine pB1 ?_|exact True.intro)
  refine fin1 _ fun hJk=>?_
  refine W_loop (fun m st=>∃ρ i Hk,st=⟨L 20 ρ,[],Hk⟩∧m=k-i∧i≤k∧ρ 0=.c (.yld l)∧ρ 3=.c (.int .i64 (k:Nat))∧ρ 5=.c (.int .i64 (n:Nat))∧ρ 6=.c (.int .i64 (k:Nat))∧ρ 9=.c (.int .i64 (k:Nat))∧ρ 10=.c (.int .i64 (i:Nat))∧J ((up k i).map enp++(rest n (k+1)).map enp) Hk) k ⟨_,0,Hk,rfl,rfl,by omega,zf,zf,zf,zf,zf,zf,hJk⟩ ?_
  clear hJk fin1 z0 z5 z6
  rintro m st ⟨ρ,i,Hk,rfl,rfl,hi,z0,z3,z5,z6,z9,z10,hJk⟩
  unfold bXk_8
  by_cases hik:i<k
  ·have hxt2:(i:Int)<(k:Int):=by omega
   rw[up_cons hik,List.map_cons,List.cons_append] at hJk
   have hw:=fin0 _ fun hr _ _=>hr _ _ _ hJk
   clear hJk
   repeat (with_reducible first|(first|refine pI1 ?_|refine pS1 ?_);intros|refine pA1 ?_|refine pX1 ?_|refine pB1 ?_|exact True.intro)
   refine outM_yld hw ?_
   clear hw
   rintro v H' ⟨u1,u2,⟨rfl,u3⟩|⟨rfl,u3⟩⟩
   ·clear u1
    repeat (with_reducible first|(first|refine pI1 ?_|refine pS1 ?_);intros|refine pA1 ?_|refine pX1 ?_|refine pB1 ?_|exact True.intro)
    exact loopQ_n (k-(i+1)) (by omega) ⟨_,i+1,H',rfl,rfl,by omega,zf,zf,zf,zf,zf,zf,u3⟩
   ·clear u1
    repeat (with_reducible first|(first|refine pI1 ?_|refine pS1 ?_);intros|refine pA1 ?_|refine pX1 ?_|refine pB1 ?_|exact True.intro)
    exact u3
  ·obtain rfl:i=k:=by omega
   have hxt2:¬(i:Int)<(i:Int):=by omega
   rw[up_nil (Nat.le_refl _),List.map_nil,List.nil_append] at hJk
   have fin1:=zhd1 hJk
   clear hJk
   repeat (with_reducible first|(first|refine pI1 ?_|refine pS1 ?_);intros|refine pA1 ?_|refine pX1 ?_|refine pB1 ?_|exact True.intro)
   exact loopQ_n (n-(i+1)) (by omega) ⟨_,i+1,Hk,rfl,rfl,by omega,zf,zf,zf,fin1 _ fun h=>h⟩
 ·obtain rfl:k=n:=by omega
  have hxt:¬(k:Int)<(k:Int):=by omega
  rw[rest_nil (Nat.le_refl _),List.map_nil] at hJk
  have hend:=fin0 _ fun _ _ hfin=>hfin _ hJk
  clear hJk fin0
  repeat (with_reducible first|(first|refine pI1 ?_|refine pS1 ?_);intros|refine pA1 ?_|refine pX1 ?_|refine pB1 ?_|exact True.intro)
  exact hend
end Go.Proofs.YtjcgdcadflplcaaDoor.AM.D21
namespace Go.Proofs.YtjcgdcadflplcaaDoor.AM.D21
open Go Go.Proofs.YtjcgdcadflplcaaDoor.AM Go.Proofs.YtjcgdcadflplcaaDoor.AM.C02
set_option maxHeartbeats 2000000
set_option maxRecDepth 100000
attribute [local go_sem] tn_add1 tn_sub1 put_all' nums_len aop_mn aop_mx mnO_int mxO_int sub12
theorem part_at {N:Nat} {H:Heap} {c:Cfg} {h:Hd} (hc:CfgM N H c h) {i:Nat} (hi:i<c.parts.length):∃la y,h.a8=some (la,y)∧la<N∧ldnB H[la]? (y+i * 3) 3=some (c.part (i:Nat)).cells∧c.part (i:Nat)∈c.parts:=by
 obtain⟨⟨la,y⟩,cs,e1,e2,e3,e4,-⟩:=hc.parts.at hi
 have e:c.part (i:Nat)=c.parts[i]:=by simp[Cfg.part,hi]
 rw[e]
 exact⟨la,y,e1,e2,by rw[←e4];exact e3,List.getElem_mem hi⟩
theorem part_of {c:Cfg} {p:Pa} (h:p∈c.parts):∃i,i<c.parts.length∧c.part (i:Nat)=p:=by
 obtain⟨i,hi,rfl⟩:=List.mem_iff_getElem.1 h
 exact⟨i,hi,by simp[Cfg.part,hi]⟩
theorem sub3 (a b c:Cell):sub [a,b,c] 0 3=some [a,b,c]:=rfl
attribute [local go_sem] sub3
theorem s_cparts {N:Nat} {H:Heap} {c:Cfg} {h:Hd} (hc:CfgM N H c h) (hN:N≤H.length) (hnd:4≤c.nodes∧c.nodes≤16):WC F fXl [.agg (c.cells h)] H fun v H'=>v=.c (.bool (dB c.okParts))∧Xt H H':=by
 refine WC_start eXl (by simp) ?_
 unfold cXl Cfg.cells
 obtain⟨n,hn⟩:∃n,c.parts.length=n:=⟨_,rfl⟩
 rw[hn]
 obtain⟨n1,n2⟩:=hnd
 have fin0:=zhd2 hc hn
 clear hc
 repeat (with_reducible first|(first|refine pI1 ?_|refine pS1 ?_);intros|refine pA1 ?_|refine pX1 ?_|refine pB1 ?_|exact True.intro)
 rename_i b1 H1 p1 g1 x1 b2 H2 p2 g2 x2
 by_cases hbig:32<(n:Int)
 ·repeat (with_reducible first|(first|refine pI1 ?_|refine pS1 ?_);intros|refine pA1 ?_|refine pX1 ?_|refine pB1 ?_|exact True.intro)
  rename_i H3 l3 g3 x3
  repeat (with_reducible first|(first|refine pI1 ?_|refine pS1 ?_);intros|refine pA1 ?_|refine pX1 ?_|refine pB1 ?_|exact True.intro)
  exact⟨by rw[dB_f (fun h=>by have:=h.1;omega)],by omega,fun b hb=>by simp (disch:=first|with_reducible assumption|omega) only [go_sem, *,reduceCtorEq,↓reduceIte,Nat.reduceLT,Nat.reduceBEq,Nat.reduceAdd,Nat.reduceSub,Nat.reduceMul,Nat.reduceDiv,Nat.reduceMod,Nat.reducePow,Nat.reduceEqDiff,Nat.reduceLeDiff,Int.reduceLT,Int.reduceLE,Int.reduceNeg,Int.reduceToNat,Int.reduceAdd,Int.reduceSub,Int.reduceMul,Int.reduceEq,Int.reduceNe,Int.reduceBEq,Int.reduceBNe,Int.reducePow]⟩
 have g1':H2[b1]?=_:=(x2 b1 (by omega)).trans g1
 have y2:∀b,b<H.length→H2[b]?=H[b]?:=fun b hb=>by rw[x2 b (by omega),x1 b (by omega)]
 have fy2:=zhd1 y2
 clear x1 x2 g1 y2
 repeat (with_reducible first|(first|refine pI1 ?_|refine pS1 ?_);intros|refine pA1 ?_|refine pX1 ?_|refine pB1 ?_|exact True.intro)
 refine W_loop (fun m st=>∃ρ i Hk,st=⟨L 73 ρ,[],Hk⟩∧m=n-i∧i≤n∧ρ 1=.c (.ptr (some (b1,0)))∧ρ 2=.c (.ptr (some (b2,0)))∧ρ 14=.c (.sl h.a8 n h.c8 h.o8)∧ρ 15=.c (.int .i64 (n:Nat))∧ρ 16=.c (.int .i64 (i:Nat))∧(∀d,d<H2.length→Hk[d]?=H2[d]?)∧H2.length≤Hk.length∧∀j,j<i→c.okPart (c.part (j:Nat))) n ⟨_,0,H2,rfl,rfl,by omega,zf,zf,zf,zf,zf,fun _ _=>rfl,Nat.le_refl _,fun j hj=>by omega⟩ ?_
 rintro m st ⟨ρ,i,Hk,rfl,rfl,hi,e1,e2,e14,e15,e16,xk,lk,hall⟩
 unfold bXl_9
 have fin1:=zhd1 hall
 clear hall
 by_cases hin:i<n
 ·have hxt:(i:Int)<(n:Int):=by omega
  obtain⟨la,y,ea,hla,hld,hmem⟩:=fin0 _ fun hc hn=>part_at hc (i:=i) (by omega)
  have k1:Hk[b1]?=_:=(xk b1 (by omega)).trans g1'
  have k2:Hk[b2]?=_:=(xk b2 (by omega)).trans g2
  have yk:∀b,b<H.length→Hk[b]?=H[b]?:=fun b hb=>(xk b (by omega)).trans (fy2 _ fun y2=>y2 b hb)
  rw[←yk la (by omega)] at hld
  have fx:=zhd2 xk yk
  clear xk yk
  have hokp:c.okPart (c.part (i:Nat))↔(0≤(c.part (i:Nat)).node∧(c.part (i:Nat)).node≤c.nodes-1∧0≤(c.part (i:Nat)).lo∧(c.part (i:Nat)).lo≤(c.part (i:Nat)).hi∧(c.part (i:Nat)).hi≤256):=Iff.rfl
  have hnot:¬c.okPart (c.part (i:Nat))→dB c.okParts=false:=fun h=>dB_f fun h'=>h (h'.2.1 _ hmem)
  have hnext:c.okPart (c.part (i:Nat))→∀j,j<i+1→c.okPart (c.part (j:Nat)):=fun h j hj=>by
   by_cases e:j=i
   ·subst e;exact h
   ·exact fin1 _ fun h=>h j (by omega)
  generalize c.okPart (c.part (i:Nat))=P at *
  generalize c.part (i:Nat)=p at *
  obtain⟨nd,lo,hi_⟩:=p
  dsimp only [Pa.cells] at hld hokp
  have fin2:=zhd2 hnot hnext
  clear hnot hnext hmem
  rw[ea] at e14
  have fea:=zhd1 ea
  clear ea
  by_cases h1:0≤nd∧nd≤c.nodes-1
  case neg=>
   have hP:¬P:=fun h=>h1 (by have:=hokp.1 h;omega)
   clear hokp fin1
   repeat (with_reducible first|(first|refine pI1 ?_|refine pS1 ?_);intros|refine pA1 ?_|refine pX1 ?_|refine pB1 ?_|exact True.intro)
   rename_i b3 H3 p3 g3 x3 H4 l4 g4 x4
   have y4:∀b,b<H.length→H4[b]?=H[b]?:=fun b hb=>by rw[x4 b (by omega),x3 b (by omega)];exact fx _ fun _ yk=>yk b hb
   have k14:H4[b1]?=_:=(x4 b1 (by omega)).trans ((x3 b1 (by omega)).trans k1)
   have k24:H4[b2]?=_:=(x4 b2 (by omega)).trans ((x3 b2 (by omega)).trans k2)
   have fy4:=zhd1 y4
   clear x3 x4 k1 k2 g3 y4
   repeat (with_reducible first|(first|refine pI1 ?_|refine pS1 ?_);intros|refine pA1 ?_|refine pX1 ?_|refine pB1 ?_|exact True.intro)
   refine outM_call s_within ?_
   rintro _ H4 ⟨rfl,rfl⟩
   repeat (with_reducible first|(first|refine pI1 ?_|refine pS1 ?_);intros|refine pA1 ?_|refine pX1 ?_|refine pB1 ?_|exact True.intro)
   rename_i H5 l5 g5 x5
   repeat (with_reducible first|(first|refine pI1 ?_|refine pS1 ?_);intros|refine pA1 ?_|refine pX1 ?_|refine pB1 ?_|exact True.intro)
   exact⟨by rw[fin2 _ fun hn _=>hn hP],by omega,fun b hb=>by rw[x5 b (by omega)];exact fy4 _ fun y4=>y4 b hb⟩
  obtain⟨a1,a2⟩:=h1
  by_cases h1:0≤lo∧lo≤hi_
  case neg=>
   have hP:¬P:=fun h=>h1 (by have:=hokp.1 h;omega)
   clear hokp fin1
   repeat (with_reducible first|(first|refine pI1 ?_|refine pS1 ?_);intros|refine pA1 ?_|refine pX1 ?_|refine pB1 ?_|exact True.intro)
   rename_i b3 H3 p3 g3 x3 H4 l4 g4 x4
   have y4:∀b,b<H.length→H4[b]?=H[b]?:=fun b hb=>by rw[x4 b (by omega),x3 b (by omega)];exact fx _ fun _ yk=>yk b hb
   have k14:H4[b1]?=_:=(x4 b1 (by omega)).trans ((x3 b1 (by omega)).trans k1)
   have k24:H4[b2]?=_:=(x4 b2 (by omega)).trans ((x3 b2 (by omega)).trans k2)
   have fy4:=zhd1 y4
   clear x3 x4 k1 k2 g3 y4
   repeat (with_reducible first|(first|refine pI1 ?_|refine pS1 ?_);intros|refine pA1 ?_|refine pX1 ?_|refine pB1 ?_|exact True.intro)
   refine outM_call s_within ?_
   rintro _ H4 ⟨rfl,rfl⟩
   repeat (with_reducible first|(first|refine pI1 ?_|refine pS1 ?_);intros|refine pA1 ?_|refine pX1 ?_|refine pB1 ?_|exact True.intro)
   refine outM_call s_within ?_
   rintro _ H4 ⟨rfl,rfl⟩
   repeat (with_reducible first|(first|refine pI1 ?_|refine pS1 ?_);intros|refine pA1 ?_|refine pX1 ?_|refine pB1 ?_|exact True.intro)
   rename_i H5 l5 g5 x5
   repeat (with_reducible first|(first|refine pI1 ?_|refine pS1 ?_);intros|refine pA1 ?_|refine pX1 ?_|refine pB1 ?_|exact True.intro)
   exact⟨by rw[fin2 _ fun hn _=>hn hP],by omega,fun b hb=>by rw[x5 b (by omega)];exact fy4 _ fun y4=>y4 b hb⟩
  obtain⟨a3,a4⟩:=h1
  have fin3:=zhd1 hokp
  clear hokp fin1
  repeat (with_reducible first|(first|refine pI1 ?_|refine pS1 ?_);intros|refine pA1 ?_|refine pX1 ?_|refine pB1 ?_|exact True.intro)
  rename_i b3 H3 p3 g3 x3 H4 l4 g4 x4
  have y4:∀b,b<H.length→H4[b]?=H[b]?:=fun b hb=>by rw[x4 b (by omega),x3 b (by omega)];exact fx _ fun _ yk=>yk b hb
  have z4:∀b,b<H2.length→H4[b]?=H2[b]?:=fun b hb=>by rw[x4 b (by omega),x3 b (by omega)];exact fx _ fun xk _=>xk b hb
  have k14:H4[b1]?=_:=(x4 b1 (by omega)).trans ((x3 b1 (by omega)).trans k1)
  have k24:H4[b2]?=_:=(x4 b2 (by omega)).trans ((x3 b2 (by omega)).trans k2)
  have fin4:=zhd1 z4
  have fy4:=zhd1 y4
  clear x3 x4 k1 k2 g3 z4 y4
  repeat (with_reducible first|(first|refine pI1 ?_|refine pS1 ?_);intros|refine pA1 ?_|refine pX1 ?_|refine pB1 ?_|exact True.intro)
  refine outM_call s_within ?_
  rintro _ H4 ⟨rfl,rfl⟩
  repeat (with_reducible first|(first|refine pI1 ?_|refine pS1 ?_);intros|refine pA1 ?_|refine pX1 ?_|refine pB1 ?_|exact True.intro)
  refine outM_call s_within ?_
  rintro _ H4 ⟨rfl,rfl⟩
  by_cases h1:256<hi_
  ·have hP:¬P:=fun h=>fin3 _ fun hokp=>by have:=hokp.1 h;omega
   clear fin3
   repeat (with_reducible first|(first|refine pI1 ?_|refine pS1 ?_);intros|refine pA1 ?_|refine pX1 ?_|refine pB1 ?_|exact True.intro)
   rename_i H5 l5 g5 x5
   repeat (with_reducible first|(first|refine pI1 ?_|refine pS1 ?_);intros|refine pA1 ?_|refine pX1 ?_|refine pB1 ?_|exact True.intro)
   exact⟨by rw[fin2 _ fun hn _=>hn hP],by omega,fun b hb=>by rw[x5 b (by omega)];exact fy4 _ fun y4=>y4 b hb⟩
  ·have hP:P:=fin3 _ fun hokp=>hokp.2 (by omega)
   clear fin3
   repeat (with_reducible first|(first|refine pI1 ?_|refine pS1 ?_);intros|refine pA1 ?_|refine pX1 ?_|refine pB1 ?_|exact True.intro)
   exact loopQ_n (n-(i+1)) (by omega) ⟨_,i+1,H4,rfl,rfl,by omega,zf,zf,by rw[fea _ fun e=>e];simp (disch:=first|with_reducible assumption|omega) only [go_sem, *,reduceCtorEq,↓reduceIte,Nat.reduceLT,Nat.reduceBEq,Nat.reduceAdd,Nat.reduceSub,Nat.reduceMul,Nat.reduceDiv,Nat.reduceMod,Nat.reducePow,Nat.reduceEqDiff,Nat.reduceLeDiff,Int.reduceLT,Int.reduceLE,Int.reduceNeg,Int.reduceToNat,Int.reduceAdd,Int.reduceSub,Int.reduceMul,Int.reduceEq,Int.reduceNe,Int.reduceBEq,Int.reduceBNe,Int.reducePow];first|done|rfl,zf,zf,fin4 _ fun h=>h,by omega,fin2 _ fun _ h=>h hP⟩
 ·obtain rfl:i=n:=by omega
  have hxt:¬(i:Int)<(i:Int):=by omega
  have k1:Hk[b1]?=_:=(xk b1 (by omega)).trans g1'
  have k2:Hk[b2]?=_:=(xk b2 (by omega)).trans g2
  have yk:∀b,b<H.length→Hk[b]?=H[b]?:=fun b hb=>(xk b (by omega)).trans (fy2 _ fun y2=>y2 b hb)
  have fyk:=zhd1 yk
  clear xk g1' g2 yk
  repeat (with_reducible first|(first|refine pI1 ?_|refine pS1 ?_);intros|refine pA1 ?_|refine pX1 ?_|refine pB1 ?_|exact True.intro)
  refine outM_call s_pairs ?_
  rintro _ H3 ⟨b3,rfl,q3,r3,g3,l3,x3⟩
  have k13:H3[b1]?=_:=(x3 b1 (by omega)).trans k1
  have k23:H3[b2]?=_:=(x3 b2 (by omega)).trans k2
  have y3:∀b,b<H.length→H3[b]?=H[b]?:=fun b hb=>(x3 b (by omega)).trans (fyk _ fun yk=>yk b hb)
  have fy3:=zhd1 y3
  clear x3 k1 k2 y3 fyk
  repeat (with_reducible first|(first|refine pI1 ?_|refine pS1 ?_);intros|refine pA1 ?_|refine pX1 ?_|refine pB1 ?_|exact True.intro)
  unfold aXl_16
  refine W_rangeM (F:=F) (enc:=enp) (xs:=rest i 0) kF zf (it_pairs (fun d=>d=b2) (by omega))
   (fun d r Hx=>Hx[b1]?=H3[b1]?∧Hx[b2]?=H3[b2]?∧(∀b,b<H.length→Hx[b]?=H[b]?)∧∀p∈d,c.apartP p.1 p.2)
   (fun e Hx=>e=.ret∧Hx[b2]?=some (.cells [.bool false] false none)∧(∀b,b<H.length→Hx[b]?=H[b]?)∧¬c.okParts)
   (fun J=>get_app' J g3) (fun b hb=>by omega) (fun _=>rfl) ?_ ?_ ?_ ?_ ?_ ?_
  ·rintro d r H7 H8 ⟨w1,w2,w3,w4⟩ l7 l8 x8
   exact⟨(x8 b1 (by omega) (by omega)).trans w1,(x8 b2 (by omega) (by omega)).trans w2,fun b hb=>(x8 b (by omega) (by omega)).trans (w3 b hb),w4⟩
  ·rintro e H7 H8 ⟨w1,w2,w3,w4⟩ l7 l8 x8
   exact⟨w1,(x8 b2 (by omega) (by omega)).trans w2,fun b hb=>(x8 b (by omega) (by omega)).trans (w3 b hb),w4⟩
  ·intro H7 l7 x7
   exact⟨x7 b1 (by omega),x7 b2 (by omega),fun b hb=>(x7 b (by omega)).trans (fy3 _ fun y3=>y3 b hb),fun p hp=>by simp at hp⟩
  ·intro d p r Ha hd
   obtain⟨j,k⟩:=p
   obtain⟨hjk,hkn⟩:=rest_is (show (j,k)∈rest i 0 by rw[hd];simp)
   simp only[enp,List.zip_cons_cons,List.zip_nil_left,List.foldl_cons,List.foldl_nil,L_set]
   obtain⟨la,y,ea,hla,hld,-⟩:=fin0 _ fun hc hn=>part_at hc (i:=j) (by omega)
   obtain⟨la',y',ea',hla',hld',-⟩:=fin0 _ fun hc hn=>part_at hc (i:=k) (by omega)
   rw[ea] at ea'
   injection ea' with ea'
   injection ea' with ea1 ea2
   subst ea1 ea2
   have hnp:¬c.apartP j k→¬c.okParts:=fun h h'=>h (h'.2.2 j k hjk (fin0 _ fun _ hn=>by omega))
   have hap:c.apartP j k↔¬((c.part (j:Nat)).node=(c.part (k:Nat)).node∧Cfg.meets (c.part (j:Nat)).lo (c.part (j:Nat)).hi (c.part (k:Nat)).lo (c.part (k:Nat)).hi):=Iff.rfl
   have hnext:c.apartP j k→(∀p∈d,c.apartP p.1 p.2)→∀p∈d++[(j,k)],c.apartP p.1 p.2:=fun h h' p hp=>by
    rcases List.mem_append.1 hp with hp|hp
    ·exact h' p hp
    ·obtain rfl:p=(j,k):=by simpa using hp
     exact h
   clear hd fin1
   generalize c.apartP j k=P at *
   generalize c.part (j:Nat)=p at *
   generalize c.part (k:Nat)=q at *
   obtain⟨pn,pl,ph⟩:=p
   obtain⟨qn,ql,qh⟩:=q
   dsimp only [Pa.cells] at hld hld' hap
   have fin2:=zhd3 hnp hnext hap
   clear hnp hnext hap
   repeat (with_reducible first|(first|refine pI1 ?_|refine pS1 ?_);intros|refine pA1 ?_|refine pX1 ?_|refine pB1 ?_|exact True.intro)
   refine⟨rfl,rfl,rfl,?_⟩
   rintro H7 ⟨w1,w2,w3,w4⟩ hll l7
   have fw:=zhd2 w1 w2
   rw[←w3 la (by omega)] at hld hld'
   rw[k13] at w1
   rw[k23] at w2
   have fin3:=zhd2 w3 w4
   clear w3 w4
   unfold bXl_17
   rw[ea] at w1
   clear ea k13 k23
   by_cases hne:pn=qn
   case neg=>
    have hP:P:=fin2 _ fun _ _ hap=>hap.2 fun h=>hne h.1
    repeat (with_reducible first|(first|refine pI1 ?_|refine pS1 ?_);intros|refine pA1 ?_|refine pX1 ?_|refine pB1 ?_|exact True.intro)
    rename_i b8 H8 p8 g8 x8 b9 H9 p9 g9 x9 H10 l10 g10 x10 H11 l11 g11 x11
    have z:∀b,b<H7.length→H11[b]?=H7[b]?:=fun b hb=>by rw[x11 b (by omega),x10 b (by omega),x9 b (by omega),x8 b (by omega)]
    have fz:=zhd1 z
    have gp:=(x11 b8 (by omega)).trans g10
    clear x8 x9 x10 x11 z g8 g9 g10
    repeat (with_reducible first|(first|refine pI1 ?_|refine pS1 ?_);intros|refine pA1 ?_|refine pX1 ?_|refine pB1 ?_|exact True.intro)
    refine fz _ fun z=>?_
    exact turnQ_n (by omega) (z _ (by omega)) (fun b hb=>z b hb.1) ⟨(z b1 (by omega)).trans (fw _ fun w _=>w),(z b2 (by omega)).trans (fw _ fun _ w=>w),fun b hb=>(z b (by omega)).trans (fin3 _ fun w3 _=>w3 b hb),fin3 _ fun _ w4=>fin2 _ fun _ hnext _=>hnext hP w4⟩
   subst hne
   repeat (with_reducible first|(first|refine pI1 ?_|refine pS1 ?_);intros|refine pA1 ?_|refine pX1 ?_|refine pB1 ?_|exact True.intro)
   rename_i b8 H8 p8 g8 x8 b9 H9 p9 g9 x9 H10 l10 g10 x10 H11 l11 g11 x11
   have z:∀b,b<H7.length→H11[b]?=H7[b]?:=fun b hb=>by rw[x11 b (by omega),x10 b (by omega),x9 b (by omega),x8 b (by omega)]
   have fz:=zhd1 z
   have gp:=(x11 b8 (by omega)).trans g10
   have w2':=(z b2 (by omega)).trans w2
   clear x8 x9 x10 x11 z g8 g9 g10
   repeat (with_reducible first|(first|refine pI1 ?_|refine pS1 ?_);intros|refine pA1 ?_|refine pX1 ?_|refine pB1 ?_|exact True.intro)
   refine outM_call s_meet ?_
   rintro _ H11 ⟨rfl,rfl⟩
   by_cases hm:Cfg.meets pl ph ql qh
   ·have hP:¬P:=fun h=>fin2 _ fun _ _ hap=>hap.1 h ⟨rfl,hm⟩
    rw[dB_t hm]
    repeat (with_reducible first|(first|refine pI1 ?_|refine pS1 ?_);intros|refine pA1 ?_|refine pX1 ?_|refine pB1 ?_|exact True.intro)
    rename_i H12 l12 g12 x12
    refine fz _ fun z=>?_
    exact turnQ_r (by omega) (by rw[x12 _ (by omega)];exact z _ (by omega)) (fun b hb=>by rw[x12 b hb.2.1];exact z b hb.1) ⟨rfl,g12,fun b hb=>by rw[x12 b (by omega),z b (by omega)];exact fin3 _ fun w3 _=>w3 b hb,fin2 _ fun hnp _ _=>hnp hP⟩
   ·have hP:P:=fin2 _ fun _ _ hap=>hap.2 fun h=>hm h.2
    rw[dB_f hm]
    repeat (with_reducible first|(first|refine pI1 ?_|refine pS1 ?_);intros|refine pA1 ?_|refine pX1 ?_|refine pB1 ?_|exact True.intro)
    refine fz _ fun z=>?_
    exact turnQ_n (by omega) (z _ (by omega)) (fun b hb=>z b hb.1) ⟨(z b1 (by omega)).trans (fw _ fun w _=>w),(z b2 (by omega)).trans (fw _ fun _ w=>w),fun b hb=>(z b (by omega)).trans (fin3 _ fun w3 _=>w3 b hb),fin3 _ fun _ w4=>fin2 _ fun _ hnext _=>hnext hP w4⟩
  ·rintro H7 ⟨w1,w2,w3,w4⟩ hd l7
   rw[k13] at w1
   rw[k23] at w2
   have fin3:=zhd2 w3 w4
   clear w3 w4 k13 k23
   repeat (with_reducible first|(first|refine pI1 ?_|refine pS1 ?_);intros|refine pA1 ?_|refine pX1 ?_|refine pB1 ?_|exact True.intro)
   rename_i H8 l8 g8 x8
   have hd8:H8[H3.length]?=some .defd:=by rw[x8 _ (by omega)];exact hd
   have fy8:∀b,b<H.length→H8[b]?=H[b]?:=fun b hb=>by rw[x8 b (by omega)];exact fin3 _ fun w3 _=>w3 b hb
   have fy8:=zhd1 fy8
   clear x8
   refine callQ_1 hd8 fun H9 l9 x9=>?_
   have g9:H9[b2]?=_:=(x9 b2 (by omega)).trans g8
   have y9:∀b,b<H.length→H9[b]?=H[b]?:=fun b hb=>(x9 b (by omega)).trans (fy8 _ fun y8=>y8 b hb)
   have fy9:=zhd1 y9
   clear x9 g8 y9
   repeat (with_reducible first|(first|refine pI1 ?_|refine pS1 ?_);intros|refine pA1 ?_|refine pX1 ?_|refine pB1 ?_|exact True.intro)
   have hT:c.okParts:=by
    refine⟨fin0 _ fun _ hn=>by omega,fun p hp=>?_,fun j k h1 h2=>?_⟩
    ·obtain⟨j,hj,rfl⟩:=part_of hp
     exact fin1 _ fun h=>h j (fin0 _ fun _ hn=>by omega)
    ·exact fin3 _ fun _ w4=>w4 (j,k) (rest_mem h1 (fin0 _ fun _ hn=>by omega))
   exact⟨by rw[dB_t hT],by omega,fy9 _ fun h=>h⟩
  ·rintro e H7 ⟨rfl,w2,w3,w4⟩ hd l7
   have fin3:=zhd2 w3 w4
   clear w3 w4 k13 k23
   repeat (with_reducible first|(first|refine pI1 ?_|refine pS1 ?_);intros|refine pA1 ?_|refine pX1 ?_|refine pB1 ?_|exact True.intro)
   refine callQ_1 hd fun H9 l9 x9=>?_
   have g9:H9[b2]?=_:=(x9 b2 (by omega)).trans w2
   have y9:∀b,b<H.length→H9[b]?=H[b]?:=fun b hb=>(x9 b (by omega)).trans (fin3 _ fun w3 _=>w3 b hb)
   have fy9:=zhd1 y9
   clear x9 w2 y9
   repeat (with_reducible first|(first|refine pI1 ?_|refine pS1 ?_);intros|refine pA1 ?_|refine pX1 ?_|refine pB1 ?_|exact True.intro)
   exact⟨by rw[dB_f (fin3 _ fun _ w4=>w4)],by omega,fy9 _ fun h=>h⟩
end Go.Proofs.YtjcgdcadflplcaaDoor.AM.D21
namespace Go.Proofs.YtjcgdcadflplcaaDoor.AM.D21
open Go Go.Proofs.YtjcgdcadflplcaaDoor.AM Go.Proofs.YtjcgdcadflplcaaDoor.AM.C02
set_option maxHeartbeats 2000000
set_option maxRecDepth 100000
attribute [local go_sem] tn_add1 tn_sub1 put_all' nums_len aop_mn aop_mx mnO_int mxO_int sub12 sub3
theorem ldB_of_ldnB {H:Heap} {la y:Nat} {x:Cell} (h:ldnB H[la]? y 1=some [x]):ldB H[la]? y=some x:=by
 unfold ldnB at h
 unfold ldB
 generalize H[la]?=q at *
 split at h
 ·unfold sub at h
  split at h
  ·rename_i hl
   have h':=Option.some.inj h
   have:=congrArg (fun(l:List Cell)=>l[0]?) h'
   simpa using this
  ·cases h
 ·cases h
theorem win_at {N:Nat} {H:Heap} {c:Cfg} {h:Hd} (hc:CfgM N H c h) {i:Nat} (hi:i<c.wins.length):∃la y a cc o row,h.a9=some (la,y)∧la<N∧ldB H[la]? (y+i)=some (.sl a row.length cc o)∧c.wins[i]?=some row∧Sl H 1 a row.length (nums row)∧(∀b x,a=some (b,x)→b<N):=by
 obtain⟨⟨la,y⟩,cs,e1,e2,e3,a,cc,o,rfl,e4,e5,-⟩:=hc.wins.at hi
 exact⟨la,y,a,cc,o,_,e1,e2,ldB_of_ldnB (by rw[Nat.mul_one] at e3;exact e3),List.getElem?_eq_getElem hi,e4,e5⟩
theorem ld_of_ldn3 {H:Heap} {la y:Nat} {a b d:Cell} (h:ldnB H[la]? y 3=some [a,b,d]):ldB H[la]? y=some a:=by
 unfold ldnB at h
 unfold ldB
 generalize H[la]?=q at *
 split at h
 ·unfold sub at h
  split at h
  ·have h':=Option.some.inj h
   have:=congrArg (fun(l:List Cell)=>l[0]?) h'
   simpa using this
  ·cases h
 ·cases h
theorem s_cwins {N:Nat} {H:Heap} {c:Cfg} {h:Hd} (hc:CfgM N H c h) (hN:N≤H.length) (hnd:4≤c.nodes∧c.nodes≤16) (hps:c.parts.length≤32):WC F fXo [.agg (c.cells h)] H fun v H'=>v=.c (.bool (dB c.okWins))∧Xt H H':=by
 refine WC_start eXo (by simp) ?_
 unfold cXo Cfg.cells
 obtain⟨n,hn⟩:∃n,c.wins.length=n:=⟨_,rfl⟩
 obtain⟨np,hnp⟩:∃n,c.parts.length=n:=⟨_,rfl⟩
 rw[hn,hnp]
 rw[hnp] at hps
 obtain⟨n1,n2⟩:=hnd
 have fin0:=zhd3 hc hn hnp
 clear hc hn hnp
 repeat (with_reducible first|(first|refine pI1 ?_|refine pS1 ?_);intros|refine pA1 ?_|refine pX1 ?_|refine pB1 ?_|exact True.intro)
 rename_i b1 H1 p1 g1 x1
 have fy1:=zhd1 x1
 clear x1
 by_cases hlen:(n:Int)=c.nodes
 case neg=>
  repeat (with_reducible first|(first|refine pI1 ?_|refine pS1 ?_);intros|refine pA1 ?_|refine pX1 ?_|refine pB1 ?_|exact True.intro)
  exact⟨by rw[dB_f (fun h=>hlen (by rw[←h.1];exact fin0 _ fun _ hn _=>by omega))],by omega,fun b hb=>fy1 _ fun x1=>x1 b (by omega)⟩
 repeat (with_reducible first|(first|refine pI1 ?_|refine pS1 ?_);intros|refine pA1 ?_|refine pX1 ?_|refine pB1 ?_|exact True.intro)
 refine W_loop (fun m st=>∃ρ i,st=⟨L 55 ρ,[],H1⟩∧m=n-i∧i≤n∧ρ 1=.c (.ptr (some (b1,0)))∧ρ 14=.c (.sl h.a9 n h.c9 h.o9)∧ρ 15=.c (.int .i64 (n:Nat))∧ρ 16=.c (.int .i64 (i:Nat))∧∀(j:Nat) row,j<i→c.wins[j]?=some row→(row.length:Int)=c.nodes∧∀p∈row,c.okWin j p) n ⟨_,0,rfl,by omega,by omega,zf,zf,zf,zf,fun j r hj=>by omega⟩ ?_
 rintro m st ⟨ρ,i,rfl,rfl,hi,e1,e14,e15,e16,hall⟩
 unfold bXo_16
 have fin1:=zhd1 hall
 clear hall
 by_cases hin:i<n
 ·have hxt:(i:Int)<(n:Int):=by omega
  obtain⟨la,y,ar,cr,orr,row,ea,hla,hld,hrow,hsl,har⟩:=fin0 _ fun hc hn _=>win_at hc (i:=i) (by omega)
  rw[←fy1 _ fun x1=>x1 la (by omega)] at hld
  have hsl1:Sl H1 1 ar row.length (nums row):=hsl.keep fun b x e=>fy1 _ fun x1=>x1 b (by have:=har b x e;omega)
  obtain⟨m,hm⟩:∃m,row.length=m:=⟨_,rfl⟩
  rw[hm] at hld hsl1
  have fin2:=zhd3 hrow hsl1 hm
  rw[ea] at e14
  have fea:=zhd1 ea
  clear ea hrow hsl hsl1 hm har
  by_cases hml:(m:Int)=c.nodes
  case neg=>
   repeat (with_reducible first|(first|refine pI1 ?_|refine pS1 ?_);intros|refine pA1 ?_|refine pX1 ?_|refine pB1 ?_|exact True.intro)
   exact⟨by rw[dB_f (fun h=>hml (by have:=fin2 _ fun hrow _ hm=>(h.2 i row hrow).1;have:=fin2 _ fun _ _ hm=>hm;omega))],by omega,fun b hb=>fy1 _ fun x1=>x1 b (by omega)⟩
  repeat (with_reducible first|(first|refine pI1 ?_|refine pS1 ?_);intros|refine pA1 ?_|refine pX1 ?_|refine pB1 ?_|exact True.intro)
  refine W_loop (fun q st=>∃ρ j,st=⟨L 55 ρ,[],H1⟩∧q=m-j∧j≤m∧ρ 1=.c (.ptr (some (b1,0)))∧ρ 3=.c (.int .i64 (i:Nat))∧ρ 14=.c (.sl (some (la,y)) n h.c9 h.o9)∧ρ 15=.c (.int .i64 (n:Nat))∧ρ 16=.c (.int .i64 (i:Nat))∧ρ 26=.c (.sl ar m cr orr)∧ρ 27=.c (.int .i64 (m:Nat))∧ρ 28=.c (.int .i64 (j:Nat))∧∀k,k<j→c.okWin i (gn row k)) m ⟨_,0,rfl,by omega,by omega,zf,zf,zf,zf,zf,zf,zf,zf,fun k hk=>by omega⟩ ?_
  clear e1 e14 e15 e16
  rintro q st ⟨ρ,j,rfl,rfl,hj,e1,e3,e14,e15,e16,e26,e27,e28,hrw⟩
  unfold bXo_14
  have fin3:=zhd1 hrw
  clear hrw hld
  by_cases hjm:j<m
  ·have hxt2:(j:Int)<(m:Int):=by omega
   obtain⟨⟨lr,yr⟩,rfl⟩:=(fin2 _ fun _ h _=>h).is_some (by omega)
   have hldr:=fin2 _ fun _ h hm=>Sl.gn h hm hjm
   dsimp only at hldr
   have hmem:=fin2 _ fun _ _ hm=>gn_mem (l:=row) (i:=j) (by omega)
   have hnot:¬c.okWin i (gn row j)→dB c.okWins=false:=fun h=>dB_f fun h'=>h ((fin2 _ fun hrow _ _=>(h'.2 i row hrow).2) _ hmem)
   have hnext:c.okWin i (gn row j)→∀k,k<j+1→c.okWin i (gn row k):=fun h k hk=>by
    by_cases e:k=j
    ·subst e;exact h
    ·exact fin3 _ fun h=>h k (by omega)
   have hiff:c.okWin i (gn row j)↔(gn row j=-1∨(0≤gn row j∧gn row j<(np:Int)∧(c.part (gn row j)).node=i)):=by
    unfold Cfg.okWin
    rw[fin0 _ fun _ _ h=>h]
   have hpt:=fun hv:(0≤gn row j∧gn row j≤(np:Int)-1)=>fin0 _ fun hc _ hnp=>part_at hc (i:=(gn row j).toNat) (by omega)
   generalize c.okWin i (gn row j)=P at *
   generalize gn row j=v at *
   have fin4:=zhd4 hnot hnext hiff hpt
   clear hnot hnext hiff hpt hmem fin3
   by_cases hv1:v=-1
   ·have hP:P:=fin4 _ fun _ _ h _=>h.2 (.inl hv1)
    repeat (with_reducible first|(first|refine pI1 ?_|refine pS1 ?_);intros|refine pA1 ?_|refine pX1 ?_|refine pB1 ?_|exact True.intro)
    exact loopQ_n (m-(j+1)) (by omega) ⟨_,j+1,rfl,rfl,by omega,zf,zf,zf,zf,zf,zf,zf,zf,fin4 _ fun _ h _ _=>h hP⟩
   ·by_cases hv2:0≤v∧v≤(np:Int)-1
    ·obtain⟨lp,yp,ea8,hlp,hldp,-⟩:=fin4 _ fun _ _ _ h=>h hv2
     obtain⟨v1,v2⟩:=hv2
     have hcast:((v.toNat:Nat):Int)=v:=by omega
     rw[hcast,←fy1 _ fun x1=>x1 lp (by omega)] at hldp
     have hldn:=ld_of_ldn3 hldp
     have g1':=g1
     rw[ea8] at g1'
     have fg:=zhd1 g1
     have hvt:v.toNat<np:=by omega
     clear hldp ea8 hcast g1
     generalize hpn:(c.part v).node=pn at *
     have hiff:=fin4 _ fun _ _ h _=>h
     by_cases hv3:pn=(i:Int)
     ·have hP:P:=hiff.2 (.inr ⟨v1,by omega,hv3⟩)
      clear hiff hpn
      repeat (with_reducible first|(first|refine pI1 ?_|refine pS1 ?_);intros|refine pA1 ?_|refine pX1 ?_|refine pB1 ?_|exact True.intro)
      refine outM_call s_within ?_
      rintro _ H1 ⟨rfl,rfl⟩
      repeat (with_reducible first|(first|refine pI1 ?_|refine pS1 ?_);intros|refine pA1 ?_|refine pX1 ?_|refine pB1 ?_|exact True.intro)
      exact loopQ_n (m-(j+1)) (by omega) ⟨_,j+1,rfl,rfl,by omega,zf,zf,zf,zf,zf,zf,zf,zf,fin4 _ fun _ h _ _=>h hP⟩
     ·have hP:¬P:=fun h=>by
       rcases hiff.1 h with e|e
       ·exact hv1 e
       ·exact hv3 e.2.2
      clear hiff hpn
      repeat (with_reducible first|(first|refine pI1 ?_|refine pS1 ?_);intros|refine pA1 ?_|refine pX1 ?_|refine pB1 ?_|exact True.intro)
      refine outM_call s_within ?_
      rintro _ H1 ⟨rfl,rfl⟩
      repeat (with_reducible first|(first|refine pI1 ?_|refine pS1 ?_);intros|refine pA1 ?_|refine pX1 ?_|refine pB1 ?_|exact True.intro)
      exact⟨by rw[fin4 _ fun h _ _ _=>h hP],by omega,fun b hb=>fy1 _ fun x1=>x1 b (by omega)⟩
    ·have hP:¬P:=fun h=>by
      have hiff:=fin4 _ fun _ _ h _=>h
      rcases hiff.1 h with e|e
      ·exact hv1 e
      ·exact hv2 ⟨e.1,by omega⟩
     repeat (with_reducible first|(first|refine pI1 ?_|refine pS1 ?_);intros|refine pA1 ?_|refine pX1 ?_|refine pB1 ?_|exact True.intro)
     refine outM_call s_within ?_
     rintro _ H1 ⟨rfl,rfl⟩
     repeat (with_reducible first|(first|refine pI1 ?_|refine pS1 ?_);intros|refine pA1 ?_|refine pX1 ?_|refine pB1 ?_|exact True.intro)
     exact⟨by rw[fin4 _ fun h _ _ _=>h hP],by omega,fun b hb=>fy1 _ fun x1=>x1 b (by omega)⟩
  ·obtain rfl:j=m:=by omega
   have hxt2:¬(j:Int)<(j:Int):=by omega
   repeat (with_reducible first|(first|refine pI1 ?_|refine pS1 ?_);intros|refine pA1 ?_|refine pX1 ?_|refine pB1 ?_|exact True.intro)
   exact loopQ_n (n-(i+1)) (by omega) ⟨_,i+1,rfl,rfl,by omega,zf,by rw[fea _ fun e=>e];simp (disch:=first|with_reducible assumption|omega) only [go_sem, *,reduceCtorEq,↓reduceIte,Nat.reduceLT,Nat.reduceBEq,Nat.reduceAdd,Nat.reduceSub,Nat.reduceMul,Nat.reduceDiv,Nat.reduceMod,Nat.reducePow,Nat.reduceEqDiff,Nat.reduceLeDiff,Int.reduceLT,Int.reduceLE,Int.reduceNeg,Int.reduceToNat,Int.reduceAdd,Int.reduceSub,Int.reduceMul,Int.reduceEq,Int.reduceNe,Int.reduceBEq,Int.reduceBNe,Int.reducePow];first|done|rfl,zf,zf,fun k r hk hr=>by
    by_cases e:k=i
    ·subst e
     obtain rfl:r=row:=by have:=fin2 _ fun h _ _=>h;rw[this] at hr;cases hr;rfl
     have hm:=fin2 _ fun _ _ h=>h
     refine⟨by omega,fun p hp=>?_⟩
     obtain⟨t,ht,rfl⟩:=gn_of hp
     exact fin3 _ fun h=>h t (by omega)
    ·exact fin1 _ fun h=>h k r (by omega) hr⟩
 ·obtain rfl:i=n:=by omega
  have hxt:¬(i:Int)<(i:Int):=by omega
  repeat (with_reducible first|(first|refine pI1 ?_|refine pS1 ?_);intros|refine pA1 ?_|refine pX1 ?_|refine pB1 ?_|exact True.intro)
  have hT:c.okWins:=⟨by have:=fin0 _ fun _ hn _=>hn;omega,fun k r hr=>by
   have hk:k<c.wins.length:=by
    have:=(List.getElem?_eq_some_iff.1 hr).1;exact this
   have:=fin0 _ fun _ hn _=>hn
   exact fin1 _ fun h=>h k r (by omega) hr⟩
  exact⟨by rw[dB_t hT],by omega,fun b hb=>fy1 _ fun x1=>x1 b (by omega)⟩
end Go.Proofs.YtjcgdcadflplcaaDoor.AM.D21
namespace Go.Proofs.YtjcgdcadflplcaaDoor.AM.D21
open Go Go.Proofs.YtjcgdcadflplcaaDoor.AM Go.Proofs.YtjcgdcadflplcaaDoor.AM.C02
set_option maxHeartbeats 2000000
set_option maxRecDepth 100000
attribute [local go_sem] tn_add1 tn_sub1 put_all' nums_len aop_mn aop_mx mnO_int mxO_int sub12 sub3
theorem port_at {N:Nat} {H:Heap} {c:Cfg} {h:Hd} (hc:CfgM N H c h) {i:Nat} (hi:i<c.ports.length):∃la y,h.a10=some (la,y)∧la<N∧ldnB H[la]? (y+i * 6) 6=some (c.port (i:Nat)).cells∧c.port (i:Nat)∈c.ports:=by
 obtain⟨⟨la,y⟩,cs,e1,e2,e3,e4,-⟩:=hc.ports.at hi
 have e:c.port (i:Nat)=c.ports[i]:=by simp[Cfg.port,hi]
 rw[e]
 exact⟨la,y,e1,e2,by rw[←e4];exact e3,List.getElem_mem hi⟩
theorem port_of {c:Cfg} {p:Pt} (h:p∈c.ports):∃i,i<c.ports.length∧c.port (i:Nat)=p:=by
 obtain⟨i,hi,rfl⟩:=List.mem_iff_getElem.1 h
 exact⟨i,hi,by simp[Cfg.port,hi]⟩
theorem sub6 (a b c d e f:Cell):sub [a,b,c,d,e,f] 0 6=some [a,b,c,d,e,f]:=rfl
theorem rep6 (x:Cell):List.replicate 6 x=[x,x,x,x,x,x]:=rfl
attribute [local go_sem] sub6 rep6
theorem port_iff {np:Nat} {part kind dir size depth fresh d f:Int} (hd:d=if kind=2 then max 1 (min depth 8) else 0) (hf:f=if kind=2 then 0 else if dir=2 then max 1 (min fresh 65535) else 0) (hk:kind=1∨kind=2):
  ((⟨part,kind,dir,size,depth,fresh⟩:Pt).ok∧0≤part∧part<(np:Int))↔((0≤part∧part≤(np:Int)-1)∧(1≤dir∧dir≤2)∧(1≤size∧size≤32)∧depth=d∧fresh=f):=by
 unfold Pt.ok
 dsimp only
 rcases hk with rfl|rfl
 ·rw[if_neg (by omega)] at hd hf
  split at hf<;>omega
 ·rw[if_pos rfl] at hd hf
  omega
theorem s_cports {N:Nat} {H:Heap} {c:Cfg} {h:Hd} (hc:CfgM N H c h) (hN:N≤H.length) (hps:c.parts.length≤32):WC F fXn [.agg (c.cells h)] H fun v H'=>v=.c (.bool (dB c.okPorts))∧Xt H H':=by
 refine WC_start eXn (by simp) ?_
 unfold cXn Cfg.cells
 obtain⟨n,hn⟩:∃n,c.ports.length=n:=⟨_,rfl⟩
 obtain⟨np,hnp⟩:∃n,c.parts.length=n:=⟨_,rfl⟩
 rw[hn,hnp]
 rw[hnp] at hps
 have fin0:=zhd3 hc hn hnp
 clear hc hn hnp
 repeat (with_reducible first|(first|refine pI1 ?_|refine pS1 ?_);intros|refine pA1 ?_|refine pX1 ?_|refine pB1 ?_|exact True.intro)
 rename_i b1 H1 p1 g1 x1
 have fy1:=zhd1 x1
 clear x1
 by_cases hbig:64<(n:Int)
 ·repeat (with_reducible first|(first|refine pI1 ?_|refine pS1 ?_);intros|refine pA1 ?_|refine pX1 ?_|refine pB1 ?_|exact True.intro)
  exact⟨by rw[dB_f (fun h=>by have:=h.1;have:=fin0 _ fun _ hn _=>hn;omega)],by omega,fun b hb=>fy1 _ fun x1=>x1 b (by omega)⟩
 repeat (with_reducible first|(first|refine pI1 ?_|refine pS1 ?_);intros|refine pA1 ?_|refine pX1 ?_|refine pB1 ?_|exact True.intro)
 refine W_loop (fun m st=>∃ρ i Hk,st=⟨L 76 ρ,[],Hk⟩∧m=n-i∧i≤n∧ρ 1=.c (.ptr (some (b1,0)))∧ρ 12=.c (.sl h.a10 n h.c10 h.o10)∧ρ 13=.c (.int .i64 (n:Nat))∧ρ 14=.c (.int .i64 (i:Nat))∧Xt H1 Hk∧∀j,j<i→c.okPort (c.port (j:Nat))) n ⟨_,0,H1,rfl,rfl,by omega,zf,zf,zf,zf,⟨Nat.le_refl _,fun _ _=>rfl⟩,fun j hj=>by omega⟩ ?_
 rintro m st ⟨ρ,i,Hk,rfl,rfl,hi,e1,e12,e13,e14,⟨lk,xk⟩,hall⟩
 unfold bXn_16
 obtain⟨o13,ho13⟩:∃o,o=oXn_13:=⟨_,rfl⟩
 rw[←ho13]
 have fin1:=zhd2 hall xk
 have k1:Hk[b1]?=_:=(xk b1 (by omega)).trans g1
 clear hall xk
 by_cases hin:i<n
 ·have hxt:(i:Int)<(n:Int):=by omega
  obtain⟨la,y,ea,hla,hld,hmem⟩:=fin0 _ fun hc hn _=>port_at hc (i:=i) (by omega)
  rw[←fy1 _ fun x1=>x1 la (by omega),←fin1 _ fun _ xk=>xk la (by omega)] at hld
  have hnot:¬c.okPort (c.port (i:Nat))→dB c.okPorts=false:=fun h=>dB_f fun h'=>h (h'.2 _ hmem)
  have hnext:c.okPort (c.port (i:Nat))→∀j,j<i+1→c.okPort (c.port (j:Nat)):=fun h j hj=>by
   by_cases e:j=i
   ·subst e;exact h
   ·exact fin1 _ fun h _=>h j (by omega)
  have hiff:c.okPort (c.port (i:Nat))↔((c.port (i:Nat)).ok∧0≤(c.port (i:Nat)).part∧(c.port (i:Nat)).part<(np:Int)):=by unfold Cfg.okPort;rw[fin0 _ fun _ _ h=>h]
  rw[ea] at e12
  have fea:=zhd1 ea
  clear ea hmem
  generalize c.okPort (c.port (i:Nat))=P at *
  generalize c.port (i:Nat)=p at *
  obtain⟨part,kind,dir,size,depth,fresh⟩:=p
  dsimp only [Pt.cells] at hld hiff
  obtain⟨d,hd⟩:∃d:Int,d=if kind=2 then max 1 (min depth 8) else 0:=⟨_,rfl⟩
  obtain⟨f,hf⟩:∃f:Int,f=if kind=2 then 0 else if dir=2 then max 1 (min fresh 65535) else 0:=⟨_,rfl⟩
  have fin2:=zhd5 hnot hnext hiff hd hf
  clear hnot hnext hiff hd hf
  have fg:=zhd1 k1
  repeat (with_reducible first|(first|refine pI1 ?_|refine pS1 ?_);intros|refine pA1 ?_|refine pX1 ?_|refine pB1 ?_|exact True.intro)
  rename_i b3 H3 p3 g3 x3 H4 l4 g4 x4
  have z:∀b,b<Hk.length→H4[b]?=Hk[b]?:=fun b hb=>by rw[x4 b (by omega),x3 b (by omega)]
  have g41:H4[b1]?=_:=(z b1 (by omega)).trans k1
  have fz:=zhd1 z
  have y4:Xt H1 H4:=⟨by omega,fun b hb=>by rw[z b (by omega)];exact fin1 _ fun _ xk=>xk b hb⟩
  have w4:Xt H H4:=⟨by omega,fun b hb=>by rw[y4.2 b (by omega)];exact fy1 _ fun x1=>x1 b (by omega)⟩
  have fin3:=zhd2 y4 w4
  clear x3 x4 z k1 g3 y4 w4 hld
  -- what is behind the two bounds
  have tail:∀ρ':Env,ρ' 1=.c (.ptr (some (b1,0)))→ρ' 4=.c (.ptr (some (b3,0)))→ρ' 5=.c (.int .i64 d)→ρ' 6=.c (.int .i64 f)→ρ' 12=.c (.sl (some (la,y)) n h.c10 h.o10)→ρ' 13=.c (.int .i64 (n:Nat))→ρ' 14=.c (.int .i64 (i:Nat))→kind=1∨kind=2→
    WO F o13 (L 76 ρ') H4 fun t' H'=>W F none (.cond (.t 74) (.seq (.ops oXn_14) .ret) .skip) ⟨t',[],H'⟩ (blockQ 1 (thenQ F none (.ops oXn_15) (loopQ (fun m st=>∃ρ i Hk,st=⟨L 76 ρ,[],Hk⟩∧m=n-i∧i≤n∧ρ 1=.c (.ptr (some (b1,0)))∧ρ 12=.c (.sl h.a10 n h.c10 h.o10)∧ρ 13=.c (.int .i64 (n:Nat))∧ρ 14=.c (.int .i64 (i:Nat))∧Xt H1 Hk∧∀j,j<i→c.okPort (c.port (j:Nat))) (n-i) (blockQ 0 (thenQ F none (.seq (.ops oXn_17) .ret) (callQ [(2,none)] fun v H'=>v=.c (.bool (dB c.okPorts))∧Xt H H')))))):=by
   intro ρ' e1 e4 e5 e6 e12 e13 e14 hk
   subst ho13
   have hpi:=fin2 _ fun _ _ hiff hd hf=>hiff.trans (port_iff hd hf hk)
   have fin4:=zhd1 hpi
   clear hpi hk
   by_cases h1:0≤part∧part≤(np:Int)-1
   case neg=>
    have hP:¬P:=fun h=>h1 (fin4 _ fun hi=>(hi.1 h).1)
    repeat (with_reducible first|(first|refine pI1 ?_|refine pS1 ?_);intros|refine pA1 ?_|refine pX1 ?_|refine pB1 ?_|exact True.intro)
    refine outM_call s_within ?_
    rintro _ H4 ⟨rfl,rfl⟩
    repeat (with_reducible first|(first|refine pI1 ?_|refine pS1 ?_);intros|refine pA1 ?_|refine pX1 ?_|refine pB1 ?_|exact True.intro)
    exact⟨by rw[fin2 _ fun hn _ _ _ _=>hn hP],fin3 _ fun _ w=>w⟩
   by_cases h2:1≤dir∧dir≤2
   case neg=>
    have hP:¬P:=fun h=>h2 (fin4 _ fun hi=>(hi.1 h).2.1)
    repeat (with_reducible first|(first|refine pI1 ?_|refine pS1 ?_);intros|refine pA1 ?_|refine pX1 ?_|refine pB1 ?_|exact True.intro)
    refine outM_call s_within ?_
    rintro _ H4 ⟨rfl,rfl⟩
    repeat (with_reducible first|(first|refine pI1 ?_|refine pS1 ?_);intros|refine pA1 ?_|refine pX1 ?_|refine pB1 ?_|exact True.intro)
    refine outM_call s_within ?_
    rintro _ H4 ⟨rfl,rfl⟩
    repeat (with_reducible first|(first|refine pI1 ?_|refine pS1 ?_);intros|refine pA1 ?_|refine pX1 ?_|refine pB1 ?_|exact True.intro)
    exact⟨by rw[fin2 _ fun hn _ _ _ _=>hn hP],fin3 _ fun _ w=>w⟩
   by_cases h3:1≤size∧size≤32
   case neg=>
    have hP:¬P:=fun h=>h3 (fin4 _ fun hi=>(hi.1 h).2.2.1)
    repeat (with_reducible first|(first|refine pI1 ?_|refine pS1 ?_);intros|refine pA1 ?_|refine pX1 ?_|refine pB1 ?_|exact True.intro)
    refine outM_call s_within ?_
    rintro _ H4 ⟨rfl,rfl⟩
    repeat (with_reducible first|(first|refine pI1 ?_|refine pS1 ?_);intros|refine pA1 ?_|refine pX1 ?_|refine pB1 ?_|exact True.intro)
    refine outM_call s_within ?_
    rintro _ H4 ⟨rfl,rfl⟩
    repeat (with_reducible first|(first|refine pI1 ?_|refine pS1 ?_);intros|refine pA1 ?_|refine pX1 ?_|refine pB1 ?_|exact True.intro)
    refine outM_call s_within ?_
    rintro _ H4 ⟨rfl,rfl⟩
    repeat (with_reducible first|(first|refine pI1 ?_|refine pS1 ?_);intros|refine pA1 ?_|refine pX1 ?_|refine pB1 ?_|exact True.intro)
    exact⟨by rw[fin2 _ fun hn _ _ _ _=>hn hP],fin3 _ fun _ w=>w⟩
   repeat (with_reducible first|(first|refine pI1 ?_|refine pS1 ?_);intros|refine pA1 ?_|refine pX1 ?_|refine pB1 ?_|exact True.intro)
   refine outM_call s_within ?_
   rintro _ H4 ⟨rfl,rfl⟩
   repeat (with_reducible first|(first|refine pI1 ?_|refine pS1 ?_);intros|refine pA1 ?_|refine pX1 ?_|refine pB1 ?_|exact True.intro)
   refine outM_call s_within ?_
   rintro _ H4 ⟨rfl,rfl⟩
   repeat (with_reducible first|(first|refine pI1 ?_|refine pS1 ?_);intros|refine pA1 ?_|refine pX1 ?_|refine pB1 ?_|exact True.intro)
   refine outM_call s_within ?_
   rintro _ H4 ⟨rfl,rfl⟩
   by_cases h4:depth=d
   case neg=>
    have hP:¬P:=fun h=>h4 (fin4 _ fun hi=>(hi.1 h).2.2.2.1)
    repeat (with_reducible first|(first|refine pI1 ?_|refine pS1 ?_);intros|refine pA1 ?_|refine pX1 ?_|refine pB1 ?_|exact True.intro)
    exact⟨by rw[fin2 _ fun hn _ _ _ _=>hn hP],fin3 _ fun _ w=>w⟩
   by_cases h5:fresh=f
   case neg=>
    have hP:¬P:=fun h=>h5 (fin4 _ fun hi=>(hi.1 h).2.2.2.2)
    repeat (with_reducible first|(first|refine pI1 ?_|refine pS1 ?_);intros|refine pA1 ?_|refine pX1 ?_|refine pB1 ?_|exact True.intro)
    exact⟨by rw[fin2 _ fun hn _ _ _ _=>hn hP],fin3 _ fun _ w=>w⟩
   have hP:P:=fin4 _ fun hi=>hi.2 ⟨h1,h2,h3,h4,h5⟩
   clear fin4
   repeat (with_reducible first|(first|refine pI1 ?_|refine pS1 ?_);intros|refine pA1 ?_|refine pX1 ?_|refine pB1 ?_|exact True.intro)
   exact loopQ_n (n-(i+1)) (by omega) ⟨_,i+1,H4,rfl,rfl,by omega,zf,by rw[fea _ fun e=>e];simp (disch:=first|with_reducible assumption|omega) only [go_sem, *,reduceCtorEq,↓reduceIte,Nat.reduceLT,Nat.reduceBEq,Nat.reduceAdd,Nat.reduceSub,Nat.reduceMul,Nat.reduceDiv,Nat.reduceMod,Nat.reducePow,Nat.reduceEqDiff,Nat.reduceLeDiff,Int.reduceLT,Int.reduceLE,Int.reduceNeg,Int.reduceToNat,Int.reduceAdd,Int.reduceSub,Int.reduceMul,Int.reduceEq,Int.reduceNe,Int.reduceBEq,Int.reduceBNe,Int.reducePow];first|done|rfl,zf,zf,fin3 _ fun w _=>w,fin2 _ fun _ h _ _ _=>h hP⟩
  by_cases hk2:kind=2
  ·have hdd:(if (if 8<depth then 8 else depth) > 1 then (if 8<depth then 8 else depth) else 1)=d:=by
    rw[fin2 _ fun _ _ _ hd _=>hd,if_pos hk2];split<;>split<;>omega
   have hff:f=0:=by rw[fin2 _ fun _ _ _ _ hf=>hf,if_pos hk2]
   have ft:=zhd1 tail
   clear tail
   repeat (with_reducible first|(first|refine pI1 ?_|refine pS1 ?_);intros|refine pA1 ?_|refine pX1 ?_|refine pB1 ?_|exact True.intro)
   exact ft _ fun tail=>tail _ zf zf zf (by rw[hff];exact zf) zf zf zf (.inr hk2)
  ·by_cases hk1:kind=1
   ·have hdd:d=0:=by rw[fin2 _ fun _ _ _ hd _=>hd,if_neg hk2]
    by_cases hd2:dir=2
    ·have hff:(if (if 65535<fresh then 65535 else fresh) > 1 then (if 65535<fresh then 65535 else fresh) else 1)=f:=by
      rw[fin2 _ fun _ _ _ _ hf=>hf,if_neg hk2,if_pos hd2];split<;>split<;>omega
     have ft:=zhd1 tail
     clear tail
     repeat (with_reducible first|(first|refine pI1 ?_|refine pS1 ?_);intros|refine pA1 ?_|refine pX1 ?_|refine pB1 ?_|exact True.intro)
     exact ft _ fun tail=>tail _ zf zf (by rw[hdd];exact zf) zf zf zf zf (.inl hk1)
    ·have hff:f=0:=by rw[fin2 _ fun _ _ _ _ hf=>hf,if_neg hk2,if_neg hd2]
     have ft:=zhd1 tail
     clear tail
     repeat (with_reducible first|(first|refine pI1 ?_|refine pS1 ?_);intros|refine pA1 ?_|refine pX1 ?_|refine pB1 ?_|exact True.intro)
     exact ft _ fun tail=>tail _ zf zf (by rw[hdd];exact zf) (by rw[hff];exact zf) zf zf zf (.inl hk1)
   ·have hP:¬P:=fun h=>by
     have hiff:=fin2 _ fun _ _ hi _ _=>hi
     have:=(hiff.1 h).1.1
     dsimp only at this
     omega
    clear tail
    repeat (with_reducible first|(first|refine pI1 ?_|refine pS1 ?_);intros|refine pA1 ?_|refine pX1 ?_|refine pB1 ?_|exact True.intro)
    exact⟨by rw[fin2 _ fun hn _ _ _ _=>hn hP],fin3 _ fun _ w=>w⟩
 ·obtain rfl:i=n:=by omega
  have hxt:¬(i:Int)<(i:Int):=by omega
  repeat (with_reducible first|(first|refine pI1 ?_|refine pS1 ?_);intros|refine pA1 ?_|refine pX1 ?_|refine pB1 ?_|exact True.intro)
  have hT:c.okPorts:=⟨by have:=fin0 _ fun _ hn _=>hn;omega,fun p hp=>by
   obtain⟨k,hk,rfl⟩:=port_of hp
   have:=fin0 _ fun _ hn _=>hn
   exact fin1 _ fun h _=>h k (by omega)⟩
  exact⟨by rw[dB_t hT],by omega,fun b hb=>by rw[fin1 _ fun _ xk=>xk b (by omega)];exact fy1 _ fun x1=>x1 b (by omega)⟩
end Go.Proofs.YtjcgdcadflplcaaDoor.AM.D21
namespace Go.Proofs.YtjcgdcadflplcaaDoor.AM.D21
open Go Go.Proofs.YtjcgdcadflplcaaDoor.AM Go.Proofs.YtjcgdcadflplcaaDoor.AM.C02
set_option maxHeartbeats 2000000
set_option maxRecDepth 100000
attribute [local go_sem] tn_add1 tn_sub1 put_all' nums_len aop_mn aop_mx mnO_int mxO_int sub12 sub3 sub6 rep6
theorem s_port {N:Nat} {H:Heap} {c:Cfg} {h:Hd} {n:Int} (hc:CfgM N H c h) (hN:N≤H.length) (hm:c.ports.length≤64):WC F fXm [.agg (c.cells h),.c (.int .i64 n)] H fun v H'=>(∃p:Pt,v=.tup [.agg p.cells,.c (.bool (decide (0≤n∧n≤(c.ports.length:Int)-1)))]∧(c.isP n→p=c.port n))∧Xt H H':=by
 refine WC_start eXm (by simp) ?_
 unfold cXm Cfg.cells
 obtain⟨m,hmm⟩:∃m,c.ports.length=m:=⟨_,rfl⟩
 have hpt:=fun hv:(0≤n∧n≤(m:Int)-1)=>port_at hc (i:=n.toNat) (by omega)
 have hcast:0≤n→((n.toNat:Nat):Int)=n:=fun h=>by omega
 have hisP:c.isP n↔(0≤n∧n<(m:Int)):=by unfold Cfg.isP;rw[hmm]
 rw[hmm] at hm ⊢
 generalize c.isP n=P at *
 have fin0:=zhd3 hpt hcast hisP
 clear hpt hcast hisP hc hmm
 repeat (with_reducible first|(first|refine pI1 ?_|refine pS1 ?_);intros|refine pA1 ?_|refine pX1 ?_|refine pB1 ?_|exact True.intro)
 rename_i b1 H1 p1 g1 x1 b2 H2 p2 g2 x2
 have z:Xt H H2:=⟨by omega,fun b hb=>by rw[x2 b (by omega),x1 b (by omega)]⟩
 have g1':H2[b1]?=_:=(x2 b1 (by omega)).trans g1
 have fz:=zhd1 z
 clear x1 x2 z g1
 refine outM_call s_within ?_
 rintro _ H2 ⟨rfl,rfl⟩
 by_cases hv:0≤n∧n≤(m:Int)-1
 ·obtain⟨la,y,ea,hla,hld,-⟩:=fin0 _ fun hpt _ _=>hpt hv
  rw[fin0 _ fun _ h _=>h hv.1,←fz _ fun z=>z.2 la (by omega)] at hld
  rw[ea] at g1'
  have hvt:n.toNat<m:=by omega
  rw[decide_eq_true hv]
  obtain⟨v1,v2⟩:=hv
  clear ea fin0
  generalize c.port n=p at *
  obtain⟨p1,p2,p3,p4,p5,p6⟩:=p
  dsimp only [Pt.cells] at hld
  repeat (with_reducible first|(first|refine pI1 ?_|refine pS1 ?_);intros|refine pA1 ?_|refine pX1 ?_|refine pB1 ?_|exact True.intro)
  rename_i H3 l3 g3 x3
  repeat (with_reducible first|(first|refine pI1 ?_|refine pS1 ?_);intros|refine pA1 ?_|refine pX1 ?_|refine pB1 ?_|exact True.intro)
  exact⟨⟨⟨p1,p2,p3,p4,p5,p6⟩,rfl,fun _=>rfl⟩,by omega,fun b hb=>by rw[x3 b (by omega)];exact fz _ fun z=>z.2 b hb⟩
 ·rw[decide_eq_false hv]
  repeat (with_reducible first|(first|refine pI1 ?_|refine pS1 ?_);intros|refine pA1 ?_|refine pX1 ?_|refine pB1 ?_|exact True.intro)
  rename_i H3 l3 g3 x3
  repeat (with_reducible first|(first|refine pI1 ?_|refine pS1 ?_);intros|refine pA1 ?_|refine pX1 ?_|refine pB1 ?_|exact True.intro)
  exact⟨⟨pt0,rfl,fun h=>absurd ((fin0 _ fun _ _ h=>h).1 h) (by omega)⟩,by omega,fun b hb=>by rw[x3 b (by omega)];exact fz _ fun z=>z.2 b hb⟩
def tkn (m:Nat) (U:List Int):List Int:=(List.range m).map fun(k:Nat)=>((cn (k:Int) U:Nat):Int)
theorem tkn_len (m:Nat) (U:List Int):(tkn m U).length=m:=by simp[tkn]
theorem tkn_gn {m:Nat} {U:List Int} {k:Nat} (h:k<m):gn (tkn m U) k=((cn (k:Int) U:Nat):Int):=by simp[gn,tkn,h]
theorem tkn_set {m:Nat} {U:List Int} {k:Nat} (h:k<m):(nums (tkn m U)).set k (.int .i64 (((cn (k:Int) U:Nat):Int)+1))=nums (tkn m (U++[(k:Int)])):=by
 apply List.ext_getElem?
 intro i
 have hl:(nums (tkn m U)).length=m:=by rw[nums_len,tkn_len]
 by_cases hi:i<m
 ·rw[nums_get (by rw[tkn_len];exact hi),tkn_gn hi,cn_app,cn_one]
  by_cases e:i=k
  ·subst e
   rw[List.getElem?_set_self (by omega),if_pos rfl]
   simp
  ·rw[List.getElem?_set_ne (fun h=>e h.symm),nums_get (by rw[tkn_len];exact hi),tkn_gn hi,if_neg (by omega)]
   simp
 ·rw[List.getElem?_eq_none (by rw[List.length_set,hl];omega),List.getElem?_eq_none (by rw[nums_len,tkn_len];omega)]
theorem tkn_0 (m:Nat):grows [Cell.int .i64 0] m=nums (tkn m []):=by
 unfold grows nums tkn
 apply List.ext_getElem?
 intro i
 have e:(List.replicate m [Cell.int .i64 0]).flatten=List.replicate m (Cell.int .i64 0):=by
  induction m with
  |zero=>rfl
  |succ m ih=>simp[List.replicate_succ,ih]
 rw[e]
 by_cases hi:i<m
 ·simp[hi]
 ·simp[hi]
theorem link_at {N:Nat} {H:Heap} {c:Cfg} {h:Hd} (hc:CfgM N H c h) {i:Nat} (hi:i<c.links.length):∃la y ad cd od,h.a11=some (la,y)∧la<N∧ldnB H[la]? (y+i * 3) 3=some [.int .i64 (c.link i).src,.sl ad (c.link i).dests.length cd od,.int .i64 (c.link i).off]∧Sl H 1 ad (c.link i).dests.length (nums (c.link i).dests)∧(∀b x,ad=some (b,x)→b<N)∧c.link i∈c.links∧(c.link i).dests.length≤maxLen:=by
 obtain⟨⟨la,y⟩,cs,e1,e2,e3,ad,cd,od,rfl,e4,e5,-,e6,e7,-⟩:=hc.links.at hi
 have e:c.link i=c.links[i]:=by simp[Cfg.link,hi]
 rw[e]
 exact⟨la,y,ad,cd,od,e1,e2,e3,e4,e5,List.getElem_mem hi,by omega⟩
theorem used_take {c:Cfg} {i:Nat} (hi:i<c.links.length):Cfg.used (c.links.take (i+1))=Cfg.used (c.links.take i)++((c.link i).src :: (c.link i).dests):=by
 have e:c.link i=c.links[i]:=by simp[Cfg.link,hi]
 rw[List.take_succ_eq_append_getElem hi,e]
 unfold Cfg.used
 rw[List.flatMap_append,List.flatMap_cons,List.flatMap_nil,List.append_nil]
theorem used_le {c:Cfg} {i:Nat} (x:Int):cn x (Cfg.used (c.links.take i))≤cn x (Cfg.used c.links):=by
 have:Cfg.used c.links=Cfg.used (c.links.take i)++Cfg.used (c.links.drop i):=by
  unfold Cfg.used
  rw[←List.flatMap_append,List.take_append_drop]
 rw[this,cn_app];omega
end Go.Proofs.YtjcgdcadflplcaaDoor.AM.D21
namespace Go.Proofs.YtjcgdcadflplcaaDoor.AM.D21
open Go Go.Proofs.YtjcgdcadflplcaaDoor.AM Go.Proofs.YtjcgdcadflplcaaDoor.AM.C02
set_option maxHeartbeats 2000000
set_option maxRecDepth 100000
attribute [local go_sem] tn_add1 tn_sub1 put_all' nums_len aop_mn aop_mx mnO_int mxO_int sub12 sub3 sub6 rep6
def LkOk (c:Cfg) (i:Nat):Prop:=(∀j,j<i→c.okLink (c.link j))∧∀x,cn x (Cfg.used (c.links.take i))≤1
def DsOk (c:Cfg) (i k:Nat):Prop:=LkOk c i∧c.okSrc (c.link i)∧(∀j,j<k→c.okDest (c.link i).src (gn (c.link i).dests j))∧∀x,cn x (Cfg.used (c.links.take i)++((c.link i).src :: (c.link i).dests.take k))≤1
theorem DsOk.start {c:Cfg} {i:Nat} (h:LkOk c i) (hs:c.okSrc (c.link i)) (hx:cn (c.link i).src (Cfg.used (c.links.take i))=0):DsOk c i 0:=by
 refine⟨h,hs,fun j hj=>by omega,fun x=>?_⟩
 rw[List.take_zero,cn_app,cn_one]
 have:=h.2 x
 split
 ·rename_i e;subst e;omega
 ·omega
theorem DsOk.next {c:Cfg} {i k:Nat} (h:DsOk c i k) (hk:k<(c.link i).dests.length) (hd:c.okDest (c.link i).src (gn (c.link i).dests k)) (hx:cn (gn (c.link i).dests k) (Cfg.used (c.links.take i)++((c.link i).src :: (c.link i).dests.take k))=0):DsOk c i (k+1):=by
 obtain⟨h1,h2,h3,h4⟩:=h
 refine⟨h1,h2,fun j hj=>?_,fun x=>?_⟩
 ·by_cases e:j=k
  ·subst e;exact hd
  ·exact h3 j (by omega)
 ·have e:(c.link i).dests.take (k+1)=(c.link i).dests.take k++[gn (c.link i).dests k]:=by
   rw[List.take_succ_eq_append_getElem hk];simp[gn,hk]
  rw[e,←List.cons_append,←List.append_assoc,cn_app,cn_one]
  have:=h4 x
  split
  ·rename_i e;subst e;omega
  ·omega
theorem DsOk.fin {c:Cfg} {i:Nat} (hi:i<c.links.length) (h:DsOk c i (c.link i).dests.length):LkOk c (i+1):=by
 obtain⟨h1,h2,h3,h4⟩:=h
 rw[List.take_length] at h4
 refine⟨fun j hj=>?_,fun x=>?_⟩
 ·by_cases e:j=i
  ·subst e
   refine⟨h2,fun n hn=>?_⟩
   obtain⟨t,ht,rfl⟩:=gn_of hn
   exact h3 t ht
  ·exact h1.1 j (by omega)
 ·rw[used_take hi];exact h4 x
theorem no_src {c:Cfg} {i:Nat} (hi:i<c.links.length) (h:¬c.okSrc (c.link i)∨0<cn (c.link i).src (Cfg.used (c.links.take i))):¬c.okLinks:=by
 rintro⟨-,h1,h2,-⟩
 rcases h with h|h
 ·have:c.link i∈c.links:=by
   have e:c.link i=c.links[i]:=by simp[Cfg.link,hi]
   rw[e];exact List.getElem_mem hi
  exact h (h1 _ this).1
 ·have h3:=used_le (c:=c) (i:=i+1) (c.link i).src
  rw[used_take hi,cn_app,←List.singleton_append,cn_app,cn_one,if_pos rfl] at h3
  have:=h2 (c.link i).src
  omega
theorem no_dest {c:Cfg} {i k:Nat} (hi:i<c.links.length) (hk:k<(c.link i).dests.length) (h:¬c.okDest (c.link i).src (gn (c.link i).dests k)∨0<cn (gn (c.link i).dests k) (Cfg.used (c.links.take i)++((c.link i).src :: (c.link i).dests.take k))):¬c.okLinks:=by
 rintro⟨-,h1,h2,-⟩
 rcases h with h|h
 ·have:c.link i∈c.links:=by
   have e:c.link i=c.links[i]:=by simp[Cfg.link,hi]
   rw[e];exact List.getElem_mem hi
  exact h ((h1 _ this).2 _ (gn_mem hk))
 ·have h3:=used_le (c:=c) (i:=i+1) (gn (c.link i).dests k)
  have e:(c.link i).dests=(c.link i).dests.take k++(gn (c.link i).dests k :: (c.link i).dests.drop (k+1)):=by
   have e1:gn (c.link i).dests k=(c.link i).dests[k]:=by simp[gn,hk]
   rw[e1,←List.drop_eq_getElem_cons hk,List.take_append_drop]
  rw[used_take hi] at h3
  have h4:cn (gn (c.link i).dests k) ((c.link i).src :: (c.link i).dests)=cn (gn (c.link i).dests k) ((c.link i).src :: (c.link i).dests.take k)+cn (gn (c.link i).dests k) (gn (c.link i).dests k :: (c.link i).dests.drop (k+1)):=by
   exact(congrArg (cn (gn (c.link i).dests k)) (congrArg (List.cons (c.link i).src) e)).trans (by rw[←List.cons_append,cn_app])
  have h5:0<cn (gn (c.link i).dests k) (gn (c.link i).dests k :: (c.link i).dests.drop (k+1)):=cn_pos.2 (by simp)
  rw[cn_app] at h h3
  have:=h2 (gn (c.link i).dests k)
  omega
end Go.Proofs.YtjcgdcadflplcaaDoor.AM.D21
namespace Go.Proofs.YtjcgdcadflplcaaDoor.AM.D21
open Go Go.Proofs.YtjcgdcadflplcaaDoor.AM Go.Proofs.YtjcgdcadflplcaaDoor.AM.C02
set_option maxHeartbeats 2000000
set_option maxRecDepth 100000
attribute [local go_sem] tn_add1 tn_sub1 put_all' nums_len aop_mn aop_mx mnO_int mxO_int sub12 sub3 sub6 rep6
set_option maxHeartbeats 20000000
theorem W_dest {N:Nat} {H H0:Heap} {c:Cfg} {h:Hd} {C:List Cell} {ρ:Env} {b1 b2 b3 b5 b6 i m n nd:Nat} {ad:Option Ad} {od:Bool} {cd:Nat} {s:Pt} {Q:Ex→St→Prop} {C5:List Cell}
  (hc:CfgM N H0 c h) (hN:N≤H.length) (hC:C=c.cells h) (hH:∀b,b<N→H[b]?=H0[b]?) (hm:c.ports.length=m) (hm64:m≤64) (hi:i<c.links.length) (hnd:(c.link i).dests.length=nd) (hnd0:0<nd) (hndb:nd≤maxLen) (hs:s=c.port (c.link i).src)
  (hC5:C5=[.int .i64 (c.link i).src,.sl ad nd cd od,.int .i64 (c.link i).off]) (had:Sl H 1 ad nd (nums (c.link i).dests)) (hadN:∀b x,ad=some (b,x)→b<N)
  (g1:H[b1]?=some (.cells C false none)) (g2:H[b2]?=some (.cells [.bool false] false none)) (g3:H[b3]?=some (.cells (nums (tkn m (Cfg.used (c.links.take i)++[(c.link i).src]))) false none)) (g5:H[b5]?=some (.cells C5 false none)) (g6:H[b6]?=some (.cells s.cells false none))
  (hb:N≤b1∧b1<b2∧b2<b3∧b3<b5∧b5<b6) (hds:DsOk c i 0)
  (e1:ρ 1=.c (.ptr (some (b1,0)))) (e2:ρ 2=.c (.ptr (some (b2,0)))) (e3:ρ 3=.c (.sl (some (b3,0)) m m false)) (e5:ρ 5=.c (.ptr (some (b5,0)))) (e6:ρ 6=.c (.ptr (some (b6,0)))) (e78:ρ 78=.c (.sl ad nd cd od)) (e79:ρ 79=.c (.int .i64 (nd:Nat))) (e80:ρ 80=.c (.int .i64 0))
  (hok:∀ρ' H',ρ' 1=ρ 1→ρ' 2=ρ 2→ρ' 3=ρ 3→ρ' 27=ρ 27→ρ' 28=ρ 28→ρ' 29=ρ 29→DsOk c i nd→H.length≤H'.length→(∀b,b<H.length→b≠b3→H'[b]?=H[b]?)→H'[b3]?=some (.cells (nums (tkn m (Cfg.used (c.links.take (i+1))))) false none)→Q (.exit 1) ⟨L 195 ρ',[],H'⟩)
  (hno:∀ρ' H',ρ' 2=ρ 2→¬c.okLinks→H.length≤H'.length→(∀b,b<H.length→b≠b2→b≠b3→H'[b]?=H[b]?)→H'[b2]?=some (.cells [.bool false] false none)→Q .ret ⟨L 195 ρ',[],H'⟩):
  W F none (.loop bXg_20) ⟨L 195 ρ,[],H⟩ Q:=by
 have hmx:maxLen=2 ^ 32∨True:=.inr trivial
 refine W_loop (fun q st=>∃ρ' k Hk,st=⟨L 195 ρ',[],Hk⟩∧q=nd-k∧k<nd∧ρ' 1=ρ 1∧ρ' 2=ρ 2∧ρ' 3=ρ 3∧ρ' 5=ρ 5∧ρ' 6=ρ 6∧ρ' 27=ρ 27∧ρ' 28=ρ 28∧ρ' 29=ρ 29∧ρ' 78=.c (.sl ad nd cd od)∧ρ' 79=.c (.int .i64 (nd:Nat))∧ρ' 80=.c (.int .i64 (k:Nat))∧DsOk c i k∧H.length≤Hk.length∧(∀b,b<H.length→b≠b3→Hk[b]?=H[b]?)∧Hk[b3]?=some (.cells (nums (tkn m (Cfg.used (c.links.take i)++((c.link i).src :: (c.link i).dests.take k)))) false none)) nd ⟨_,0,H,rfl,rfl,hnd0,rfl,rfl,rfl,rfl,rfl,rfl,rfl,rfl,e78,e79,e80,hds,Nat.le_refl _,fun _ _ _=>rfl,g3⟩ ?_
 clear e78 e79 e80 g3 hds
 rintro q st ⟨ρ',k,Hk,rfl,rfl,hk,z1,z2,z3,z5,z6,z27,z28,z29,z78,z79,z80,hds,lk,xk,k3⟩
 unfold bXg_20
 have hmx:maxLen=9223372036854775807:=rfl
 obtain⟨hb1,hb2,hb3,hb5,hb6⟩:=hb
 have lb6:=lt_of_get g6
 subst hC
 unfold Cfg.cells at g1
 have yk:∀b,b<N→Hk[b]?=H0[b]?:=fun b hb=>(xk b (by omega) (by omega)).trans (hH b hb)
 have hcp:∀Hx:Heap,(∀b,b<N→Hx[b]?=Hk[b]?)→N≤Hx.length→∀v,_:=fun Hx hx hl v=>s_port (n:=v) (hc.keep (H':=Hx) fun b hb=>(hx b hb).trans (yk b hb)) hl (by rw[hm];exact hm64)
 rw[hm] at hcp
 have k1:Hk[b1]?=_:=(xk b1 (by omega) (by omega)).trans g1
 have k2:Hk[b2]?=_:=(xk b2 (by omega) (by omega)).trans g2
 have k5:Hk[b5]?=_:=(xk b5 (by omega) (by omega)).trans g5
 have k6:Hk[b6]?=_:=(xk b6 (by omega) (by omega)).trans g6
 have hadk:Sl Hk 1 ad nd (nums (c.link i).dests):=had.keep fun b x e=>xk b (by have:=hadN b x e;omega) (by have:=hadN b x e;omega)
 obtain⟨⟨la,y⟩,rfl⟩:=hadk.is_some (by omega)
 have hld:=Sl.gn hadk hnd hk
 dsimp only at hld
 subst hC5
 have hla:la<N:=hadN la y rfl
 have hno':∀v,v=gn (c.link i).dests k→(¬c.okDest (c.link i).src v∨0<cn v (Cfg.used (c.links.take i)++((c.link i).src :: (c.link i).dests.take k)))→¬c.okLinks:=fun v e h'=>by subst e;exact no_dest hi (by omega) h'
 have hstep:∀v,v=gn (c.link i).dests k→c.okDest (c.link i).src v→cn v (Cfg.used (c.links.take i)++((c.link i).src :: (c.link i).dests.take k))=0→DsOk c i (k+1):=fun v e h1 h2=>by subst e;exact hds.next (by omega) h1 h2
 have htk:∀v,v=gn (c.link i).dests k→Cfg.used (c.links.take i)++((c.link i).src :: (c.link i).dests.take k)++[v]=Cfg.used (c.links.take i)++((c.link i).src :: (c.link i).dests.take (k+1)):=fun v e=>by
  subst e
  rw[List.take_succ_eq_append_getElem (show k<(c.link i).dests.length by omega),List.append_assoc,List.cons_append]
  simp[gn,show k<(c.link i).dests.length by omega]
 have hend:k+1=nd→Cfg.used (c.links.take i)++((c.link i).src :: (c.link i).dests.take (k+1))=Cfg.used (c.links.take (i+1)):=fun e=>by
  rw[e,←hnd,List.take_length,used_take hi]
 obtain⟨v,hv⟩:∃v,v=gn (c.link i).dests k:=⟨_,rfl⟩
 rw[←hv] at hld
 have hno':=hno' v hv
 have hstep:=hstep v hv
 have htk:=htk v hv
 have hdest:c.okDest (c.link i).src v↔((0≤v∧v<(m:Int))∧(c.port v).dir=2∧(c.port v).kind=s.kind∧(c.port v).size=s.size):=by unfold Cfg.okDest Cfg.isP;rw[hm,hs]
 have hisP:c.isP v↔(0≤v∧v<(m:Int)):=by unfold Cfg.isP;rw[hm]
 obtain⟨U,hU⟩:∃U,U=Cfg.used (c.links.take i)++((c.link i).src :: (c.link i).dests.take k):=⟨_,rfl⟩
 rw[←hU] at hno' hstep htk k3
 generalize c.okDest (c.link i).src v=P at *
 have hget:0≤v→v<(m:Int)→(nums (tkn m U))[v.toNat]?=some (.int .i64 ((cn v U:Nat):Int)):=fun h1 h2=>by
  rw[nums_get (by rw[tkn_len];omega),tkn_gn (by omega),show ((v.toNat:Nat):Int)=v by omega]
 have hset:0≤v→v<(m:Int)→(nums (tkn m U)).set v.toNat (.int .i64 (((cn v U:Nat):Int)+1))=nums (tkn m (U++[v])):=fun h1 h2=>by
  have:=tkn_set (m:=m) (U:=U) (k:=v.toNat) (by omega)
  rwa [show ((v.toNat:Nat):Int)=v by omega] at this
 have hcl:(nums (tkn m U)).length=m:=by rw[nums_len,tkn_len]
 have hcnb:cn v U≤U.length:=List.countP_le_length
 obtain⟨s1,s2,s3,s4,s5,s6⟩:=s
 dsimp only [Pt.cells] at k6 hdest
 have fin0:=zhd6 hno' hstep htk hdest hisP hend
 have fin1:=zhd7 hcp xk lk hno hok hget hset
 have fin2:=zhd3 hds hU hm
 clear hno' hstep htk hdest hisP hend hcp xk lk hno hok hget hset hds hU had hadk hH yk hc hs hv g1 g2 g5 g6 hm
 have hmk:k<9223372036854775807:=by omega
 repeat (with_reducible first|(first|refine pI1 ?_|refine pS1 ?_);intros|refine pA1 ?_|refine pX1 ?_|refine pB1 ?_|exact True.intro)
 have hcp:=fin1 _ fun hcp _ _ _ _ _ _=>hcp
 refine outM_call (hcp Hk (fun _ _=>rfl) (by have:=lt_of_get k6;omega) v) ?_
 clear hcp
 rintro _ H4 ⟨⟨p,rfl,hp⟩,l4,x4⟩
 have m1:H4[b1]?=_:=(x4 b1 (lt_of_get k1)).trans k1
 have m2:H4[b2]?=_:=(x4 b2 (lt_of_get k2)).trans k2
 have m3:H4[b3]?=_:=(x4 b3 (lt_of_get k3)).trans k3
 have m5:H4[b5]?=_:=(x4 b5 (lt_of_get k5)).trans k5
 have m6:H4[b6]?=_:=(x4 b6 (lt_of_get k6)).trans k6
 have lb6':=lt_of_get k6
 obtain⟨p1,p2,p3,p4,p5,p6⟩:=p
 dsimp only [Pt.cells]
 have fin3:=zhd2 hp x4
 clear hp x4 k1 k2 k3 k5 k6 hld
 have key:∀Hx,Xt H4 Hx→∀b,b<H.length→b≠b3→Hx[b]?=H[b]?:=fun Hx hx b hb hne=>by
  rw[hx.2 b (fin1 _ fun _ _ lk _ _ _ _=>by omega),fin3 _ fun _ x4=>x4 b (fin1 _ fun _ _ lk _ _ _ _=>by omega)]
  exact fin1 _ fun _ xk _ _ _ _ _=>xk b hb hne
 have hlen4:H.length≤H4.length:=fin1 _ fun _ _ lk _ _ _ _=>by omega
 have fin4:=zhd1 key
 clear key
 by_cases hv1:0≤v∧v≤(m:Int)-1
 case neg=>
  have hP:¬P:=fun h=>hv1 (by have:=((fin0 _ fun _ _ _ hd _ _=>hd).1 h).1;omega)
  rw[decide_eq_false hv1]
  repeat (with_reducible first|(first|refine pI1 ?_|refine pS1 ?_);intros|refine pA1 ?_|refine pX1 ?_|refine pB1 ?_|exact True.intro)
  rename_i b8 H8 q8 g8 x8 H9 l9 g9 x9 H10 l10 g10 x10
  have z:Xt H4 H9:=⟨by omega,fun b hb=>by rw[x9 b (by omega),x8 b (by omega)]⟩
  refine fin1 _ fun _ _ _ hno _ _ _=>?_
  exact hno _ _ zf (fin0 _ fun hn _ _ _ _ _=>hn (.inl hP)) (by omega) (fun b hb hn2 hn3=>by rw[x10 b hn2];exact fin4 _ fun key=>key _ z b hb hn3) g10
 rw[decide_eq_true hv1]
 obtain⟨v1,v2⟩:=hv1
 have hpe:=fin3 _ fun hp _=>hp ((fin0 _ fun _ _ _ _ h _=>h).2 ⟨v1,by omega⟩)
 have hdp:P↔(p3=2∧p2=s2∧p4=s4):=by
  have hd:=fin0 _ fun _ _ _ hd _ _=>hd
  rw[←hpe] at hd
  dsimp only at hd
  rw[hd]
  constructor
  ·rintro⟨_,h1,h2,h3⟩;exact⟨h1,h2,h3⟩
  ·rintro⟨h1,h2,h3⟩;exact⟨⟨v1,by omega⟩,h1,h2,h3⟩
 have fin5:=zhd1 hdp
 have hgt:=fin1 _ fun _ _ _ _ _ hg _=>hg v1 (by omega)
 have hvm:v.toNat<m:=by omega
 have hv64:v<9223372036854775807:=by omega
 clear hpe hdp
 by_cases hd:p3=2∧p2=s2∧p4=s4
 case neg=>
  have hP:¬P:=fun h=>hd (fin5 _ fun hi=>hi.1 h)
  by_cases h3:p3=2
  ·by_cases h2:p2=s2
   ·have h4:¬p4=s4:=fun h=>hd ⟨h3,h2,h⟩
    repeat (with_reducible first|(first|refine pI1 ?_|refine pS1 ?_);intros|refine pA1 ?_|refine pX1 ?_|refine pB1 ?_|exact True.intro)
    rename_i b8 H8 q8 g8 x8 H9 l9 g9 x9 H10 l10 g10 x10
    have z:Xt H4 H9:=⟨by omega,fun b hb=>by rw[x9 b (by omega),x8 b (by omega)]⟩
    refine fin1 _ fun _ _ _ hno _ _ _=>?_
    exact hno _ _ zf (fin0 _ fun hn _ _ _ _ _=>hn (.inl hP)) (by omega) (fun b hb hn2 hn3=>by rw[x10 b hn2];exact fin4 _ fun key=>key _ z b hb hn3) g10
   ·repeat (with_reducible first|(first|refine pI1 ?_|refine pS1 ?_);intros|refine pA1 ?_|refine pX1 ?_|refine pB1 ?_|exact True.intro)
    rename_i b8 H8 q8 g8 x8 H9 l9 g9 x9 H10 l10 g10 x10
    have z:Xt H4 H9:=⟨by omega,fun b hb=>by rw[x9 b (by omega),x8 b (by omega)]⟩
    refine fin1 _ fun _ _ _ hno _ _ _=>?_
    exact hno _ _ zf (fin0 _ fun hn _ _ _ _ _=>hn (.inl hP)) (by omega) (fun b hb hn2 hn3=>by rw[x10 b hn2];exact fin4 _ fun key=>key _ z b hb hn3) g10
  ·repeat (with_reducible first|(first|refine pI1 ?_|refine pS1 ?_);intros|refine pA1 ?_|refine pX1 ?_|refine pB1 ?_|exact True.intro)
   rename_i b8 H8 q8 g8 x8 H9 l9 g9 x9 H10 l10 g10 x10
   have z:Xt H4 H9:=⟨by omega,fun b hb=>by rw[x9 b (by omega),x8 b (by omega)]⟩
   refine fin1 _ fun _ _ _ hno _ _ _=>?_
   exact hno _ _ zf (fin0 _ fun hn _ _ _ _ _=>hn (.inl hP)) (by omega) (fun b hb hn2 hn3=>by rw[x10 b hn2];exact fin4 _ fun key=>key _ z b hb hn3) g10
 have hP:P:=fin5 _ fun hi=>hi.2 hd
 obtain⟨rfl,rfl,rfl⟩:=hd
 by_cases hcn:(0:Int)<((cn v U:Nat):Int)
 ·repeat (with_reducible first|(first|refine pI1 ?_|refine pS1 ?_);intros|refine pA1 ?_|refine pX1 ?_|refine pB1 ?_|exact True.intro)
  rename_i b8 H8 q8 g8 x8 H9 l9 g9 x9 H10 l10 g10 x10
  have z:Xt H4 H9:=⟨by omega,fun b hb=>by rw[x9 b (by omega),x8 b (by omega)]⟩
  refine fin1 _ fun _ _ _ hno _ _ _=>?_
  exact hno _ _ zf (fin0 _ fun hn _ _ _ _ _=>hn (.inr (by omega))) (by omega) (fun b hb hn2 hn3=>by rw[x10 b hn2];exact fin4 _ fun key=>key _ z b hb hn3) g10
 have hcz:cn v U=0:=by omega
 have hds':=fin2 _ fun hds hU hm=>(fin0 _ fun _ hstep _ _ _ _=>hstep hP hcz)
 have hst:=fin1 _ fun _ _ _ _ _ _ hs=>hs v1 (by omega)
 rw[hcz] at hgt hst
 have hgt:(nums (tkn m U))[v.toNat]?=some (.int .i64 0):=hgt
 have hst:(nums (tkn m U)).set v.toNat (.int .i64 1)=nums (tkn m (U++[v])):=hst
 rw[fin0 _ fun _ _ h _ _ _=>h] at hst
 have fin6:=zhd2 hds' hst
 clear hcn hcz hds' hst hcnb fin5
 by_cases hlast:k+1=nd
 ·have hl1:(k:Int)=(nd:Int)-1:=by omega
  repeat (with_reducible first|(first|refine pI1 ?_|refine pS1 ?_);intros|refine pA1 ?_|refine pX1 ?_|refine pB1 ?_|exact True.intro)
  rename_i b8 H8 q8 g8 x8 H9 l9 g9 x9 H10 l10 g10 x10
  have z:Xt H4 H9:=⟨by omega,fun b hb=>by rw[x9 b (by omega),x8 b (by omega)]⟩
  have g10':H10[b3]?=some (.cells (nums (tkn m (Cfg.used (c.links.take (i+1))))) false none):=by
   rw[←fin0 _ fun _ _ _ _ _ h=>h hlast,←fin6 _ fun _ h=>h];exact g10
  refine fin1 _ fun _ _ _ _ hok _ _=>?_
  exact hok _ _ zf zf zf zf zf zf (fin6 _ fun h _=>by rw[←hlast];exact h) (by omega) (fun b hb hn=>by rw[x10 b hn];exact fin4 _ fun key=>key _ z b hb hn) g10'
 ·have hl1:¬(k:Int)=(nd:Int)-1:=by omega
  repeat (with_reducible first|(first|refine pI1 ?_|refine pS1 ?_);intros|refine pA1 ?_|refine pX1 ?_|refine pB1 ?_|exact True.intro)
  rename_i b8 H8 q8 g8 x8 H9 l9 g9 x9 H10 l10 g10 x10
  have z:Xt H4 H9:=⟨by omega,fun b hb=>by rw[x9 b (by omega),x8 b (by omega)]⟩
  have g10':H10[b3]?=some (.cells (nums (tkn m (Cfg.used (c.links.take i)++((c.link i).src :: (c.link i).dests.take (k+1))))) false none):=by
   rw[←fin6 _ fun _ h=>h];exact g10
  exact loopQ_n (nd-(k+1)) (by omega) ⟨_,k+1,H10,rfl,rfl,by omega,zf,zf,zf,zf,zf,zf,zf,zf,zf,zf,zf,fin6 _ fun h _=>h,by omega,fun b hb hn=>by rw[x10 b hn];exact fin4 _ fun key=>key _ z b hb hn,g10'⟩
end Go.Proofs.YtjcgdcadflplcaaDoor.AM.D21
