/- What the functions that this law reaches come to, each walked once, and the plain laws that stand behind them. -/
import Derived.Test.YtjcgdcadflplcaaDoorA4
import Derived.Test.YtjcgdcadflplcaaDoorB2
import Derived.Test.YtjcgdcadflplcaaDoorB1
import Derived.Test.YtjcgdcadflplcaaDoorB3
set_option linter.unusedVariables false
set_option linter.unusedSimpArgs false
set_option linter.unusedSectionVars false
namespace Go.Proofs.YtjcgdcadflplcaaDoor.AM.D21
open Go Go.Proofs.YtjcgdcadflplcaaDoor.AM Go.Proofs.YtjcgdcadflplcaaDoor.AM.P3
set_option maxHeartbeats 2000000
set_option maxRecDepth 100000
theorem s_state {H:Heap} {slot:Int} {mem:Nat} (hm:mem<65536):
  WC F fX15 [.agg [.int .i64 slot,.int .u16 (mem:Nat)]] H fun v H'=>∃b,v=.c (.sl (some (b,0)) 6 6 false)∧H.length≤b∧b<H'.length∧H'[b]?=some (.cells (nats .u8 (stBy slot mem)) false none)∧X1 H H':=by
 refine WC_start eX15 (by simp) ?_
 unfold cX15
 repeat (with_reducible first|(first|refine pI1 ?_|refine pS1 ?_);intros|refine pA1 ?_|refine pX1 ?_|refine pB1 ?_|exact True.intro)
 rename_i b1 H1 l1 g1 x1 b2 H2 l2 g2 x2
 simp only[List.reduceReplicate,List.set_cons_zero,List.set_cons_succ] at g2
 exact⟨_,rfl,by omega,by omega,g2,by omega,fun b hb=>by simp (disch:=first|with_reducible assumption|omega) only [go_sem,*,reduceCtorEq,↓reduceIte,Nat.reduceLT,Nat.reduceBEq,Nat.reduceAdd,Nat.reduceSub,Nat.reduceMul,Nat.reduceDiv,Nat.reduceMod,Nat.reducePow,Nat.reduceEqDiff,Nat.reduceLeDiff,Int.reduceLT,Int.reduceLE,Int.reduceNeg,Int.reduceToNat,Int.reduceAdd,Int.reduceSub,Int.reduceMul,Int.reduceEq,Int.reduceNe,Int.reduceBEq,Int.reduceBNe,Int.reducePow]⟩
theorem s_State {H:Heap} {slot:Int} {mem:Nat} (hm:mem<65536):
  WC F fX1q [.agg [.int .i64 slot,.int .u16 (mem:Nat)]] H fun v H'=>∃b,v=.c (.sl (some (b,0)) 6 6 false)∧H.length≤b∧b<H'.length∧H'[b]?=some (.cells (nats .u8 (stBy slot mem)) false none)∧X1 H H':=by
 refine WC_start eX1q (by simp) ?_
 unfold cX1q
 repeat (with_reducible first|(first|refine pI1 ?_|refine pS1 ?_);intros|refine pA1 ?_|refine pX1 ?_|refine pB1 ?_|exact True.intro)
 rename_i b1 H1 l1 g1 x1 b2 H2 l2 g2 x2
 simp only[List.reduceReplicate,List.set_cons_zero,List.set_cons_succ] at g2
 exact⟨_,rfl,by omega,by omega,g2,by omega,fun b hb=>by simp (disch:=first|with_reducible assumption|omega) only [go_sem,*,reduceCtorEq,↓reduceIte,Nat.reduceLT,Nat.reduceBEq,Nat.reduceAdd,Nat.reduceSub,Nat.reduceMul,Nat.reduceDiv,Nat.reduceMod,Nat.reducePow,Nat.reduceEqDiff,Nat.reduceLeDiff,Int.reduceLT,Int.reduceLE,Int.reduceNeg,Int.reduceToNat,Int.reduceAdd,Int.reduceSub,Int.reduceMul,Int.reduceEq,Int.reduceNe,Int.reduceBEq,Int.reduceBNe,Int.reducePow]⟩
attribute [local go_sem] nibB in
theorem s_More {H:Heap} {n0:Nat} {a:Option Ad} {n c:Nat} {o:Bool} {l:List Nat} (hT:H[0]?=some nibB) (hs:Sl H 1 a n (nats .u8 l)) (hn:n≤100000) (hby:∀i,gx l i<256):
  WC F fX2b [.c (.int .u32 (n0:Nat)),.c (.sl a n c o)] H fun v H'=>v=.c (.int .u32 (mor n0 l:Nat))∧H'=H:=by
 refine WC_start eX2b (by simp) ?_
 unfold cX2b
 have hlen:=hs.len
 rw[nats_len,Nat.mul_one] at hlen
 have hs_n:=hs.nil;have hs_l:=hs.lt0;have hs_a:=hs.at;have hs_0:=hs.at0
 repeat (with_reducible first|(first|refine pI1 ?_|refine pS1 ?_);intros|refine pA1 ?_|refine pX1 ?_|refine pB1 ?_|exact True.intro)
 refine W_loop (fun m st=>∃ρ k,st=⟨L 37 ρ,[],H⟩∧m=n-k∧k≤n∧ρ 10=.c (.sl a n c o)∧ρ 11=.c (.int .i64 n)∧ρ 12=.c (.int .i64 (k:Nat))∧ρ 5=.c (.int .u32 ((l.take k).foldl sby (inv n0):Nat))) n ⟨_,0,rfl,rfl,by omega,zf,zf,zf,zf⟩ ?_
 rintro m st ⟨ρ,k,rfl,rfl,hk,e10,e11,e12,e5⟩
 unfold bX2b_9
 have hnl:nibN.length=16:=rfl
 have hb:=foldl_lt sby_lt (l.take k) (inv_lt n0)
 have hy:=hby k
 repeat (with_reducible first|(first|refine pI1 ?_|refine pS1 ?_);intros|refine pA1 ?_|refine pX1 ?_|refine pB1 ?_|exact True.intro)
 first|refine ifM_d ?_ ?_|refine gM_dt ?_ ?_|refine gM_df ?_ ?_
 ·intro hlt
  repeat (with_reducible first|(first|refine pI1 ?_|refine pS1 ?_);intros|refine pA1 ?_|refine pX1 ?_|refine pB1 ?_|exact True.intro)
  refine loopQ_n (n-(k+1)) (by omega) ⟨_,k+1,rfl,rfl,by omega,zf,zf,zf,?_⟩
  simp (disch:=first|with_reducible assumption|omega) only [go_sem,*,reduceCtorEq,↓reduceIte,Nat.reduceLT,Nat.reduceBEq,Nat.reduceAdd,Nat.reduceSub,Nat.reduceMul,Nat.reduceDiv,Nat.reduceMod,Nat.reducePow,Nat.reduceEqDiff,Nat.reduceLeDiff,Int.reduceLT,Int.reduceLE,Int.reduceNeg,Int.reduceToNat,Int.reduceAdd,Int.reduceSub,Int.reduceMul,Int.reduceEq,Int.reduceNe,Int.reduceBEq,Int.reduceBNe,Int.reducePow]
  rw[foldl_take _ (by omega)];rfl
 ·intro hge
  repeat (with_reducible first|(first|refine pI1 ?_|refine pS1 ?_);intros|refine pA1 ?_|refine pX1 ?_|refine pB1 ?_|exact True.intro)
  have:k=n:=by omega
  subst this
  rw[←hlen,List.take_length];exact⟨rfl,rfl⟩
theorem s_Sum {H:Heap} {a:Option Ad} {n c:Nat} {o:Bool} {l:List Nat} (hT:H[0]?=some nibB) (hs:Sl H 1 a n (nats .u8 l)) (hn:n≤100000) (hby:∀i,gx l i<256):
  WC F fX2c [.c (.sl a n c o)] H fun v H'=>v=.c (.int .u32 (mor 0 l:Nat))∧H'=H:=by
 refine WC_start eX2c (by simp) ?_
 unfold cX2c
 repeat (with_reducible first|(first|refine pI1 ?_|refine pS1 ?_);intros|refine pA1 ?_|refine pX1 ?_|refine pB1 ?_|exact True.intro)
 refine outM_call (s_More (n0:=0) hT hs hn hby) ?_
 rintro _ _ ⟨rfl,rfl⟩
 repeat (with_reducible first|(first|refine pI1 ?_|refine pS1 ?_);intros|refine pA1 ?_|refine pX1 ?_|refine pB1 ?_|exact True.intro)
 exact⟨rfl,rfl⟩
theorem s_steps {H:Heap} {n:Nat} (hn:n<4294967296):
  WC F fX1a [.c (.int .u32 (n:Nat))] H fun v H'=>v=.c (.int .u32 (its st1 8 n:Nat))∧H'=H:=by
 refine WC_start eX1a (by simp) ?_
 unfold cX1a
 repeat (with_reducible first|(first|refine pI1 ?_|refine pS1 ?_);intros|refine pA1 ?_|refine pX1 ?_|refine pB1 ?_|exact True.intro)
 refine W_loop (fun m st=>∃ρ k,st=⟨L 18 ρ,[],H⟩∧m=8-k∧k≤8∧its st1 k n<4294967296∧ρ 3=.c (.int .i64 (k:Nat))∧ρ 0=.c (.int .u32 (its st1 k n:Nat))) 8 ⟨_,0,rfl,rfl,by omega,hn,zf,zf⟩ ?_
 rintro m st ⟨ρ,k,rfl,rfl,hk,hb,e3,e0⟩
 unfold bX1a_8
 repeat (with_reducible first|(first|refine pI1 ?_|refine pS1 ?_);intros|refine pA1 ?_|refine pX1 ?_|refine pB1 ?_|exact True.intro)
 first|refine ifM_d ?_ ?_|refine gM_dt ?_ ?_|refine gM_df ?_ ?_
 ·intro hlt
  repeat (with_reducible first|(first|refine pI1 ?_|refine pS1 ?_);intros|refine pA1 ?_|refine pX1 ?_|refine pB1 ?_|exact True.intro)
  first|refine ifM_d ?_ ?_|refine gM_dt ?_ ?_|refine gM_df ?_ ?_
  ·intro h1
   have e:its st1 (k+1) n=(its st1 k n / 2 ^^^ 3988292384) % 4294967296:=by show st1 _=_;rw[st1,if_pos (by omega)]
   repeat (with_reducible first|(first|refine pI1 ?_|refine pS1 ?_);intros|refine pA1 ?_|refine pX1 ?_|refine pB1 ?_|exact True.intro)
   refine loopQ_n (8-(k+1)) (by omega) ⟨_,k+1,rfl,rfl,by omega,?_,zf,?_⟩
   ·rw[e];exact Nat.mod_lt _ (by decide)
   ·rw[e];exact zf
  ·intro h1
   have e:its st1 (k+1) n=its st1 k n / 2:=by show st1 _=_;rw[st1,if_neg (by omega)]
   repeat (with_reducible first|(first|refine pI1 ?_|refine pS1 ?_);intros|refine pA1 ?_|refine pX1 ?_|refine pB1 ?_|exact True.intro)
   refine loopQ_n (8-(k+1)) (by omega) ⟨_,k+1,rfl,rfl,by omega,?_,zf,?_⟩
   ·rw[e];omega
   ·rw[e];exact zf
 ·intro hge
  repeat (with_reducible first|(first|refine pI1 ?_|refine pS1 ?_);intros|refine pA1 ?_|refine pX1 ?_|refine pB1 ?_|exact True.intro)
  have:k=8:=by omega
  subst this
  exact⟨rfl,rfl⟩
theorem its_lt {n:Nat} (hn:n<4294967296):∀k,its st1 k n<4294967296
 |0=>hn
 |k+1=>by
  have:=its_lt hn k
  show st1 _<_
  rw[st1];split
  ·exact Nat.mod_lt _ (by decide)
  ·omega
theorem rby_lt (n c:Nat):rby n c<4294967296:=its_lt (Nat.mod_lt _ (by decide)) 8
theorem s_rMore {H:Heap} {n0:Nat} {a:Option Ad} {n c:Nat} {o:Bool} {l:List Nat} (hn0:n0<4294967296) (hs:Sl H 1 a n (nats .u8 l)) (hn:n≤100000) (hby:∀i,gx l i<256):
  WC F fX18 [.c (.int .u32 (n0:Nat)),.c (.sl a n c o)] H fun v H'=>v=.c (.int .u32 (rmor n0 l:Nat))∧H'=H:=by
 refine WC_start eX18 (by simp) ?_
 unfold cX18
 have hlen:=hs.len
 rw[nats_len,Nat.mul_one] at hlen
 have hs_n:=hs.nil;have hs_l:=hs.lt0;have hs_a:=hs.at;have hs_0:=hs.at0
 repeat (with_reducible first|(first|refine pI1 ?_|refine pS1 ?_);intros|refine pA1 ?_|refine pX1 ?_|refine pB1 ?_|exact True.intro)
 refine W_loop (fun m st=>∃ρ k,st=⟨L 25 ρ,[],H⟩∧m=n-k∧k≤n∧ρ 1=.c (.sl a n c o)∧ρ 6=.c (.int .i64 (k:Nat))∧ρ 5=.c (.int .u32 ((l.take k).foldl rby (4294967295-n0):Nat))) n ⟨_,0,rfl,rfl,by omega,zf,zf,zf⟩ ?_
 rintro m st ⟨ρ,k,rfl,rfl,hk,e1,e6,e5⟩
 unfold bX18_6
 have hb:=foldl_lt rby_lt (l.take k) (show 4294967295-n0<4294967296 by omega)
 have hy:=hby k
 repeat (with_reducible first|(first|refine pI1 ?_|refine pS1 ?_);intros|refine pA1 ?_|refine pX1 ?_|refine pB1 ?_|exact True.intro)
 first|refine ifM_d ?_ ?_|refine gM_dt ?_ ?_|refine gM_df ?_ ?_
 ·intro hlt
  repeat (with_reducible first|(first|refine pI1 ?_|refine pS1 ?_);intros|refine pA1 ?_|refine pX1 ?_|refine pB1 ?_|exact True.intro)
  refine outM_call (s_steps (n:=(List.foldl rby (4294967295-n0) (List.take k l) ^^^ gx l k) % 4294967296) (Nat.mod_lt _ (by decide))) ?_
  rintro _ _ ⟨rfl,rfl⟩
  repeat (with_reducible first|(first|refine pI1 ?_|refine pS1 ?_);intros|refine pA1 ?_|refine pX1 ?_|refine pB1 ?_|exact True.intro)
  refine loopQ_n (n-(k+1)) (by omega) ⟨_,k+1,rfl,rfl,by omega,zf,zf,?_⟩
  simp (disch:=first|with_reducible assumption|omega) only [go_sem,*,reduceCtorEq,↓reduceIte,Nat.reduceLT,Nat.reduceBEq,Nat.reduceAdd,Nat.reduceSub,Nat.reduceMul,Nat.reduceDiv,Nat.reduceMod,Nat.reducePow,Nat.reduceEqDiff,Nat.reduceLeDiff,Int.reduceLT,Int.reduceLE,Int.reduceNeg,Int.reduceToNat,Int.reduceAdd,Int.reduceSub,Int.reduceMul,Int.reduceEq,Int.reduceNe,Int.reduceBEq,Int.reduceBNe,Int.reducePow]
  rw[foldl_take _ (by omega)];rfl
 ·intro hge
  repeat (with_reducible first|(first|refine pI1 ?_|refine pS1 ?_);intros|refine pA1 ?_|refine pX1 ?_|refine pB1 ?_|exact True.intro)
  have:k=n:=by omega
  subst this
  rw[←hlen,List.take_length];exact⟨rfl,rfl⟩
theorem s_rSum {H:Heap} {a:Option Ad} {n c:Nat} {o:Bool} {l:List Nat} (hs:Sl H 1 a n (nats .u8 l)) (hn:n≤100000) (hby:∀i,gx l i<256):
  WC F fX19 [.c (.sl a n c o)] H fun v H'=>v=.c (.int .u32 (rmor 0 l:Nat))∧H'=H:=by
 refine WC_start eX19 (by simp) ?_
 unfold cX19
 repeat (with_reducible first|(first|refine pI1 ?_|refine pS1 ?_);intros|refine pA1 ?_|refine pX1 ?_|refine pB1 ?_|exact True.intro)
 refine outM_call (s_rMore (n0:=0) (by decide) hs hn hby) ?_
 rintro _ _ ⟨rfl,rfl⟩
 repeat (with_reducible first|(first|refine pI1 ?_|refine pS1 ?_);intros|refine pA1 ?_|refine pX1 ?_|refine pB1 ?_|exact True.intro)
 exact⟨rfl,rfl⟩
theorem s_number {H:Heap} {a:Option Ad} {n c:Nat} {o:Bool} {l:List Nat} (hs:Sl H 1 a n (nats .u8 l)) (hn:n≤4) (hby:∀x∈l,x<256):
  WC F fX13 [.c (.sl a n c o)] H fun v H'=>v=.c (.int .i64 (num l:Nat))∧H'=H:=by
 refine WC_start eX13 (by simp) ?_
 unfold cX13
 have hlen:=hs.len
 rw[nats_len,Nat.mul_one] at hlen
 have hs_n:=hs.nil;have hs_l:=hs.lt0;have hs_a:=hs.at;have hs_0:=hs.at0
 repeat (with_reducible first|(first|refine pI1 ?_|refine pS1 ?_);intros|refine pA1 ?_|refine pX1 ?_|refine pB1 ?_|exact True.intro)
 refine W_loop (fun m st=>∃ρ k,st=⟨L 18 ρ,[],H⟩∧m=n-k∧k≤n∧ρ 5=.c (.sl a n c o)∧ρ 6=.c (.int .i64 n)∧ρ 7=.c (.int .i64 (k:Nat))∧ρ 2=.c (.int .i64 (num (l.take k):Nat))) n ⟨_,0,rfl,rfl,by omega,zf,zf,zf,zf⟩ ?_
 rintro m st ⟨ρ,k,rfl,rfl,hk,e5,e6,e7,e2⟩
 unfold bX13_6
 repeat (with_reducible first|(first|refine pI1 ?_|refine pS1 ?_);intros|refine pA1 ?_|refine pX1 ?_|refine pB1 ?_|exact True.intro)
 first|refine ifM_d ?_ ?_|refine gM_dt ?_ ?_|refine gM_df ?_ ?_
 ·intro hlt
  have hb:num (l.take k)<16777216:=by
   have:=num_lt (l.take k) 0 0 (fun x hx=>hby x (List.mem_of_mem_take hx)) (by decide)
   have h3:0+(l.take k).length≤3:=by simp;omega
   exact Nat.lt_of_lt_of_le this (Nat.pow_le_pow_right (by decide) h3)
  have hy:gx l k<256:=by
   have:gx l k=l[k]:=by simp[gx,List.getD_eq_getElem?_getD,show k<l.length by omega]
   rw[this];exact hby _ (List.getElem_mem _)
  have ht:((num (l.take k):Nat):Int) * 256=((num (l.take k) * 256:Nat):Int):=by push_cast;rfl
  repeat (with_reducible first|(first|refine pI1 ?_|refine pS1 ?_);intros|refine pA1 ?_|refine pX1 ?_|refine pB1 ?_|exact True.intro)
  refine loopQ_n (n-(k+1)) (by omega) ⟨_,k+1,rfl,rfl,by omega,zf,zf,zf,?_⟩
  simp (disch:=first|with_reducible assumption|omega) only [go_sem,*,reduceCtorEq,↓reduceIte,Nat.reduceLT,Nat.reduceBEq,Nat.reduceAdd,Nat.reduceSub,Nat.reduceMul,Nat.reduceDiv,Nat.reduceMod,Nat.reducePow,Nat.reduceEqDiff,Nat.reduceLeDiff,Int.reduceLT,Int.reduceLE,Int.reduceNeg,Int.reduceToNat,Int.reduceAdd,Int.reduceSub,Int.reduceMul,Int.reduceEq,Int.reduceNe,Int.reduceBEq,Int.reduceBNe,Int.reducePow]
  rw[show num (l.take (k+1))=num (l.take k) * 256+gx l k from foldl_take _ (by omega)]
 ·intro hge
  repeat (with_reducible first|(first|refine pI1 ?_|refine pS1 ?_);intros|refine pA1 ?_|refine pX1 ?_|refine pB1 ?_|exact True.intro)
  have:k=n:=by omega
  subst this
  rw[←hlen,List.take_length];exact⟨rfl,rfl⟩
end Go.Proofs.YtjcgdcadflplcaaDoor.AM.D21
namespace Go.Proofs.YtjcgdcadflplcaaDoor.AM.D21
open Go Go.Proofs.YtjcgdcadflplcaaDoor.AM Go.Proofs.YtjcgdcadflplcaaDoor.AM.P3
set_option maxHeartbeats 2000000
set_option maxRecDepth 100000
attribute [local go_sem] fr0C sub67 sub12 putP z64_len
end Go.Proofs.YtjcgdcadflplcaaDoor.AM.D21
namespace Go.Proofs.YtjcgdcadflplcaaDoor.AM.D21
open Go Go.Proofs.YtjcgdcadflplcaaDoor.AM Go.Proofs.YtjcgdcadflplcaaDoor.AM.P3
set_option maxHeartbeats 2000000
set_option maxRecDepth 100000
attribute [local go_sem] fr0C sub67 sub12 putP z64_len
theorem s_checked {H:Heap} {a:Option Ad} {n c:Nat} {o:Bool} {l:List Nat} {k:Nat} (hs:Sl H 1 a n (nats .u8 l)) (hn:n=75) (hk:k<4294967296):
  WC F fX12 [.c (.sl a n c o),.c (.int .u32 (k:Nat))] H fun v H'=>v=.c (.bool (decide (okS l k)))∧H'=H:=by
 subst hn
 refine WC_start eX12 (by simp) ?_
 unfold cX12
 have hlen:=hs.len
 rw[nats_len,Nat.mul_one] at hlen
 have hs_n:=hs.nil;have hs_l:=hs.lt0;have hs_a:=hs.at;have hs_0:=hs.at0
 by_cases c1:gx l 71=k % 256
 ·by_cases c2:gx l 72=k / 256 % 256
  ·by_cases c3:gx l 73=k / 65536 % 256
   ·repeat (with_reducible first|(first|refine pI1 ?_|refine pS1 ?_);intros|refine pA1 ?_|refine pX1 ?_|refine pB1 ?_|exact True.intro)
    have:okS l k↔gx l 74=k / 16777216:=by unfold okS;simp[c1,c2,c3]
    rw[dec_iff this]
    exact⟨rfl,rfl⟩
   ·have:¬okS l k:=fun h=>c3 h.2.2.1
    repeat (with_reducible first|(first|refine pI1 ?_|refine pS1 ?_);intros|refine pA1 ?_|refine pX1 ?_|refine pB1 ?_|exact True.intro)
    exact⟨by rw[dec_f this],rfl⟩
  ·have:¬okS l k:=fun h=>c2 h.2.1
   repeat (with_reducible first|(first|refine pI1 ?_|refine pS1 ?_);intros|refine pA1 ?_|refine pX1 ?_|refine pB1 ?_|exact True.intro)
   exact⟨by rw[dec_f this],rfl⟩
 ·have:¬okS l k:=fun h=>c1 h.1
  repeat (with_reducible first|(first|refine pI1 ?_|refine pS1 ?_);intros|refine pA1 ?_|refine pX1 ?_|refine pB1 ?_|exact True.intro)
  exact⟨by rw[dec_f this],rfl⟩
theorem s_sealed {H:Heap} {a a':Option Ad} {n c n' c':Nat} {o o':Bool} {l l':List Nat} (hs:Sl H 1 a n (nats .u8 l)) (hs':Sl H 1 a' n' (nats .u8 l')) (hn:n=75) (hn':n'≤100000) (hby:∀i,gx l' i<256):
  WC F fX1r [.c (.sl a n c o),.c (.sl a' n' c' o')] H fun v H'=>v=.c (.bool (decide (okS l (mor 0 l'))))∧H'=H:=by
 subst hn
 refine WC_start eX1r (by simp) ?_
 unfold cX1r
 have hlen:=hs.len
 rw[nats_len,Nat.mul_one] at hlen
 have hs_n:=hs.nil;have hs_l:=hs.lt0;have hs_a:=hs.at;have hs_0:=hs.at0
 repeat (with_reducible first|(first|refine pI1 ?_|refine pS1 ?_);intros|refine pA1 ?_|refine pX1 ?_|refine pB1 ?_|exact True.intro)
 refine outM_call (s_rSum hs' hn' hby) ?_
 rw[rmor_eq 0 l' (by decide)]
 have hk:=mor_lt 0 l'
 generalize mor 0 l'=k at *
 rintro _ _ ⟨rfl,rfl⟩
 by_cases c1:gx l 71=k % 256
 ·by_cases c2:gx l 72=k / 256 % 256
  ·by_cases c3:gx l 73=k / 65536 % 256
   ·repeat (with_reducible first|(first|refine pI1 ?_|refine pS1 ?_);intros|refine pA1 ?_|refine pX1 ?_|refine pB1 ?_|exact True.intro)
    have:okS l k↔gx l 74=k / 16777216:=by unfold okS;simp[c1,c2,c3]
    rw[dec_iff this]
    exact⟨rfl,rfl⟩
   ·have:¬okS l k:=fun h=>c3 h.2.2.1
    repeat (with_reducible first|(first|refine pI1 ?_|refine pS1 ?_);intros|refine pA1 ?_|refine pX1 ?_|refine pB1 ?_|exact True.intro)
    exact⟨by rw[dec_f this],rfl⟩
  ·have:¬okS l k:=fun h=>c2 h.2.1
   repeat (with_reducible first|(first|refine pI1 ?_|refine pS1 ?_);intros|refine pA1 ?_|refine pX1 ?_|refine pB1 ?_|exact True.intro)
   exact⟨by rw[dec_f this],rfl⟩
 ·have:¬okS l k:=fun h=>c1 h.1
  repeat (with_reducible first|(first|refine pI1 ?_|refine pS1 ?_);intros|refine pA1 ?_|refine pX1 ?_|refine pB1 ?_|exact True.intro)
  exact⟨by rw[dec_f this],rfl⟩
theorem num4 {l:List Nat} (h:4≤l.length):num (l.take 4)=((gx l 0 * 256+gx l 1) * 256+gx l 2) * 256+gx l 3:=by
 rw[take4 h];simp[num]
theorem num46 {l:List Nat} (h:6≤l.length):num ((l.drop 4).take 2)=gx l 4 * 256+gx l 5:=by
 rw[take46 h];simp[num]
theorem s_read {H:Heap} {a:Option Ad} {n c:Nat} {o:Bool} {l:List Nat} (hs:Sl H 1 a n (nats .u8 l)) (hc:n≤c) (hby:∀i,gx l i<256):
  WC F fX14 [.c (.sl a n c o)] H fun v H'=>v=.tup [.agg (frC ((tell l).getD fr0)),.c (.bool (tell l).isSome)]∧X1 H H':=by
 refine WC_start eX14 (by simp) ?_
 unfold cX14
 have hlen:=hs.len
 rw[nats_len,Nat.mul_one] at hlen
 have hs_n:=hs.nil;have hs_l:=hs.lt0;have hs_a:=hs.at;have hs_0:=hs.at0
 have hz:z64.length=64:=rfl
 by_cases c1:n=75
 ·subst c1
  by_cases c2:gx l 6<16
  ·by_cases c3:gx l 0≤127
   ·have ht:tell l=some ⟨gx l 6,((((gx l 0 * 256+gx l 1) * 256+gx l 2) * 256+gx l 3:Nat):Int),gx l 4 * 256+gx l 5,(l.drop 7).take 64⟩:=by
     rw[tell,if_pos ⟨hlen,c2,c3⟩]
    rw[ht]
    cases a with
    |none=>have:=hs_n rfl;omega
    |some ad=>
     simp only[oa_some] at hs_l hs_a hs_0
     repeat (with_reducible first|(first|refine pI1 ?_|refine pS1 ?_);intros|refine pA1 ?_|refine pX1 ?_|refine pB1 ?_|exact True.intro)
     rename_i b1 H1 l1 g1 x1
     have hs1:=hs.to (H':=H1) (fun b hb=>x1 b (by omega))
     have s4:Sl H1 1 (some ad) 4 (nats .u8 (l.take 4)):=by rw[←nats_take];exact hs1.first (by omega)
     have s46:Sl H1 1 (some (addA ad 4)) 2 (nats .u8 ((l.drop 4).take 2)):=by rw[←nats_take,←nats_drop];exact hs1.sub1 (l:=4) (h:=6) (by omega) (by omega)
     have s7:Sl H1 1 (some (addA ad 7)) 64 (nats .u8 ((l.drop 7).take 64)):=by rw[←nats_take,←nats_drop];exact hs1.sub1 (l:=7) (h:=71) (by omega) (by omega)
     repeat (with_reducible first|(first|refine pI1 ?_|refine pS1 ?_);intros|refine pA1 ?_|refine pX1 ?_|refine pB1 ?_|exact True.intro)
     refine outM_call (s_number s4 (by omega) (fun x hx=>gx_lt hby x (List.mem_of_mem_take hx))) ?_
     rw[num4 (by omega)]
     rintro _ H2 ⟨rfl,rfl⟩
     repeat (with_reducible first|(first|refine pI1 ?_|refine pS1 ?_);intros|refine pA1 ?_|refine pX1 ?_|refine pB1 ?_|exact True.intro)
     refine outM_call (s_number s46 (by omega) (fun x hx=>gx_lt hby x (List.mem_of_mem_drop (List.mem_of_mem_take hx)))) ?_
     rw[num46 (by omega)]
     rintro _ H3 ⟨rfl,rfl⟩
     have y4:=hby 4
     have y5:=hby 5
     have hq:((l.drop 7).take 64).length=64:=by simp;omega
     repeat (with_reducible first|(first|refine pI1 ?_|refine pS1 ?_);intros|refine pA1 ?_|refine pX1 ?_|refine pB1 ?_|exact True.intro)
     rename_i b4 H4 l4 g4 x4 H5 l5 g5 x5
     have s75:Sl H5 1 (some (addA ad 7)) 64 (nats .u8 ((l.drop 7).take 64)):=s7.to fun b hb=>by simp (disch:=first|with_reducible assumption|omega) only [go_sem,*,reduceCtorEq,↓reduceIte,Nat.reduceLT,Nat.reduceBEq,Nat.reduceAdd,Nat.reduceSub,Nat.reduceMul,Nat.reduceDiv,Nat.reduceMod,Nat.reducePow,Nat.reduceEqDiff,Nat.reduceLeDiff,Int.reduceLT,Int.reduceLE,Int.reduceNeg,Int.reduceToNat,Int.reduceAdd,Int.reduceSub,Int.reduceMul,Int.reduceEq,Int.reduceNe,Int.reduceBEq,Int.reduceBNe,Int.reducePow]
     repeat (with_reducible first|(first|refine pI1 ?_|refine pS1 ?_);intros|refine pA1 ?_|refine pX1 ?_|refine pB1 ?_|exact True.intro)
     refine outM_cpy (i:=64) (k₂:=64) g5 s75 rfl (by omega) (by simp[nats_len,hz]) ?_
     intro H6 l6 g6 x6
     rw[putP _ _ _ (by rw[hq,hz])] at g6
     repeat (with_reducible first|(first|refine pI1 ?_|refine pS1 ?_);intros|refine pA1 ?_|refine pX1 ?_|refine pB1 ?_|exact True.intro)
     exact⟨rfl,by omega,fun b hb=>by simp (disch:=first|with_reducible assumption|omega) only [go_sem,*,reduceCtorEq,↓reduceIte,Nat.reduceLT,Nat.reduceBEq,Nat.reduceAdd,Nat.reduceSub,Nat.reduceMul,Nat.reduceDiv,Nat.reduceMod,Nat.reducePow,Nat.reduceEqDiff,Nat.reduceLeDiff,Int.reduceLT,Int.reduceLE,Int.reduceNeg,Int.reduceToNat,Int.reduceAdd,Int.reduceSub,Int.reduceMul,Int.reduceEq,Int.reduceNe,Int.reduceBEq,Int.reduceBNe,Int.reducePow]⟩
   ·have ht:tell l=none:=by rw[tell,if_neg (fun h=>c3 h.2.2)]
    rw[ht]
    repeat (with_reducible first|(first|refine pI1 ?_|refine pS1 ?_);intros|refine pA1 ?_|refine pX1 ?_|refine pB1 ?_|exact True.intro)
    exact⟨rfl,by omega,fun b hb=>by simp (disch:=first|with_reducible assumption|omega) only [go_sem,*,reduceCtorEq,↓reduceIte,Nat.reduceLT,Nat.reduceBEq,Nat.reduceAdd,Nat.reduceSub,Nat.reduceMul,Nat.reduceDiv,Nat.reduceMod,Nat.reducePow,Nat.reduceEqDiff,Nat.reduceLeDiff,Int.reduceLT,Int.reduceLE,Int.reduceNeg,Int.reduceToNat,Int.reduceAdd,Int.reduceSub,Int.reduceMul,Int.reduceEq,Int.reduceNe,Int.reduceBEq,Int.reduceBNe,Int.reducePow]⟩
  ·have ht:tell l=none:=by rw[tell,if_neg (fun h=>c2 h.2.1)]
   rw[ht]
   repeat (with_reducible first|(first|refine pI1 ?_|refine pS1 ?_);intros|refine pA1 ?_|refine pX1 ?_|refine pB1 ?_|exact True.intro)
   exact⟨rfl,by omega,fun b hb=>by simp (disch:=first|with_reducible assumption|omega) only [go_sem,*,reduceCtorEq,↓reduceIte,Nat.reduceLT,Nat.reduceBEq,Nat.reduceAdd,Nat.reduceSub,Nat.reduceMul,Nat.reduceDiv,Nat.reduceMod,Nat.reducePow,Nat.reduceEqDiff,Nat.reduceLeDiff,Int.reduceLT,Int.reduceLE,Int.reduceNeg,Int.reduceToNat,Int.reduceAdd,Int.reduceSub,Int.reduceMul,Int.reduceEq,Int.reduceNe,Int.reduceBEq,Int.reduceBNe,Int.reducePow]⟩
 ·have ht:tell l=none:=by rw[tell,if_neg (fun h=>c1 (by omega))]
  rw[ht]
  repeat (with_reducible first|(first|refine pI1 ?_|refine pS1 ?_);intros|refine pA1 ?_|refine pX1 ?_|refine pB1 ?_|exact True.intro)
  exact⟨rfl,by omega,fun b hb=>by simp (disch:=first|with_reducible assumption|omega) only [go_sem,*,reduceCtorEq,↓reduceIte,Nat.reduceLT,Nat.reduceBEq,Nat.reduceAdd,Nat.reduceSub,Nat.reduceMul,Nat.reduceDiv,Nat.reduceMod,Nat.reducePow,Nat.reduceEqDiff,Nat.reduceLeDiff,Int.reduceLT,Int.reduceLE,Int.reduceNeg,Int.reduceToNat,Int.reduceAdd,Int.reduceSub,Int.reduceMul,Int.reduceEq,Int.reduceNe,Int.reduceBEq,Int.reduceBNe,Int.reducePow]⟩
theorem take_step {l:List Nat} {k:Nat} (h:k<l.length):l.take (k+1)=l.take k++[gx l k]:=by
 rw[List.take_add_one,List.getElem?_eq_getElem h];simp[gx,List.getD_eq_getElem?_getD,h]
def part (q:List Nat) (k:Nat):List Nat:=q.take k++List.replicate (64-k) 0
theorem part_len {q:List Nat} {k:Nat} (hq:q.length=64) (hk:k≤64):(part q k).length=64:=by simp[part,hq];omega
theorem part_step {q:List Nat} {k:Nat} (hq:q.length=64) (hk:k<64):(part q k).set k (gx q k)=part q (k+1):=by
 unfold part
 rw[take_step (by omega),List.set_append_right _ _ (by simp;omega)]
 have:64-k=(64-(k+1))+1:=by omega
 rw[this,List.replicate_succ]
 simp[hq,Nat.min_eq_left (Nat.le_of_lt hk)]
theorem part_all {q:List Nat} (hq:q.length=64):part q 64=q:=by simp[part,←hq]
theorem set3 (a b c:Cell) (l:List Cell) (k:Nat) (x:Cell):(a :: b :: c :: l).set (3+k) x=a :: b :: c :: l.set k x:=by
 rw[Nat.add_comm];rfl
theorem gx_sub (l:List Nat) (a n:Nat) {k:Nat} (h:k<n):gx ((l.drop a).take n) k=gx l (a+k):=by
 simp[gx,List.getD_eq_getElem?_getD,List.getElem?_take,h,List.getElem?_drop]
theorem s_told {H:Heap} {a:Option Ad} {n c:Nat} {o:Bool} {l:List Nat} (hs:Sl H 1 a n (nats .u8 l)) (hc:n≤c) (hby:∀i,gx l i<256):
  WC F fX1s [.c (.sl a n c o)] H fun v H'=>v=.tup [.agg (frC ((tell l).getD fr0)),.c (.bool (tell l).isSome)]∧X1 H H':=by
 refine WC_start eX1s (by simp) ?_
 unfold cX1s
 have hlen:=hs.len
 rw[nats_len,Nat.mul_one] at hlen
 have hs_n:=hs.nil;have hs_l:=hs.lt0;have hs_a:=hs.at;have hs_0:=hs.at0
 have hz:z64.length=64:=rfl
 by_cases c1:n=75
 ·subst c1
  by_cases c2:gx l 6<16
  ·by_cases c3:gx l 0≤127
   ·have ht:tell l=some ⟨gx l 6,((((gx l 0 * 256+gx l 1) * 256+gx l 2) * 256+gx l 3:Nat):Int),gx l 4 * 256+gx l 5,(l.drop 7).take 64⟩:=by
     rw[tell,if_pos ⟨hlen,c2,c3⟩]
    rw[ht]
    cases a with
    |none=>have:=hs_n rfl;omega
    |some ad=>
     simp only[oa_some] at hs_l hs_a hs_0
     have y0:=hby 0
     have y1:=hby 1
     have y2:=hby 2
     have y3:=hby 3
     have y4:=hby 4
     have y5:=hby 5
     repeat (with_reducible first|(first|refine pI1 ?_|refine pS1 ?_);intros|refine pA1 ?_|refine pX1 ?_|refine pB1 ?_|exact True.intro)
     rename_i b1 H1 l1 g1 x1 b2 H2 l2 g2 x2 H3 l3 g3 x3 H4 l4 g4 x4 H5 l5 g5 x5
     have hq:((l.drop 7).take 64).length=64:=by simp;omega
     generalize hqq:(l.drop 7).take 64=q at *
     have hgq:∀k,k<64→gx l (7+k)=gx q k:=fun k hk=>by rw[←hqq,gx_sub _ _ _ hk]
     have e5:((((gx l 0:Int) * 256+gx l 1) * 256+gx l 2) * 256+gx l 3)=((((gx l 0 * 256+gx l 1) * 256+gx l 2) * 256+gx l 3:Nat):Int):=by push_cast;rfl
     rw[e5] at g5
     generalize ((gx l 0 * 256+gx l 1) * 256+gx l 2) * 256+gx l 3=sl at *
     generalize gx l 4 * 256+gx l 5=mm at *
     refine W_loop (fun m st=>∃ρ k Hk,st=⟨L 76 ρ,[],Hk⟩∧m=64-k∧k≤64∧ρ 0=.c (.sl (some ad) 75 c o)∧ρ 2=.c (.ptr (some (b1,0)))∧ρ 4=.c (.ptr (some (b2,0)))∧ρ 5=.c (.int .i64 (k:Nat))∧(Hk.length≤H5.length∧H5.length≤Hk.length)∧
      Hk[b2]?=some (.cells (.int .i64 (gx l 6) :: .int .i64 (sl:Nat) :: .int .u16 (mm:Nat) :: nats .u8 (part q k)) false none)∧(∀b',b'≠b2→Hk[b']?=H5[b']?)) 64 ⟨_,0,H5,rfl,rfl,by omega,zf,zf,zf,zf,by omega,g5,fun _ _=>rfl⟩ ?_
     rintro m st ⟨ρ,k,Hk,rfl,rfl,hk,e0,e2,e4,e5,lk,gk,xk⟩
     unfold bX1s_10
     have hpl:=part_len hq hk
     repeat (with_reducible first|(first|refine pI1 ?_|refine pS1 ?_);intros|refine pA1 ?_|refine pX1 ?_|refine pB1 ?_|exact True.intro)
     first|refine ifM_d ?_ ?_|refine gM_dt ?_ ?_|refine gM_df ?_ ?_
     ·intro hlt
      have hgk:=hgq k (by omega)
      have ht7:(7+(k:Int)).toNat=7+k:=by omega
      repeat (with_reducible first|(first|refine pI1 ?_|refine pS1 ?_);intros|refine pA1 ?_|refine pX1 ?_|refine pB1 ?_|exact True.intro)
      rename_i H6 l6 g6 x6
      rw[set3,nats_set,part_step hq (by omega)] at g6
      refine loopQ_n (64-(k+1)) (by omega) ⟨_,k+1,H6,rfl,rfl,by omega,zf,zf,zf,zf,by omega,g6,fun b hb=>by simp (disch:=first|with_reducible assumption|omega) only [go_sem,*,reduceCtorEq,↓reduceIte,Nat.reduceLT,Nat.reduceBEq,Nat.reduceAdd,Nat.reduceSub,Nat.reduceMul,Nat.reduceDiv,Nat.reduceMod,Nat.reducePow,Nat.reduceEqDiff,Nat.reduceLeDiff,Int.reduceLT,Int.reduceLE,Int.reduceNeg,Int.reduceToNat,Int.reduceAdd,Int.reduceSub,Int.reduceMul,Int.reduceEq,Int.reduceNe,Int.reduceBEq,Int.reduceBNe,Int.reducePow]⟩
     ·intro hge
      have:k=64:=by omega
      subst this
      rw[part_all hq] at gk
      repeat (with_reducible first|(first|refine pI1 ?_|refine pS1 ?_);intros|refine pA1 ?_|refine pX1 ?_|refine pB1 ?_|exact True.intro)
      exact⟨rfl,by omega,fun b hb=>by simp (disch:=first|with_reducible assumption|omega) only [go_sem,*,reduceCtorEq,↓reduceIte,Nat.reduceLT,Nat.reduceBEq,Nat.reduceAdd,Nat.reduceSub,Nat.reduceMul,Nat.reduceDiv,Nat.reduceMod,Nat.reducePow,Nat.reduceEqDiff,Nat.reduceLeDiff,Int.reduceLT,Int.reduceLE,Int.reduceNeg,Int.reduceToNat,Int.reduceAdd,Int.reduceSub,Int.reduceMul,Int.reduceEq,Int.reduceNe,Int.reduceBEq,Int.reduceBNe,Int.reducePow]⟩
   ·have ht:tell l=none:=by rw[tell,if_neg (fun h=>c3 h.2.2)]
    rw[ht]
    repeat (with_reducible first|(first|refine pI1 ?_|refine pS1 ?_);intros|refine pA1 ?_|refine pX1 ?_|refine pB1 ?_|exact True.intro)
    exact⟨rfl,by omega,fun b hb=>by simp (disch:=first|with_reducible assumption|omega) only [go_sem,*,reduceCtorEq,↓reduceIte,Nat.reduceLT,Nat.reduceBEq,Nat.reduceAdd,Nat.reduceSub,Nat.reduceMul,Nat.reduceDiv,Nat.reduceMod,Nat.reducePow,Nat.reduceEqDiff,Nat.reduceLeDiff,Int.reduceLT,Int.reduceLE,Int.reduceNeg,Int.reduceToNat,Int.reduceAdd,Int.reduceSub,Int.reduceMul,Int.reduceEq,Int.reduceNe,Int.reduceBEq,Int.reduceBNe,Int.reducePow]⟩
  ·have ht:tell l=none:=by rw[tell,if_neg (fun h=>c2 h.2.1)]
   rw[ht]
   repeat (with_reducible first|(first|refine pI1 ?_|refine pS1 ?_);intros|refine pA1 ?_|refine pX1 ?_|refine pB1 ?_|exact True.intro)
   exact⟨rfl,by omega,fun b hb=>by simp (disch:=first|with_reducible assumption|omega) only [go_sem,*,reduceCtorEq,↓reduceIte,Nat.reduceLT,Nat.reduceBEq,Nat.reduceAdd,Nat.reduceSub,Nat.reduceMul,Nat.reduceDiv,Nat.reduceMod,Nat.reducePow,Nat.reduceEqDiff,Nat.reduceLeDiff,Int.reduceLT,Int.reduceLE,Int.reduceNeg,Int.reduceToNat,Int.reduceAdd,Int.reduceSub,Int.reduceMul,Int.reduceEq,Int.reduceNe,Int.reduceBEq,Int.reduceBNe,Int.reducePow]⟩
 ·have ht:tell l=none:=by rw[tell,if_neg (fun h=>c1 (by omega))]
  rw[ht]
  repeat (with_reducible first|(first|refine pI1 ?_|refine pS1 ?_);intros|refine pA1 ?_|refine pX1 ?_|refine pB1 ?_|exact True.intro)
  exact⟨rfl,by omega,fun b hb=>by simp (disch:=first|with_reducible assumption|omega) only [go_sem,*,reduceCtorEq,↓reduceIte,Nat.reduceLT,Nat.reduceBEq,Nat.reduceAdd,Nat.reduceSub,Nat.reduceMul,Nat.reduceDiv,Nat.reduceMod,Nat.reducePow,Nat.reduceEqDiff,Nat.reduceLeDiff,Int.reduceLT,Int.reduceLE,Int.reduceNeg,Int.reduceToNat,Int.reduceAdd,Int.reduceSub,Int.reduceMul,Int.reduceEq,Int.reduceNe,Int.reduceBEq,Int.reduceBNe,Int.reducePow]⟩
end Go.Proofs.YtjcgdcadflplcaaDoor.AM.D21
namespace Go.Proofs.YtjcgdcadflplcaaDoor.AM.D21
open Go Go.Proofs.YtjcgdcadflplcaaDoor.AM Go.Proofs.YtjcgdcadflplcaaDoor.AM.P3
set_option maxHeartbeats 2000000
set_option maxRecDepth 100000
attribute [local go_sem] fr0C sub67 sub12 sub02 putP z64_len
theorem tell_some {l:List Nat} {f:Fm} (h:tell l=some f):l.length=75∧f.p.length=64:=by
 unfold tell at h
 split at h
 ·rename_i c;cases h;refine⟨c.1,?_⟩;simp[c.1]
 ·cases h
theorem s_Accept {H:Heap} {a:Option Ad} {n c:Nat} {o:Bool} {l:List Nat} {by_ slot:Int} {mem:Nat} (hT:H[0]?=some nibB) (hs:Sl H 1 a n (nats .u8 l)) (hc:n≤c) (hby:∀i,gx l i<256) (hm:mem<65536):
  WC F fXy [.c (.sl a n c o),.c (.int .i64 by_),.agg [.int .i64 slot,.int .u16 (mem:Nat)]] H fun v H'=>v=.tup [.agg (frC (acc l by_ slot mem).1),.c (.int .i64 (acc l by_ slot mem).2)]∧X1 H H':=by
 refine WC_start eXy (by simp) ?_
 unfold cXy
 have hz:z64.length=64:=rfl
 have h0:=lt_of_get hT
 have hlen:=hs.len
 rw[nats_len,Nat.mul_one] at hlen
 repeat (with_reducible first|(first|refine pI1 ?_|refine pS1 ?_);intros|refine pA1 ?_|refine pX1 ?_|refine pB1 ?_|exact True.intro)
 rename_i b0 H0 l0 g0 x0 b1 H1 l1 g1 x1
 repeat (with_reducible first|(first|refine pI1 ?_|refine pS1 ?_);intros|refine pA1 ?_|refine pX1 ?_|refine pB1 ?_|exact True.intro)
 refine outM_call (s_read (l:=l) (hs.to fun b hb=>by simp (disch:=first|with_reducible assumption|omega) only [go_sem,*,reduceCtorEq,↓reduceIte,Nat.reduceLT,Nat.reduceBEq,Nat.reduceAdd,Nat.reduceSub,Nat.reduceMul,Nat.reduceDiv,Nat.reduceMod,Nat.reducePow,Nat.reduceEqDiff,Nat.reduceLeDiff,Int.reduceLT,Int.reduceLE,Int.reduceNeg,Int.reduceToNat,Int.reduceAdd,Int.reduceSub,Int.reduceMul,Int.reduceEq,Int.reduceNe,Int.reduceBEq,Int.reduceBNe,Int.reducePow]) hc hby) ?_
 rintro _ H2 ⟨rfl,l2,x2⟩
 cases ht:tell l with
 |none=>
  simp only[Option.getD_none,Option.isSome_none]
  repeat (with_reducible first|(first|refine pI1 ?_|refine pS1 ?_);intros|refine pA1 ?_|refine pX1 ?_|refine pB1 ?_|exact True.intro)
  have e:acc l by_ slot mem=(fr0,30):=by simp only[acc,ht]
  rw[e]
  exact⟨rfl,by omega,fun b hb=>by simp (disch:=first|with_reducible assumption|omega) only [go_sem,*,reduceCtorEq,↓reduceIte,Nat.reduceLT,Nat.reduceBEq,Nat.reduceAdd,Nat.reduceSub,Nat.reduceMul,Nat.reduceDiv,Nat.reduceMod,Nat.reducePow,Nat.reduceEqDiff,Nat.reduceLeDiff,Int.reduceLT,Int.reduceLE,Int.reduceNeg,Int.reduceToNat,Int.reduceAdd,Int.reduceSub,Int.reduceMul,Int.reduceEq,Int.reduceNe,Int.reduceBEq,Int.reduceBNe,Int.reducePow]⟩
 |some f=>
  obtain⟨h75,hp⟩:=tell_some ht
  obtain rfl:n=75:=by omega
  obtain⟨fo,fs,fm,p⟩:=f
  replace hp:p.length=64:=hp
  obtain⟨ad,rfl⟩:∃ad,a=some ad:=by
   cases a with
   |none=>have:=hs.nil rfl;omega
   |some ad=>exact⟨ad,rfl⟩
  simp only[Option.getD_some,Option.isSome_some]
  repeat (with_reducible first|(first|refine pI1 ?_|refine pS1 ?_);intros|refine pA1 ?_|refine pX1 ?_|refine pB1 ?_|exact True.intro)
  rename_i b3 H3 l3 g3 x3 H4 l4 g4 x4
  repeat (with_reducible first|(first|refine pI1 ?_|refine pS1 ?_);intros|refine pA1 ?_|refine pX1 ?_|refine pB1 ?_|exact True.intro)
  refine outM_call (s_state hm) ?_
  rintro _ H5 ⟨b5,rfl,hb5,hb5',g5,l5,x5⟩
  repeat (with_reducible first|(first|refine pI1 ?_|refine pS1 ?_);intros|refine pA1 ?_|refine pX1 ?_|refine pB1 ?_|exact True.intro)
  refine outM_call (s_Sum (l:=stBy slot mem) zf (Sl.blk (k:=6) g5 (by rfl)) (by omega) (lt_gx (stBy_by _ _ hm))) ?_
  rintro _ H6 ⟨rfl,rfl⟩
  have hs6:Sl H6 1 (some ad) 75 (nats .u8 l):=hs.to fun b hb=>by simp (disch:=first|with_reducible assumption|omega) only [go_sem,*,reduceCtorEq,↓reduceIte,Nat.reduceLT,Nat.reduceBEq,Nat.reduceAdd,Nat.reduceSub,Nat.reduceMul,Nat.reduceDiv,Nat.reduceMod,Nat.reducePow,Nat.reduceEqDiff,Nat.reduceLeDiff,Int.reduceLT,Int.reduceLE,Int.reduceNeg,Int.reduceToNat,Int.reduceAdd,Int.reduceSub,Int.reduceMul,Int.reduceEq,Int.reduceNe,Int.reduceBEq,Int.reduceBNe,Int.reducePow]
  have s65:Sl H6 1 (some (addA ad 6)) 65 (nats .u8 ((l.drop 6).take 65)):=by rw[←nats_take,←nats_drop];exact hs6.sub1 (l:=6) (h:=71) (by omega) (by omega)
  repeat (with_reducible first|(first|refine pI1 ?_|refine pS1 ?_);intros|refine pA1 ?_|refine pX1 ?_|refine pB1 ?_|exact True.intro)
  refine outM_call (s_More (n0:=mor 0 (stBy slot mem)) (l:=(l.drop 6).take 65) zf s65 (by omega) (lt_gx fun x hx=>gx_lt hby x (List.mem_of_mem_drop (List.mem_of_mem_take hx)))) ?_
  rintro _ H7 ⟨rfl,rfl⟩
  repeat (with_reducible first|(first|refine pI1 ?_|refine pS1 ?_);intros|refine pA1 ?_|refine pX1 ?_|refine pB1 ?_|exact True.intro)
  refine outM_call (s_checked (k:=mor (mor 0 (stBy slot mem)) ((l.drop 6).take 65)) hs6 rfl (mor_lt _ _)) ?_
  rintro _ H8 ⟨rfl,rfl⟩
  by_cases hk:okS l (mor (mor 0 (stBy slot mem)) ((l.drop 6).take 65))
  ·by_cases c1:fo=by_
   ·subst c1
    by_cases c2:fs=slot∧fm=mem
    ·have e:acc l fo slot mem=(⟨fo,fs,fm,p⟩,0):=by simp only[acc,ht,if_pos hk];rw[if_pos ⟨trivial,c2⟩]
     have eq1:eqCs [.int,.int] [Cell.int .i64 fs,.int .u16 (fm:Nat)] [Cell.int .i64 slot,.int .u16 (mem:Nat)]=some true:=by simp[eqCs,c2.1,c2.2]
     rw[e]
     clear c2
     repeat (with_reducible first|(first|refine pI1 ?_|refine pS1 ?_);intros|refine pA1 ?_|refine pX1 ?_|refine pB1 ?_|exact True.intro)
     exact⟨rfl,by omega,fun b hb=>by simp (disch:=first|with_reducible assumption|omega) only [go_sem,*,reduceCtorEq,↓reduceIte,Nat.reduceLT,Nat.reduceBEq,Nat.reduceAdd,Nat.reduceSub,Nat.reduceMul,Nat.reduceDiv,Nat.reduceMod,Nat.reducePow,Nat.reduceEqDiff,Nat.reduceLeDiff,Int.reduceLT,Int.reduceLE,Int.reduceNeg,Int.reduceToNat,Int.reduceAdd,Int.reduceSub,Int.reduceMul,Int.reduceEq,Int.reduceNe,Int.reduceBEq,Int.reduceBNe,Int.reducePow]⟩
    ·have e:acc l fo slot mem=(fr0,30):=by simp only[acc,ht,if_pos hk];rw[if_neg (fun h=>c2 h.2)]
     have eq1:eqCs [.int,.int] [Cell.int .i64 fs,.int .u16 (fm:Nat)] [Cell.int .i64 slot,.int .u16 (mem:Nat)]=some false:=by
      by_cases h1:fs=slot
      ·have:¬((fm:Int)=(mem:Int)):=fun h=>c2 ⟨h1,by omega⟩
       simp[eqCs,h1];omega
      ·simp[eqCs,h1]
     rw[e]
     clear c2
     repeat (with_reducible first|(first|refine pI1 ?_|refine pS1 ?_);intros|refine pA1 ?_|refine pX1 ?_|refine pB1 ?_|exact True.intro)
     exact⟨rfl,by omega,fun b hb=>by simp (disch:=first|with_reducible assumption|omega) only [go_sem,*,reduceCtorEq,↓reduceIte,Nat.reduceLT,Nat.reduceBEq,Nat.reduceAdd,Nat.reduceSub,Nat.reduceMul,Nat.reduceDiv,Nat.reduceMod,Nat.reducePow,Nat.reduceEqDiff,Nat.reduceLeDiff,Int.reduceLT,Int.reduceLE,Int.reduceNeg,Int.reduceToNat,Int.reduceAdd,Int.reduceSub,Int.reduceMul,Int.reduceEq,Int.reduceNe,Int.reduceBEq,Int.reduceBNe,Int.reducePow]⟩
   ·have e:acc l by_ slot mem=(fr0,30):=by simp only[acc,ht,if_pos hk];rw[if_neg (fun h=>c1 h.1)]
    rw[e]
    repeat (with_reducible first|(first|refine pI1 ?_|refine pS1 ?_);intros|refine pA1 ?_|refine pX1 ?_|refine pB1 ?_|exact True.intro)
    exact⟨rfl,by omega,fun b hb=>by simp (disch:=first|with_reducible assumption|omega) only [go_sem,*,reduceCtorEq,↓reduceIte,Nat.reduceLT,Nat.reduceBEq,Nat.reduceAdd,Nat.reduceSub,Nat.reduceMul,Nat.reduceDiv,Nat.reduceMod,Nat.reducePow,Nat.reduceEqDiff,Nat.reduceLeDiff,Int.reduceLT,Int.reduceLE,Int.reduceNeg,Int.reduceToNat,Int.reduceAdd,Int.reduceSub,Int.reduceMul,Int.reduceEq,Int.reduceNe,Int.reduceBEq,Int.reduceBNe,Int.reducePow]⟩
  ·have e:acc l by_ slot mem=(fr0,31):=by simp only[acc,ht,if_neg hk]
   rw[e]
   repeat (with_reducible first|(first|refine pI1 ?_|refine pS1 ?_);intros|refine pA1 ?_|refine pX1 ?_|refine pB1 ?_|exact True.intro)
   exact⟨rfl,by omega,fun b hb=>by simp (disch:=first|with_reducible assumption|omega) only [go_sem,*,reduceCtorEq,↓reduceIte,Nat.reduceLT,Nat.reduceBEq,Nat.reduceAdd,Nat.reduceSub,Nat.reduceMul,Nat.reduceDiv,Nat.reduceMod,Nat.reducePow,Nat.reduceEqDiff,Nat.reduceLeDiff,Int.reduceLT,Int.reduceLE,Int.reduceNeg,Int.reduceToNat,Int.reduceAdd,Int.reduceSub,Int.reduceMul,Int.reduceEq,Int.reduceNe,Int.reduceBEq,Int.reduceBNe,Int.reducePow]⟩
theorem s_rAccept {H:Heap} {a:Option Ad} {n c:Nat} {o:Bool} {l:List Nat} {by_ slot:Int} {mem:Nat} (hs:Sl H 1 a n (nats .u8 l)) (hc:n≤c) (hby:∀i,gx l i<256) (hm:mem<65536):
  WC F fX1p [.c (.sl a n c o),.c (.int .i64 by_),.agg [.int .i64 slot,.int .u16 (mem:Nat)]] H fun v H'=>v=.tup [.agg (frC (acc l by_ slot mem).1),.c (.int .i64 (acc l by_ slot mem).2)]∧X1 H H':=by
 refine WC_start eX1p (by simp) ?_
 unfold cX1p
 have hz:z64.length=64:=rfl
 have hlen:=hs.len
 rw[nats_len,Nat.mul_one] at hlen
 repeat (with_reducible first|(first|refine pI1 ?_|refine pS1 ?_);intros|refine pA1 ?_|refine pX1 ?_|refine pB1 ?_|exact True.intro)
 rename_i b0 H0 l0 g0 x0 b1 H1 l1 g1 x1
 repeat (with_reducible first|(first|refine pI1 ?_|refine pS1 ?_);intros|refine pA1 ?_|refine pX1 ?_|refine pB1 ?_|exact True.intro)
 refine outM_call (s_told (l:=l) (hs.to fun b hb=>by simp (disch:=first|with_reducible assumption|omega) only [go_sem,*,reduceCtorEq,↓reduceIte,Nat.reduceLT,Nat.reduceBEq,Nat.reduceAdd,Nat.reduceSub,Nat.reduceMul,Nat.reduceDiv,Nat.reduceMod,Nat.reducePow,Nat.reduceEqDiff,Nat.reduceLeDiff,Int.reduceLT,Int.reduceLE,Int.reduceNeg,Int.reduceToNat,Int.reduceAdd,Int.reduceSub,Int.reduceMul,Int.reduceEq,Int.reduceNe,Int.reduceBEq,Int.reduceBNe,Int.reducePow]) hc hby) ?_
 rintro _ H2 ⟨rfl,l2,x2⟩
 cases ht:tell l with
 |none=>
  simp only[Option.getD_none,Option.isSome_none]
  repeat (with_reducible first|(first|refine pI1 ?_|refine pS1 ?_);intros|refine pA1 ?_|refine pX1 ?_|refine pB1 ?_|exact True.intro)
  have e:acc l by_ slot mem=(fr0,30):=by simp only[acc,ht]
  rw[e]
  exact⟨rfl,by omega,fun b hb=>by simp (disch:=first|with_reducible assumption|omega) only [go_sem,*,reduceCtorEq,↓reduceIte,Nat.reduceLT,Nat.reduceBEq,Nat.reduceAdd,Nat.reduceSub,Nat.reduceMul,Nat.reduceDiv,Nat.reduceMod,Nat.reducePow,Nat.reduceEqDiff,Nat.reduceLeDiff,Int.reduceLT,Int.reduceLE,Int.reduceNeg,Int.reduceToNat,Int.reduceAdd,Int.reduceSub,Int.reduceMul,Int.reduceEq,Int.reduceNe,Int.reduceBEq,Int.reduceBNe,Int.reducePow]⟩
 |some f=>
  obtain⟨h75,hp⟩:=tell_some ht
  obtain rfl:n=75:=by omega
  obtain⟨fo,fs,fm,p⟩:=f
  replace hp:p.length=64:=hp
  obtain⟨ad,rfl⟩:∃ad,a=some ad:=by
   cases a with
   |none=>have:=hs.nil rfl;omega
   |some ad=>exact⟨ad,rfl⟩
  simp only[Option.getD_some,Option.isSome_some]
  repeat (with_reducible first|(first|refine pI1 ?_|refine pS1 ?_);intros|refine pA1 ?_|refine pX1 ?_|refine pB1 ?_|exact True.intro)
  rename_i b3 H3 l3 g3 x3 H4 l4 g4 x4
  repeat (with_reducible first|(first|refine pI1 ?_|refine pS1 ?_);intros|refine pA1 ?_|refine pX1 ?_|refine pB1 ?_|exact True.intro)
  refine outM_call (s_State hm) ?_
  rintro _ H5 ⟨b5,rfl,hb5,hb5',g5,l5,x5⟩
  have hs5:Sl H5 1 (some ad) 75 (nats .u8 l):=hs.to fun b hb=>by simp (disch:=first|with_reducible assumption|omega) only [go_sem,*,reduceCtorEq,↓reduceIte,Nat.reduceLT,Nat.reduceBEq,Nat.reduceAdd,Nat.reduceSub,Nat.reduceMul,Nat.reduceDiv,Nat.reduceMod,Nat.reducePow,Nat.reduceEqDiff,Nat.reduceLeDiff,Int.reduceLT,Int.reduceLE,Int.reduceNeg,Int.reduceToNat,Int.reduceAdd,Int.reduceSub,Int.reduceMul,Int.reduceEq,Int.reduceNe,Int.reduceBEq,Int.reduceBNe,Int.reducePow]
  have s65:Sl H5 1 (some (addA ad 6)) 65 (nats .u8 ((l.drop 6).take 65)):=by rw[←nats_take,←nats_drop];exact hs5.sub1 (l:=6) (h:=71) (by omega) (by omega)
  repeat (with_reducible first|(first|refine pI1 ?_|refine pS1 ?_);intros|refine pA1 ?_|refine pX1 ?_|refine pB1 ?_|exact True.intro)
  refine outM_appC (i:=6) (j:=65) (Sl.blk g5 (by rfl)) s65 (by omega) (mo (by omega)) ?_
  intro b6 H6 l6 g6 x6
  rw[nats_app] at g6
  have hs6:Sl H6 1 (some ad) 75 (nats .u8 l):=hs.to fun b hb=>by simp (disch:=first|with_reducible assumption|omega) only [go_sem,*,reduceCtorEq,↓reduceIte,Nat.reduceLT,Nat.reduceBEq,Nat.reduceAdd,Nat.reduceSub,Nat.reduceMul,Nat.reduceDiv,Nat.reduceMod,Nat.reducePow,Nat.reduceEqDiff,Nat.reduceLeDiff,Int.reduceLT,Int.reduceLE,Int.reduceNeg,Int.reduceToNat,Int.reduceAdd,Int.reduceSub,Int.reduceMul,Int.reduceEq,Int.reduceNe,Int.reduceBEq,Int.reduceBNe,Int.reducePow]
  repeat (with_reducible first|(first|refine pI1 ?_|refine pS1 ?_);intros|refine pA1 ?_|refine pX1 ?_|refine pB1 ?_|exact True.intro)
  have hof:∀x∈stBy slot mem++(l.drop 6).take 65,x<256:=fun x hx=>by
   rcases List.mem_append.1 hx with hx|hx
   ·exact stBy_by _ _ hm x hx
   ·exact gx_lt hby x (List.mem_of_mem_drop (List.mem_of_mem_take hx))
  have hln:(stBy slot mem++(l.drop 6).take 65).length=71:=by simp[stBy];omega
  repeat (with_reducible first|(first|refine pI1 ?_|refine pS1 ?_);intros|refine pA1 ?_|refine pX1 ?_|refine pB1 ?_|exact True.intro)
  refine outM_call (s_sealed (n':=71) hs6 (Sl.blk g6 (by rw[nats_len];exact hln)) rfl (by omega) (lt_gx hof)) ?_
  rw[←mor_mor _ _ _ (lt_gx (stBy_by _ _ hm))]
  rintro _ H8 ⟨rfl,rfl⟩
  by_cases hk:okS l (mor (mor 0 (stBy slot mem)) ((l.drop 6).take 65))
  ·by_cases c1:fo=by_
   ·subst c1
    by_cases c2:fs=slot∧fm=mem
    ·have e:acc l fo slot mem=(⟨fo,fs,fm,p⟩,0):=by simp only[acc,ht,if_pos hk];rw[if_pos ⟨trivial,c2⟩]
     have eq1:eqCs [.int,.int] [Cell.int .i64 fs,.int .u16 (fm:Nat)] [Cell.int .i64 slot,.int .u16 (mem:Nat)]=some true:=by simp[eqCs,c2.1,c2.2]
     rw[e]
     clear c2
     repeat (with_reducible first|(first|refine pI1 ?_|refine pS1 ?_);intros|refine pA1 ?_|refine pX1 ?_|refine pB1 ?_|exact True.intro)
     exact⟨rfl,by omega,fun b hb=>by simp (disch:=first|with_reducible assumption|omega) only [go_sem,*,reduceCtorEq,↓reduceIte,Nat.reduceLT,Nat.reduceBEq,Nat.reduceAdd,Nat.reduceSub,Nat.reduceMul,Nat.reduceDiv,Nat.reduceMod,Nat.reducePow,Nat.reduceEqDiff,Nat.reduceLeDiff,Int.reduceLT,Int.reduceLE,Int.reduceNeg,Int.reduceToNat,Int.reduceAdd,Int.reduceSub,Int.reduceMul,Int.reduceEq,Int.reduceNe,Int.reduceBEq,Int.reduceBNe,Int.reducePow]⟩
    ·have e:acc l fo slot mem=(fr0,30):=by simp only[acc,ht,if_pos hk];rw[if_neg (fun h=>c2 h.2)]
     have eq1:eqCs [.int,.int] [Cell.int .i64 fs,.int .u16 (fm:Nat)] [Cell.int .i64 slot,.int .u16 (mem:Nat)]=some false:=by
      by_cases h1:fs=slot
      ·have:¬((fm:Int)=(mem:Int)):=fun h=>c2 ⟨h1,by omega⟩
       simp[eqCs,h1];omega
      ·simp[eqCs,h1]
     rw[e]
     clear c2
     repeat (with_reducible first|(first|refine pI1 ?_|refine pS1 ?_);intros|refine pA1 ?_|refine pX1 ?_|refine pB1 ?_|exact True.intro)
     exact⟨rfl,by omega,fun b hb=>by simp (disch:=first|with_reducible assumption|omega) only [go_sem,*,reduceCtorEq,↓reduceIte,Nat.reduceLT,Nat.reduceBEq,Nat.reduceAdd,Nat.reduceSub,Nat.reduceMul,Nat.reduceDiv,Nat.reduceMod,Nat.reducePow,Nat.reduceEqDiff,Nat.reduceLeDiff,Int.reduceLT,Int.reduceLE,Int.reduceNeg,Int.reduceToNat,Int.reduceAdd,Int.reduceSub,Int.reduceMul,Int.reduceEq,Int.reduceNe,Int.reduceBEq,Int.reduceBNe,Int.reducePow]⟩
   ·have e:acc l by_ slot mem=(fr0,30):=by simp only[acc,ht,if_pos hk];rw[if_neg (fun h=>c1 h.1)]
    rw[e]
    repeat (with_reducible first|(first|refine pI1 ?_|refine pS1 ?_);intros|refine pA1 ?_|refine pX1 ?_|refine pB1 ?_|exact True.intro)
    exact⟨rfl,by omega,fun b hb=>by simp (disch:=first|with_reducible assumption|omega) only [go_sem,*,reduceCtorEq,↓reduceIte,Nat.reduceLT,Nat.reduceBEq,Nat.reduceAdd,Nat.reduceSub,Nat.reduceMul,Nat.reduceDiv,Nat.reduceMod,Nat.reducePow,Nat.reduceEqDiff,Nat.reduceLeDiff,Int.reduceLT,Int.reduceLE,Int.reduceNeg,Int.reduceToNat,Int.reduceAdd,Int.reduceSub,Int.reduceMul,Int.reduceEq,Int.reduceNe,Int.reduceBEq,Int.reduceBNe,Int.reducePow]⟩
  ·have e:acc l by_ slot mem=(fr0,31):=by simp only[acc,ht,if_neg hk]
   rw[e]
   repeat (with_reducible first|(first|refine pI1 ?_|refine pS1 ?_);intros|refine pA1 ?_|refine pX1 ?_|refine pB1 ?_|exact True.intro)
   exact⟨rfl,by omega,fun b hb=>by simp (disch:=first|with_reducible assumption|omega) only [go_sem,*,reduceCtorEq,↓reduceIte,Nat.reduceLT,Nat.reduceBEq,Nat.reduceAdd,Nat.reduceSub,Nat.reduceMul,Nat.reduceDiv,Nat.reduceMod,Nat.reducePow,Nat.reduceEqDiff,Nat.reduceLeDiff,Int.reduceLT,Int.reduceLE,Int.reduceNeg,Int.reduceToNat,Int.reduceAdd,Int.reduceSub,Int.reduceMul,Int.reduceEq,Int.reduceNe,Int.reduceBEq,Int.reduceBNe,Int.reducePow]⟩
end Go.Proofs.YtjcgdcadflplcaaDoor.AM.D21
namespace Go.Proofs.YtjcgdcadflplcaaDoor.AM.D21
open Go Go.Proofs.YtjcgdcadflplcaaDoor.AM Go.Proofs.YtjcgdcadflplcaaDoor.AM.P3
set_option maxHeartbeats 2000000
set_option maxRecDepth 100000
def fS:List SK:=[.int .i64,.int .i64,.int .u16]++List.replicate 64 (.int .u8)
def ShF (X:List Cell):Prop:=Shp fS X
theorem ShF.of {f:Fm} (h:f.p.length=64):ShF (frC f):=⟨⟨_,rfl⟩,⟨_,rfl⟩,⟨_,rfl⟩,Shp.nats h⟩
theorem ShF.len {X:List Cell} (h:ShF X):X.length=67:=Shp.len (S:=fS) h
def zF:List Cell:=frC fr0
theorem zF_eq:(List.replicate 2 (Cell.int .i64 0)++[(.int .u16 0)]++List.replicate 64 (.int .u8 0))=zF:=by rfl
theorem zF2_eq:(zF++List.replicate 2 (.int .i64 0)++[(.int .u16 0)]++List.replicate 64 (.int .u8 0))=zF++zF:=by rfl
theorem zF_sh:ShF zF:=ShF.of rfl
theorem zF_len:zF.length=67:=zF_sh.len
theorem eqF {X Y:List Cell} (h:ShF X) (h':ShF Y):eqaO [.int,.int,.int,.int,.int,.int,.int,.int,.int,.int,.int,.int,.int,.int,.int,.int,.int,.int,.int,.int,.int,.int,.int,.int,.int,.int,.int,.int,.int,.int,.int,.int,.int,.int,.int,.int,.int,.int,.int,.int,.int,.int,.int,.int,.int,.int,.int,.int,.int,.int,.int,.int,.int,.int,.int,.int,.int,.int,.int,.int,.int,.int,.int,.int,.int,.int,.int] false (.agg X) (.agg Y)=some (.c (.bool (decide (X=Y)))):=eqaO_shp (S:=fS) rfl ⟨h,h'⟩
theorem neF {X Y:List Cell} (h:ShF X) (h':ShF Y):eqaO [.int,.int,.int,.int,.int,.int,.int,.int,.int,.int,.int,.int,.int,.int,.int,.int,.int,.int,.int,.int,.int,.int,.int,.int,.int,.int,.int,.int,.int,.int,.int,.int,.int,.int,.int,.int,.int,.int,.int,.int,.int,.int,.int,.int,.int,.int,.int,.int,.int,.int,.int,.int,.int,.int,.int,.int,.int,.int,.int,.int,.int,.int,.int,.int,.int,.int,.int] true (.agg X) (.agg Y)=some (.c (.bool (decide (¬X=Y)))):=neaO_shp (S:=fS) rfl ⟨h,h'⟩
attribute [local go_sem] sub02 sub_left sub_right put_left put_right put_all' sub_all
attribute [local go_sem 2000] zF_eq zF2_eq eqF neF zF_len
theorem acc_len {l:List Nat} {o s:Int} {m:Nat}:(acc l o s m).1.p.length=64:=by
 unfold acc
 cases ht:tell l with
 |none=>rfl
 |some f=>
  simp only
  split
  ·split
   ·exact(tell_some ht).2
   ·rfl
  ·rfl
def hr (l:List Nat) (o s:Int) (m:Nat):List Cell × Int:=(frC (acc l o s m).1,(acc l o s m).2)
theorem hr_sh {l:List Nat} {o s:Int} {m:Nat}:ShF (hr l o s m).1:=ShF.of acc_len
theorem hr_nil {o s:Int} {m:Nat}:hr [] o s m=(zF,30):=by simp[hr,acc,tell,zF]
def chs (x y:List Cell × Int):List Cell × Int:=
 if x.2=0 then if y.2=0 then if x.1=y.1 then (x.1,3) else (zF,4) else (x.1,1) else if y.2=0 then (y.1,2) else (zF,0)
theorem s_heard {H:Heap} {bc bo bs bf:Nat} (i:Nat) {a1 a2 a:Option Ad} {n1 n2 n c1 c2 c:Nat} {o1 o2 o:Bool} {l:List Nat} {by_ slot:Int} {mem:Nat} {A B:List Cell}
  (hi:i=0∧a=a1∧n=n1∧c=c1∧o=o1∨i=1∧a=a2∧n=n2∧c=c2∧o=o2)
  (hT:H[0]?=some nibB) (hs:Sl H 1 a n (nats .u8 l)) (hc:n≤c) (hby:∀i,gx l i<256) (hm:mem<65536)
  (gc:H[bc]?=some (.cells [.sl a1 n1 c1 o1,.sl a2 n2 c2 o2] false none)) (go:H[bo]?=some (.cells [.int .i64 by_] false none)) (gs:H[bs]?=some (.cells [.int .i64 slot,.int .u16 (mem:Nat)] false none))
  (gf:H[bf]?=some (.cells (A++B) false none)) (hA:A.length=67) (hB:B.length=67) (hd:bc≠bf):
  WC F fXr [.c (.int .i64 (i:Nat)),.c (.ptr (some (bc,0))),.c (.ptr (some (bo,0))),.c (.ptr (some (bs,0))),.c (.ptr (some (bf,0)))] H fun v H'=>
   v=.c (.bool (decide ((hr l by_ slot mem).2=0)))∧H.length≤H'.length∧H'[bf]?=some (.cells (if i=0 then (hr l by_ slot mem).1++B else A++(hr l by_ slot mem).1) false none)∧∀b,b<H.length→b≠bf→H'[b]?=H[b]?:=by
 have lc:=lt_of_get gc;have lo:=lt_of_get go;have ls:=lt_of_get gs;have lf:=lt_of_get gf
 have hlen:=(hr_sh (l:=l) (o:=by_) (s:=slot) (m:=mem)).len
 have hnil:a=none→(hr l by_ slot mem).2=30:=fun e=>by
  have h0:=hs.nil e
  have:l=[]:=by have:=hs.len;simpa [nats,h0] using this
  rw[this,hr_nil]
 have hac:=s_Accept (by_:=by_) (slot:=slot) (o:=o) hT hs hc hby hm
 change WC F fXy _ H fun v H'=>v=.tup [.agg (hr l by_ slot mem).1,.c (.int .i64 (hr l by_ slot mem).2)]∧X1 H H' at hac
 generalize hr l by_ slot mem=q at *
 obtain⟨X,e⟩:=q
 dsimp only at hlen hnil hac ⊢
 have hzl:=zF_len
 have hab:(A++B).length=134:=by rw[List.length_append,hA,hB]
 have hz2:(zF++zF).length=134:=rfl
 refine WC_start eXr (by simp) ?_
 unfold cXr
 rcases hi with ⟨rfl,rfl,rfl,rfl,rfl⟩|⟨rfl,rfl,rfl,rfl,rfl⟩
 ·repeat (with_reducible first|(first|refine pI1 ?_|refine pS1 ?_);intros|refine pA1 ?_|refine pX1 ?_|refine pB1 ?_|exact True.intro)
  refine outM_call hac ?_
  rintro _ H1 ⟨rfl,l1,x1⟩
  repeat (with_reducible first|(first|refine pI1 ?_|refine pS1 ?_);intros|refine pA1 ?_|refine pX1 ?_|refine pB1 ?_|exact True.intro)
  cases a with
  |none=>
   obtain rfl:e=30:=hnil rfl
   repeat (with_reducible first|(first|refine pI1 ?_|refine pS1 ?_);intros|refine pA1 ?_|refine pX1 ?_|refine pB1 ?_|exact True.intro)
   exact⟨rfl,by omega,by simp (disch:=first|with_reducible assumption|omega) only [go_sem,*,reduceCtorEq,↓reduceIte,Nat.reduceLT,Nat.reduceBEq,Nat.reduceAdd,Nat.reduceSub,Nat.reduceMul,Nat.reduceDiv,Nat.reduceMod,Nat.reducePow,Nat.reduceEqDiff,Nat.reduceLeDiff,Int.reduceLT,Int.reduceLE,Int.reduceNeg,Int.reduceToNat,Int.reduceAdd,Int.reduceSub,Int.reduceMul,Int.reduceEq,Int.reduceNe,Int.reduceBEq,Int.reduceBNe,Int.reducePow],fun b hb hne=>by simp (disch:=first|with_reducible assumption|omega) only [go_sem,*,reduceCtorEq,↓reduceIte,Nat.reduceLT,Nat.reduceBEq,Nat.reduceAdd,Nat.reduceSub,Nat.reduceMul,Nat.reduceDiv,Nat.reduceMod,Nat.reducePow,Nat.reduceEqDiff,Nat.reduceLeDiff,Int.reduceLT,Int.reduceLE,Int.reduceNeg,Int.reduceToNat,Int.reduceAdd,Int.reduceSub,Int.reduceMul,Int.reduceEq,Int.reduceNe,Int.reduceBEq,Int.reduceBNe,Int.reducePow]⟩
  |some a=>
   repeat (with_reducible first|(first|refine pI1 ?_|refine pS1 ?_);intros|refine pA1 ?_|refine pX1 ?_|refine pB1 ?_|exact True.intro)
   exact⟨rfl,by omega,by simp (disch:=first|with_reducible assumption|omega) only [go_sem,*,reduceCtorEq,↓reduceIte,Nat.reduceLT,Nat.reduceBEq,Nat.reduceAdd,Nat.reduceSub,Nat.reduceMul,Nat.reduceDiv,Nat.reduceMod,Nat.reducePow,Nat.reduceEqDiff,Nat.reduceLeDiff,Int.reduceLT,Int.reduceLE,Int.reduceNeg,Int.reduceToNat,Int.reduceAdd,Int.reduceSub,Int.reduceMul,Int.reduceEq,Int.reduceNe,Int.reduceBEq,Int.reduceBNe,Int.reducePow],fun b hb hne=>by simp (disch:=first|with_reducible assumption|omega) only [go_sem,*,reduceCtorEq,↓reduceIte,Nat.reduceLT,Nat.reduceBEq,Nat.reduceAdd,Nat.reduceSub,Nat.reduceMul,Nat.reduceDiv,Nat.reduceMod,Nat.reducePow,Nat.reduceEqDiff,Nat.reduceLeDiff,Int.reduceLT,Int.reduceLE,Int.reduceNeg,Int.reduceToNat,Int.reduceAdd,Int.reduceSub,Int.reduceMul,Int.reduceEq,Int.reduceNe,Int.reduceBEq,Int.reduceBNe,Int.reducePow]⟩
 ·repeat (with_reducible first|(first|refine pI1 ?_|refine pS1 ?_);intros|refine pA1 ?_|refine pX1 ?_|refine pB1 ?_|exact True.intro)
  refine outM_call hac ?_
  rintro _ H1 ⟨rfl,l1,x1⟩
  repeat (with_reducible first|(first|refine pI1 ?_|refine pS1 ?_);intros|refine pA1 ?_|refine pX1 ?_|refine pB1 ?_|exact True.intro)
  cases a with
  |none=>
   obtain rfl:e=30:=hnil rfl
   repeat (with_reducible first|(first|refine pI1 ?_|refine pS1 ?_);intros|refine pA1 ?_|refine pX1 ?_|refine pB1 ?_|exact True.intro)
   exact⟨rfl,by omega,by simp (disch:=first|with_reducible assumption|omega) only [go_sem,*,reduceCtorEq,↓reduceIte,Nat.reduceLT,Nat.reduceBEq,Nat.reduceAdd,Nat.reduceSub,Nat.reduceMul,Nat.reduceDiv,Nat.reduceMod,Nat.reducePow,Nat.reduceEqDiff,Nat.reduceLeDiff,Int.reduceLT,Int.reduceLE,Int.reduceNeg,Int.reduceToNat,Int.reduceAdd,Int.reduceSub,Int.reduceMul,Int.reduceEq,Int.reduceNe,Int.reduceBEq,Int.reduceBNe,Int.reducePow],fun b hb hne=>by simp (disch:=first|with_reducible assumption|omega) only [go_sem,*,reduceCtorEq,↓reduceIte,Nat.reduceLT,Nat.reduceBEq,Nat.reduceAdd,Nat.reduceSub,Nat.reduceMul,Nat.reduceDiv,Nat.reduceMod,Nat.reducePow,Nat.reduceEqDiff,Nat.reduceLeDiff,Int.reduceLT,Int.reduceLE,Int.reduceNeg,Int.reduceToNat,Int.reduceAdd,Int.reduceSub,Int.reduceMul,Int.reduceEq,Int.reduceNe,Int.reduceBEq,Int.reduceBNe,Int.reducePow]⟩
  |some a=>
   repeat (with_reducible first|(first|refine pI1 ?_|refine pS1 ?_);intros|refine pA1 ?_|refine pX1 ?_|refine pB1 ?_|exact True.intro)
   exact⟨rfl,by omega,by simp (disch:=first|with_reducible assumption|omega) only [go_sem,*,reduceCtorEq,↓reduceIte,Nat.reduceLT,Nat.reduceBEq,Nat.reduceAdd,Nat.reduceSub,Nat.reduceMul,Nat.reduceDiv,Nat.reduceMod,Nat.reducePow,Nat.reduceEqDiff,Nat.reduceLeDiff,Int.reduceLT,Int.reduceLE,Int.reduceNeg,Int.reduceToNat,Int.reduceAdd,Int.reduceSub,Int.reduceMul,Int.reduceEq,Int.reduceNe,Int.reduceBEq,Int.reduceBNe,Int.reducePow],fun b hb hne=>by simp (disch:=first|with_reducible assumption|omega) only [go_sem,*,reduceCtorEq,↓reduceIte,Nat.reduceLT,Nat.reduceBEq,Nat.reduceAdd,Nat.reduceSub,Nat.reduceMul,Nat.reduceDiv,Nat.reduceMod,Nat.reducePow,Nat.reduceEqDiff,Nat.reduceLeDiff,Int.reduceLT,Int.reduceLE,Int.reduceNeg,Int.reduceToNat,Int.reduceAdd,Int.reduceSub,Int.reduceMul,Int.reduceEq,Int.reduceNe,Int.reduceBEq,Int.reduceBNe,Int.reducePow]⟩
structure Cpy (H:Heap) (a:Option Ad) (n c:Nat) (l:List Nat):Prop where
 sl:Sl H 1 a n (nats .u8 l)
 le:n≤c
 by_:∀i,gx l i<256
theorem Cpy.to {H H':Heap} {a:Option Ad} {n c:Nat} {l:List Nat} (h:Cpy H a n c l) (hx:∀b,b<H.length→H'[b]?=H[b]?):Cpy H' a n c l:=⟨h.sl.to hx,h.le,h.by_⟩
theorem s_Choose {H:Heap} {a1 a2:Option Ad} {n1 n2 c1 c2:Nat} {o1 o2:Bool} {l m:List Nat} {by_ slot:Int} {mem:Nat}
  (hT:H[0]?=some nibB) (h1:Cpy H a1 n1 c1 l) (h2:Cpy H a2 n2 c2 m) (hm:mem<65536):
  WC F fXq [.c (.int .i64 by_),.agg [.int .i64 slot,.int .u16 (mem:Nat)],.c (.sl a1 n1 c1 o1),.c (.sl a2 n2 c2 o2)] H fun v H'=>
   v=.tup [.agg (chs (hr l by_ slot mem) (hr m by_ slot mem)).1,.c (.int .i64 (chs (hr l by_ slot mem) (hr m by_ slot mem)).2)]∧X1 H H':=by
 have h0:=lt_of_get hT
 have hzl:=zF_len
 have hz2:(zF++zF).length=134:=rfl
 refine WC_start eXq (by simp) ?_
 unfold cXq
 repeat (with_reducible first|(first|refine pI1 ?_|refine pS1 ?_);intros|refine pA1 ?_|refine pX1 ?_|refine pB1 ?_|exact True.intro)
 rename_i b1 H1 p1 g1 x1 b2 H2 p2 g2 x2 b3 H3 p3 g3 x3 b4 H4 p4 g4 x4 H5 p5 g5 x5 b6 H6 p6 g6 x6
 refine W_turn bXq_11.eq_1 ?_
 repeat (with_reducible first|(first|refine pI1 ?_|refine pS1 ?_);intros|refine pA1 ?_|refine pX1 ?_|refine pB1 ?_|exact True.intro)
 refine outM_call (s_heard (H:=H6) (A:=zF) (B:=zF) (by_:=by_) 0 (.inl ⟨rfl,rfl,rfl,rfl,rfl⟩) (by simp (disch:=first|with_reducible assumption|omega) only [go_sem,*,reduceCtorEq,↓reduceIte,Nat.reduceLT,Nat.reduceBEq,Nat.reduceAdd,Nat.reduceSub,Nat.reduceMul,Nat.reduceDiv,Nat.reduceMod,Nat.reducePow,Nat.reduceEqDiff,Nat.reduceLeDiff,Int.reduceLT,Int.reduceLE,Int.reduceNeg,Int.reduceToNat,Int.reduceAdd,Int.reduceSub,Int.reduceMul,Int.reduceEq,Int.reduceNe,Int.reduceBEq,Int.reduceBNe,Int.reducePow]) (h1.to fun b hb=>by simp (disch:=first|with_reducible assumption|omega) only [go_sem,*,reduceCtorEq,↓reduceIte,Nat.reduceLT,Nat.reduceBEq,Nat.reduceAdd,Nat.reduceSub,Nat.reduceMul,Nat.reduceDiv,Nat.reduceMod,Nat.reducePow,Nat.reduceEqDiff,Nat.reduceLeDiff,Int.reduceLT,Int.reduceLE,Int.reduceNeg,Int.reduceToNat,Int.reduceAdd,Int.reduceSub,Int.reduceMul,Int.reduceEq,Int.reduceNe,Int.reduceBEq,Int.reduceBNe,Int.reducePow]).sl h1.le h1.by_ hm (by simp (disch:=first|with_reducible assumption|omega) only [go_sem,*,reduceCtorEq,↓reduceIte,Nat.reduceLT,Nat.reduceBEq,Nat.reduceAdd,Nat.reduceSub,Nat.reduceMul,Nat.reduceDiv,Nat.reduceMod,Nat.reducePow,Nat.reduceEqDiff,Nat.reduceLeDiff,Int.reduceLT,Int.reduceLE,Int.reduceNeg,Int.reduceToNat,Int.reduceAdd,Int.reduceSub,Int.reduceMul,Int.reduceEq,Int.reduceNe,Int.reduceBEq,Int.reduceBNe,Int.reducePow];first|done|rfl) (by simp (disch:=first|with_reducible assumption|omega) only [go_sem,*,reduceCtorEq,↓reduceIte,Nat.reduceLT,Nat.reduceBEq,Nat.reduceAdd,Nat.reduceSub,Nat.reduceMul,Nat.reduceDiv,Nat.reduceMod,Nat.reducePow,Nat.reduceEqDiff,Nat.reduceLeDiff,Int.reduceLT,Int.reduceLE,Int.reduceNeg,Int.reduceToNat,Int.reduceAdd,Int.reduceSub,Int.reduceMul,Int.reduceEq,Int.reduceNe,Int.reduceBEq,Int.reduceBNe,Int.reducePow];first|done|rfl) (by simp (disch:=first|with_reducible assumption|omega) only [go_sem,*,reduceCtorEq,↓reduceIte,Nat.reduceLT,Nat.reduceBEq,Nat.reduceAdd,Nat.reduceSub,Nat.reduceMul,Nat.reduceDiv,Nat.reduceMod,Nat.reducePow,Nat.reduceEqDiff,Nat.reduceLeDiff,Int.reduceLT,Int.reduceLE,Int.reduceNeg,Int.reduceToNat,Int.reduceAdd,Int.reduceSub,Int.reduceMul,Int.reduceEq,Int.reduceNe,Int.reduceBEq,Int.reduceBNe,Int.reducePow];first|done|rfl) g6 zF_len zF_len (by omega)) ?_
 rintro _ H7 ⟨rfl,l7,g7,x7⟩
 rw[if_pos rfl] at g7
 have shl:=hr_sh (l:=l) (o:=by_) (s:=slot) (m:=mem)
 have shm:=hr_sh (l:=m) (o:=by_) (s:=slot) (m:=mem)
 have s_h2:=@s_heard H7 b4 b1 b2 b6 1 a1 a2 a2 n1 n2 n2 c1 c2 c2 o1 o2 o2 m by_ slot mem (hr l by_ slot mem).1 zF
 generalize hr l by_ slot mem=q at *
 obtain⟨X,e⟩:=q
 generalize hr m by_ slot mem=q at *
 obtain⟨Y,f⟩:=q
 dsimp only at shl shm s_h2 g7 ⊢
 have lX:=shl.len
 have lY:=shm.len
 have h2':=h2.to (H':=H7) fun b hb=>by simp (disch:=first|with_reducible assumption|omega) only [go_sem,*,reduceCtorEq,↓reduceIte,Nat.reduceLT,Nat.reduceBEq,Nat.reduceAdd,Nat.reduceSub,Nat.reduceMul,Nat.reduceDiv,Nat.reduceMod,Nat.reducePow,Nat.reduceEqDiff,Nat.reduceLeDiff,Int.reduceLT,Int.reduceLE,Int.reduceNeg,Int.reduceToNat,Int.reduceAdd,Int.reduceSub,Int.reduceMul,Int.reduceEq,Int.reduceNe,Int.reduceBEq,Int.reduceBNe,Int.reducePow]
 replace s_h2:=s_h2 (.inr ⟨rfl,rfl,rfl,rfl,rfl⟩) (by simp (disch:=first|with_reducible assumption|omega) only [go_sem,*,reduceCtorEq,↓reduceIte,Nat.reduceLT,Nat.reduceBEq,Nat.reduceAdd,Nat.reduceSub,Nat.reduceMul,Nat.reduceDiv,Nat.reduceMod,Nat.reducePow,Nat.reduceEqDiff,Nat.reduceLeDiff,Int.reduceLT,Int.reduceLE,Int.reduceNeg,Int.reduceToNat,Int.reduceAdd,Int.reduceSub,Int.reduceMul,Int.reduceEq,Int.reduceNe,Int.reduceBEq,Int.reduceBNe,Int.reducePow]) h2'.sl h2.le h2.by_ hm (by simp (disch:=first|with_reducible assumption|omega) only [go_sem,*,reduceCtorEq,↓reduceIte,Nat.reduceLT,Nat.reduceBEq,Nat.reduceAdd,Nat.reduceSub,Nat.reduceMul,Nat.reduceDiv,Nat.reduceMod,Nat.reducePow,Nat.reduceEqDiff,Nat.reduceLeDiff,Int.reduceLT,Int.reduceLE,Int.reduceNeg,Int.reduceToNat,Int.reduceAdd,Int.reduceSub,Int.reduceMul,Int.reduceEq,Int.reduceNe,Int.reduceBEq,Int.reduceBNe,Int.reducePow];first|done|rfl) (by simp (disch:=first|with_reducible assumption|omega) only [go_sem,*,reduceCtorEq,↓reduceIte,Nat.reduceLT,Nat.reduceBEq,Nat.reduceAdd,Nat.reduceSub,Nat.reduceMul,Nat.reduceDiv,Nat.reduceMod,Nat.reducePow,Nat.reduceEqDiff,Nat.reduceLeDiff,Int.reduceLT,Int.reduceLE,Int.reduceNeg,Int.reduceToNat,Int.reduceAdd,Int.reduceSub,Int.reduceMul,Int.reduceEq,Int.reduceNe,Int.reduceBEq,Int.reduceBNe,Int.reducePow];first|done|rfl) (by simp (disch:=first|with_reducible assumption|omega) only [go_sem,*,reduceCtorEq,↓reduceIte,Nat.reduceLT,Nat.reduceBEq,Nat.reduceAdd,Nat.reduceSub,Nat.reduceMul,Nat.reduceDiv,Nat.reduceMod,Nat.reducePow,Nat.reduceEqDiff,Nat.reduceLeDiff,Int.reduceLT,Int.reduceLE,Int.reduceNeg,Int.reduceToNat,Int.reduceAdd,Int.reduceSub,Int.reduceMul,Int.reduceEq,Int.reduceNe,Int.reduceBEq,Int.reduceBNe,Int.reducePow];first|done|rfl) g7 lX zF_len (by omega)
 rw[if_neg (by omega)] at s_h2
 by_cases he:e=0
 ·by_cases hf:f=0
  ·subst he hf
   repeat (with_reducible first|(first|refine pI1 ?_|refine pS1 ?_);intros|refine pA1 ?_|refine pX1 ?_|refine pB1 ?_|exact True.intro)
   refine W_turn bXq_11.eq_1 ?_
   repeat (with_reducible first|(first|refine pI1 ?_|refine pS1 ?_);intros|refine pA1 ?_|refine pX1 ?_|refine pB1 ?_|exact True.intro)
   refine outM_call s_h2 ?_
   rintro _ H8 ⟨rfl,l8,g8,x8⟩
   repeat (with_reducible first|(first|refine pI1 ?_|refine pS1 ?_);intros|refine pA1 ?_|refine pX1 ?_|refine pB1 ?_|exact True.intro)
   refine W_turn bXq_11.eq_1 ?_
   by_cases hXY:X=Y
   ·subst hXY
    rw[show chs (X,0) (X,0)=(X,3) by simp[chs]]
    repeat (with_reducible first|(first|refine pI1 ?_|refine pS1 ?_);intros|refine pA1 ?_|refine pX1 ?_|refine pB1 ?_|exact True.intro)
    exact⟨rfl,by omega,fun b hb=>by simp (disch:=first|with_reducible assumption|omega) only [go_sem,*,reduceCtorEq,↓reduceIte,Nat.reduceLT,Nat.reduceBEq,Nat.reduceAdd,Nat.reduceSub,Nat.reduceMul,Nat.reduceDiv,Nat.reduceMod,Nat.reducePow,Nat.reduceEqDiff,Nat.reduceLeDiff,Int.reduceLT,Int.reduceLE,Int.reduceNeg,Int.reduceToNat,Int.reduceAdd,Int.reduceSub,Int.reduceMul,Int.reduceEq,Int.reduceNe,Int.reduceBEq,Int.reduceBNe,Int.reducePow]⟩
   ·rw[show chs (X,0) (Y,0)=(zF,4) by simp[chs,hXY]]
    repeat (with_reducible first|(first|refine pI1 ?_|refine pS1 ?_);intros|refine pA1 ?_|refine pX1 ?_|refine pB1 ?_|exact True.intro)
    exact⟨rfl,by omega,fun b hb=>by simp (disch:=first|with_reducible assumption|omega) only [go_sem,*,reduceCtorEq,↓reduceIte,Nat.reduceLT,Nat.reduceBEq,Nat.reduceAdd,Nat.reduceSub,Nat.reduceMul,Nat.reduceDiv,Nat.reduceMod,Nat.reducePow,Nat.reduceEqDiff,Nat.reduceLeDiff,Int.reduceLT,Int.reduceLE,Int.reduceNeg,Int.reduceToNat,Int.reduceAdd,Int.reduceSub,Int.reduceMul,Int.reduceEq,Int.reduceNe,Int.reduceBEq,Int.reduceBNe,Int.reducePow]⟩
  ·subst he
   rw[show chs (X,0) (Y,f)=(X,1) by simp[chs,hf]]
   repeat (with_reducible first|(first|refine pI1 ?_|refine pS1 ?_);intros|refine pA1 ?_|refine pX1 ?_|refine pB1 ?_|exact True.intro)
   refine W_turn bXq_11.eq_1 ?_
   repeat (with_reducible first|(first|refine pI1 ?_|refine pS1 ?_);intros|refine pA1 ?_|refine pX1 ?_|refine pB1 ?_|exact True.intro)
   refine outM_call s_h2 ?_
   rintro _ H8 ⟨rfl,l8,g8,x8⟩
   repeat (with_reducible first|(first|refine pI1 ?_|refine pS1 ?_);intros|refine pA1 ?_|refine pX1 ?_|refine pB1 ?_|exact True.intro)
   refine W_turn bXq_11.eq_1 ?_
   repeat (with_reducible first|(first|refine pI1 ?_|refine pS1 ?_);intros|refine pA1 ?_|refine pX1 ?_|refine pB1 ?_|exact True.intro)
   exact⟨rfl,by omega,fun b hb=>by simp (disch:=first|with_reducible assumption|omega) only [go_sem,*,reduceCtorEq,↓reduceIte,Nat.reduceLT,Nat.reduceBEq,Nat.reduceAdd,Nat.reduceSub,Nat.reduceMul,Nat.reduceDiv,Nat.reduceMod,Nat.reducePow,Nat.reduceEqDiff,Nat.reduceLeDiff,Int.reduceLT,Int.reduceLE,Int.reduceNeg,Int.reduceToNat,Int.reduceAdd,Int.reduceSub,Int.reduceMul,Int.reduceEq,Int.reduceNe,Int.reduceBEq,Int.reduceBNe,Int.reducePow]⟩
 ·by_cases hf:f=0
  ·subst hf
   rw[show chs (X,e) (Y,0)=(Y,2) by simp[chs,he]]
   repeat (with_reducible first|(first|refine pI1 ?_|refine pS1 ?_);intros|refine pA1 ?_|refine pX1 ?_|refine pB1 ?_|exact True.intro)
   refine W_turn bXq_11.eq_1 ?_
   repeat (with_reducible first|(first|refine pI1 ?_|refine pS1 ?_);intros|refine pA1 ?_|refine pX1 ?_|refine pB1 ?_|exact True.intro)
   refine outM_call s_h2 ?_
   rintro _ H8 ⟨rfl,l8,g8,x8⟩
   repeat (with_reducible first|(first|refine pI1 ?_|refine pS1 ?_);intros|refine pA1 ?_|refine pX1 ?_|refine pB1 ?_|exact True.intro)
   refine W_turn bXq_11.eq_1 ?_
   repeat (with_reducible first|(first|refine pI1 ?_|refine pS1 ?_);intros|refine pA1 ?_|refine pX1 ?_|refine pB1 ?_|exact True.intro)
   exact⟨rfl,by omega,fun b hb=>by simp (disch:=first|with_reducible assumption|omega) only [go_sem,*,reduceCtorEq,↓reduceIte,Nat.reduceLT,Nat.reduceBEq,Nat.reduceAdd,Nat.reduceSub,Nat.reduceMul,Nat.reduceDiv,Nat.reduceMod,Nat.reducePow,Nat.reduceEqDiff,Nat.reduceLeDiff,Int.reduceLT,Int.reduceLE,Int.reduceNeg,Int.reduceToNat,Int.reduceAdd,Int.reduceSub,Int.reduceMul,Int.reduceEq,Int.reduceNe,Int.reduceBEq,Int.reduceBNe,Int.reducePow]⟩
  ·rw[show chs (X,e) (Y,f)=(zF,0) by simp[chs,hf,he]]
   repeat (with_reducible first|(first|refine pI1 ?_|refine pS1 ?_);intros|refine pA1 ?_|refine pX1 ?_|refine pB1 ?_|exact True.intro)
   refine W_turn bXq_11.eq_1 ?_
   repeat (with_reducible first|(first|refine pI1 ?_|refine pS1 ?_);intros|refine pA1 ?_|refine pX1 ?_|refine pB1 ?_|exact True.intro)
   refine outM_call s_h2 ?_
   rintro _ H8 ⟨rfl,l8,g8,x8⟩
   repeat (with_reducible first|(first|refine pI1 ?_|refine pS1 ?_);intros|refine pA1 ?_|refine pX1 ?_|refine pB1 ?_|exact True.intro)
   refine W_turn bXq_11.eq_1 ?_
   repeat (with_reducible first|(first|refine pI1 ?_|refine pS1 ?_);intros|refine pA1 ?_|refine pX1 ?_|refine pB1 ?_|exact True.intro)
   exact⟨rfl,by omega,fun b hb=>by simp (disch:=first|with_reducible assumption|omega) only [go_sem,*,reduceCtorEq,↓reduceIte,Nat.reduceLT,Nat.reduceBEq,Nat.reduceAdd,Nat.reduceSub,Nat.reduceMul,Nat.reduceDiv,Nat.reduceMod,Nat.reducePow,Nat.reduceEqDiff,Nat.reduceLeDiff,Int.reduceLT,Int.reduceLE,Int.reduceNeg,Int.reduceToNat,Int.reduceAdd,Int.reduceSub,Int.reduceMul,Int.reduceEq,Int.reduceNe,Int.reduceBEq,Int.reduceBNe,Int.reducePow]⟩
theorem s_rChoose {H:Heap} {a1 a2:Option Ad} {n1 n2 c1 c2:Nat} {o1 o2:Bool} {l m:List Nat} {by_ slot:Int} {mem:Nat}
  (h1:Cpy H a1 n1 c1 l) (h2:Cpy H a2 n2 c2 m) (hm:mem<65536):
  WC F fX20 [.c (.int .i64 by_),.agg [.int .i64 slot,.int .u16 (mem:Nat)],.c (.sl a1 n1 c1 o1),.c (.sl a2 n2 c2 o2)] H fun v H'=>
   v=.tup [.agg (chs (hr l by_ slot mem) (hr m by_ slot mem)).1,.c (.int .i64 (chs (hr l by_ slot mem) (hr m by_ slot mem)).2)]∧X1 H H':=by
 have hzl:=zF_len
 have shl:=hr_sh (l:=l) (o:=by_) (s:=slot) (m:=mem)
 have shm:=hr_sh (l:=m) (o:=by_) (s:=slot) (m:=mem)
 have w1:∀{H1},Cpy H1 a1 n1 c1 l→WC F fX1p [.c (.sl a1 n1 c1 o1),.c (.int .i64 by_),.agg [.int .i64 slot,.int .u16 (mem:Nat)]] H1 fun v H'=>v=.tup [.agg (hr l by_ slot mem).1,.c (.int .i64 (hr l by_ slot mem).2)]∧X1 H1 H':=fun h=>s_rAccept h.sl h.le h.by_ hm
 have w2:∀{H1},Cpy H1 a2 n2 c2 m→WC F fX1p [.c (.sl a2 n2 c2 o2),.c (.int .i64 by_),.agg [.int .i64 slot,.int .u16 (mem:Nat)]] H1 fun v H'=>v=.tup [.agg (hr m by_ slot mem).1,.c (.int .i64 (hr m by_ slot mem).2)]∧X1 H1 H':=fun h=>s_rAccept h.sl h.le h.by_ hm
 generalize hr l by_ slot mem=q at *
 obtain⟨X,e⟩:=q
 generalize hr m by_ slot mem=q at *
 obtain⟨Y,f⟩:=q
 dsimp only at shl shm w1 w2
 have lX:=shl.len
 have lY:=shm.len
 refine WC_start eX20 (by simp) ?_
 unfold cX20
 repeat (with_reducible first|(first|refine pI1 ?_|refine pS1 ?_);intros|refine pA1 ?_|refine pX1 ?_|refine pB1 ?_|exact True.intro)
 rename_i b1 H1 p1 g1 x1 b2 H2 p2 g2 x2
 refine outM_call (w1 (h1.to fun b hb=>by simp (disch:=first|with_reducible assumption|omega) only [go_sem,*,reduceCtorEq,↓reduceIte,Nat.reduceLT,Nat.reduceBEq,Nat.reduceAdd,Nat.reduceSub,Nat.reduceMul,Nat.reduceDiv,Nat.reduceMod,Nat.reducePow,Nat.reduceEqDiff,Nat.reduceLeDiff,Int.reduceLT,Int.reduceLE,Int.reduceNeg,Int.reduceToNat,Int.reduceAdd,Int.reduceSub,Int.reduceMul,Int.reduceEq,Int.reduceNe,Int.reduceBEq,Int.reduceBNe,Int.reducePow])) ?_
 rintro _ H3 ⟨rfl,l3,x3⟩
 repeat (with_reducible first|(first|refine pI1 ?_|refine pS1 ?_);intros|refine pA1 ?_|refine pX1 ?_|refine pB1 ?_|exact True.intro)
 rename_i b4 H4 p4 g4 x4 H5 p5 g5 x5
 refine outM_call (w2 (h2.to fun b hb=>by simp (disch:=first|with_reducible assumption|omega) only [go_sem,*,reduceCtorEq,↓reduceIte,Nat.reduceLT,Nat.reduceBEq,Nat.reduceAdd,Nat.reduceSub,Nat.reduceMul,Nat.reduceDiv,Nat.reduceMod,Nat.reducePow,Nat.reduceEqDiff,Nat.reduceLeDiff,Int.reduceLT,Int.reduceLE,Int.reduceNeg,Int.reduceToNat,Int.reduceAdd,Int.reduceSub,Int.reduceMul,Int.reduceEq,Int.reduceNe,Int.reduceBEq,Int.reduceBNe,Int.reducePow])) ?_
 rintro _ H6 ⟨rfl,l6,x6⟩
 clear w1 w2
 by_cases he:e=0
 ·by_cases hf:f=0
  ·subst he hf
   by_cases hXY:X=Y
   ·subst hXY
    rw[show chs (X,0) (X,0)=(X,3) by simp[chs]]
    repeat (with_reducible first|(first|refine pI1 ?_|refine pS1 ?_);intros|refine pA1 ?_|refine pX1 ?_|refine pB1 ?_|exact True.intro)
    exact⟨rfl,by omega,fun b hb=>by simp (disch:=first|with_reducible assumption|omega) only [go_sem,*,reduceCtorEq,↓reduceIte,Nat.reduceLT,Nat.reduceBEq,Nat.reduceAdd,Nat.reduceSub,Nat.reduceMul,Nat.reduceDiv,Nat.reduceMod,Nat.reducePow,Nat.reduceEqDiff,Nat.reduceLeDiff,Int.reduceLT,Int.reduceLE,Int.reduceNeg,Int.reduceToNat,Int.reduceAdd,Int.reduceSub,Int.reduceMul,Int.reduceEq,Int.reduceNe,Int.reduceBEq,Int.reduceBNe,Int.reducePow]⟩
   ·rw[show chs (X,0) (Y,0)=(zF,4) by simp[chs,hXY]]
    repeat (with_reducible first|(first|refine pI1 ?_|refine pS1 ?_);intros|refine pA1 ?_|refine pX1 ?_|refine pB1 ?_|exact True.intro)
    exact⟨rfl,by omega,fun b hb=>by simp (disch:=first|with_reducible assumption|omega) only [go_sem,*,reduceCtorEq,↓reduceIte,Nat.reduceLT,Nat.reduceBEq,Nat.reduceAdd,Nat.reduceSub,Nat.reduceMul,Nat.reduceDiv,Nat.reduceMod,Nat.reducePow,Nat.reduceEqDiff,Nat.reduceLeDiff,Int.reduceLT,Int.reduceLE,Int.reduceNeg,Int.reduceToNat,Int.reduceAdd,Int.reduceSub,Int.reduceMul,Int.reduceEq,Int.reduceNe,Int.reduceBEq,Int.reduceBNe,Int.reducePow]⟩
  ·subst he
   rw[show chs (X,0) (Y,f)=(X,1) by simp[chs,hf]]
   repeat (with_reducible first|(first|refine pI1 ?_|refine pS1 ?_);intros|refine pA1 ?_|refine pX1 ?_|refine pB1 ?_|exact True.intro)
   exact⟨rfl,by omega,fun b hb=>by simp (disch:=first|with_reducible assumption|omega) only [go_sem,*,reduceCtorEq,↓reduceIte,Nat.reduceLT,Nat.reduceBEq,Nat.reduceAdd,Nat.reduceSub,Nat.reduceMul,Nat.reduceDiv,Nat.reduceMod,Nat.reducePow,Nat.reduceEqDiff,Nat.reduceLeDiff,Int.reduceLT,Int.reduceLE,Int.reduceNeg,Int.reduceToNat,Int.reduceAdd,Int.reduceSub,Int.reduceMul,Int.reduceEq,Int.reduceNe,Int.reduceBEq,Int.reduceBNe,Int.reducePow]⟩
 ·by_cases hf:f=0
  ·subst hf
   rw[show chs (X,e) (Y,0)=(Y,2) by simp[chs,he]]
   repeat (with_reducible first|(first|refine pI1 ?_|refine pS1 ?_);intros|refine pA1 ?_|refine pX1 ?_|refine pB1 ?_|exact True.intro)
   exact⟨rfl,by omega,fun b hb=>by simp (disch:=first|with_reducible assumption|omega) only [go_sem,*,reduceCtorEq,↓reduceIte,Nat.reduceLT,Nat.reduceBEq,Nat.reduceAdd,Nat.reduceSub,Nat.reduceMul,Nat.reduceDiv,Nat.reduceMod,Nat.reducePow,Nat.reduceEqDiff,Nat.reduceLeDiff,Int.reduceLT,Int.reduceLE,Int.reduceNeg,Int.reduceToNat,Int.reduceAdd,Int.reduceSub,Int.reduceMul,Int.reduceEq,Int.reduceNe,Int.reduceBEq,Int.reduceBNe,Int.reducePow]⟩
  ·rw[show chs (X,e) (Y,f)=(zF,0) by simp[chs,hf,he]]
   repeat (with_reducible first|(first|refine pI1 ?_|refine pS1 ?_);intros|refine pA1 ?_|refine pX1 ?_|refine pB1 ?_|exact True.intro)
   exact⟨rfl,by omega,fun b hb=>by simp (disch:=first|with_reducible assumption|omega) only [go_sem,*,reduceCtorEq,↓reduceIte,Nat.reduceLT,Nat.reduceBEq,Nat.reduceAdd,Nat.reduceSub,Nat.reduceMul,Nat.reduceDiv,Nat.reduceMod,Nat.reducePow,Nat.reduceEqDiff,Nat.reduceLeDiff,Int.reduceLT,Int.reduceLE,Int.reduceNeg,Int.reduceToNat,Int.reduceAdd,Int.reduceSub,Int.reduceMul,Int.reduceEq,Int.reduceNe,Int.reduceBEq,Int.reduceBNe,Int.reducePow]⟩
end Go.Proofs.YtjcgdcadflplcaaDoor.AM.D21
namespace Go.Proofs.YtjcgdcadflplcaaDoor.AM.D21
open Go Go.Proofs.YtjcgdcadflplcaaDoor.AM Go.Proofs.YtjcgdcadflplcaaDoor.AM.P3
set_option maxHeartbeats 2000000
set_option maxRecDepth 100000
theorem keepX:ExtKeep F:=ExtKeep.funsX fun f g h=>by
 unfold X at h
 split at h
 ·cases h;exact fun args H v H' e=>loadX_keep e
 split at h
 ·cases h;exact fun args H v H' e=>addX_keep e
 cases h
theorem s_Clone {H:Heap} {a:Option Ad} {n c:Nat} {o:Bool} {xs:List Cell} (hs:Sl H 1 a n xs) (hn:n≤100000):
  WC F fX26 [.c (.sl a n c o)] H fun v H'=>Ob H.length H' v xs∧X1 H H':=by
 refine WC_start eX26 (by simp) ?_
 unfold cX26
 cases a with
 |none=>
  have h0:=hs.nil rfl
  subst h0
  obtain rfl:xs=[]:=by have:=hs.len;simpa using this
  repeat (with_reducible first|(first|refine pI1 ?_|refine pS1 ?_);intros|refine pA1 ?_|refine pX1 ?_|refine pB1 ?_|exact True.intro)
  exact⟨⟨none,_,_,rfl,Own.none _ _,fun x e=>by cases e⟩,Nat.le_refl _,fun _ _=>rfl⟩
 |some a=>
  repeat (with_reducible first|(first|refine pI1 ?_|refine pS1 ?_);intros|refine pA1 ?_|refine pX1 ?_|refine pB1 ?_|exact True.intro)
  rename_i b1 H1 l1 g1 x1
  repeat (with_reducible first|(first|refine pI1 ?_|refine pS1 ?_);intros|refine pA1 ?_|refine pX1 ?_|refine pB1 ?_|exact True.intro)
  refine outM_appE (lo:=H.length) (ys:=xs) (fun y e=>by cases e;exact⟨rfl,by omega,_,_,_,g1⟩) (by omega) (hs.to fun b hb=>by simp (disch:=first|with_reducible assumption|omega) only [go_sem,*,reduceCtorEq,↓reduceIte,Nat.reduceLT,Nat.reduceBEq,Nat.reduceAdd,Nat.reduceSub,Nat.reduceMul,Nat.reduceDiv,Nat.reduceMod,Nat.reducePow,Nat.reduceEqDiff,Nat.reduceLeDiff,Int.reduceLT,Int.reduceLE,Int.reduceNeg,Int.reduceToNat,Int.reduceAdd,Int.reduceSub,Int.reduceMul,Int.reduceEq,Int.reduceNe,Int.reduceBEq,Int.reduceBNe,Int.reducePow]) (by omega) ?_
  intro v H2 h2 l2 x2
  repeat (with_reducible first|(first|refine pI1 ?_|refine pS1 ?_);intros|refine pA1 ?_|refine pX1 ?_|refine pB1 ?_|exact True.intro)
  exact⟨h2,by omega,fun b hb=>by simp (disch:=first|with_reducible assumption|omega) only [go_sem,*,reduceCtorEq,↓reduceIte,Nat.reduceLT,Nat.reduceBEq,Nat.reduceAdd,Nat.reduceSub,Nat.reduceMul,Nat.reduceDiv,Nat.reduceMod,Nat.reducePow,Nat.reduceEqDiff,Nat.reduceLeDiff,Int.reduceLT,Int.reduceLE,Int.reduceNeg,Int.reduceToNat,Int.reduceAdd,Int.reduceSub,Int.reduceMul,Int.reduceEq,Int.reduceNe,Int.reduceBEq,Int.reduceBNe,Int.reducePow]⟩
theorem it_bits {b mask:Nat} (hm:mask<4294967296):Iter F fX11 [] [(b,0)] (fun x=>x=b) (fun H=>H[b]?=some (.cells [.int .u32 (mask:Nat)] false none)) (bl mask 32 0):=by
 intro l H J E hP hl hSl hJ hE hr h0 hfin
 refine WC_start eX11 (by simp) ?_
 unfold cX11
 repeat (with_reducible first|(first|refine pI1 ?_|refine pS1 ?_);intros|refine pA1 ?_|refine pX1 ?_|refine pB1 ?_|exact True.intro)
 refine W_loop (fun m st=>∃ρ j Hk,st=⟨L 23 ρ,[],Hk⟩∧m=32-j∧j≤32∧ρ 0=.c (.yld l)∧ρ 1=.c (.ptr (some (b,0)))∧ρ 4=.c (.int .i64 (j:Nat))∧Hk[b]?=some (.cells [.int .u32 (mask:Nat)] false none)∧J (bl mask (32-j) j) Hk) 32 ⟨_,0,H,rfl,rfl,by omega,zf,zf,zf,hP,h0⟩ ?_
 rintro m st ⟨ρ,j,Hk,rfl,rfl,hj,e0,e1,e4,hb,hJk⟩
 unfold bX11_6
 clear hJ hE
 repeat (with_reducible first|(first|refine pI1 ?_|refine pS1 ?_);intros|refine pA1 ?_|refine pX1 ?_|refine pB1 ?_|exact True.intro)
 first|refine ifM_d ?_ ?_|refine gM_dt ?_ ?_|refine gM_df ?_ ?_
 ·intro hlt
  obtain⟨q,hq⟩:∃q,mask / 2 ^ j=q:=⟨_,rfl⟩
  repeat (with_reducible first|(first|refine pI1 ?_|refine pS1 ?_);intros|refine pA1 ?_|refine pX1 ?_|refine pB1 ?_|exact True.intro)
  first|refine ifM_d ?_ ?_|refine gM_dt ?_ ?_|refine gM_df ?_ ?_
  ·intro hz
   repeat (with_reducible first|(first|refine pI1 ?_|refine pS1 ?_);intros|refine pA1 ?_|refine pX1 ?_|refine pB1 ?_|exact True.intro)
   rw[bl_none _ _ (by omega)] at hJk
   exact hfin _ hJk
  ·intro hz
   have step:bl mask (32-j) j=if bt mask j then [.c (.int .i64 (j:Nat))] :: bl mask (32-(j+1)) (j+1) else bl mask (32-(j+1)) (j+1):=by
    rw[show 32-j=(32-(j+1))+1 by omega];rfl
   rw[step] at hJk
   clear step
   by_cases hbit:q % 2=1
   ·rw[if_pos (by unfold bt;rw[hq,hbit];rfl)] at hJk
    repeat (with_reducible first|(first|refine pI1 ?_|refine pS1 ?_);intros|refine pA1 ?_|refine pX1 ?_|refine pB1 ?_|exact True.intro)
    refine outM_yld (hr _ _ Hk hJk) ?_
    rintro v H' ⟨k1,k2,⟨rfl,k3⟩|⟨rfl,k3⟩⟩
    ·have hb':=(k1 b rfl).trans hb
     repeat (with_reducible first|(first|refine pI1 ?_|refine pS1 ?_);intros|refine pA1 ?_|refine pX1 ?_|refine pB1 ?_|exact True.intro)
     refine loopQ_n (32-(j+1)) (by omega) ⟨_,j+1,H',rfl,rfl,by omega,zf,zf,zf,hb',k3⟩
    ·repeat (with_reducible first|(first|refine pI1 ?_|refine pS1 ?_);intros|refine pA1 ?_|refine pX1 ?_|refine pB1 ?_|exact True.intro)
     exact k3
   ·rw[if_neg (by unfold bt;rw[hq];simp;omega)] at hJk
    repeat (with_reducible first|(first|refine pI1 ?_|refine pS1 ?_);intros|refine pA1 ?_|refine pX1 ?_|refine pB1 ?_|exact True.intro)
    refine loopQ_n (32-(j+1)) (by omega) ⟨_,j+1,Hk,rfl,rfl,by omega,zf,zf,zf,hb,hJk⟩
 ·intro hge
  obtain rfl:j=32:=by omega
  repeat (with_reducible first|(first|refine pI1 ?_|refine pS1 ?_);intros|refine pA1 ?_|refine pX1 ?_|refine pB1 ?_|exact True.intro)
  exact hfin _ ((by simpa [bl] using hJk))
theorem s_bits {H:Heap} {mask:Nat}:WC F fX10 [.c (.int .u32 (mask:Nat))] H fun v H'=>∃b,v=.c (.fn fX11 [] [(b,0)])∧H.length≤b∧b<H'.length∧H'[b]?=some (.cells [.int .u32 (mask:Nat)] false none)∧X1 H H':=by
 refine WC_start eX10 (by simp) ?_
 unfold cX10
 repeat (with_reducible first|(first|refine pI1 ?_|refine pS1 ?_);intros|refine pA1 ?_|refine pX1 ?_|refine pB1 ?_|exact True.intro)
 exact⟨_,rfl,by omega,by omega,by assumption,by omega,fun b hb=>by simp (disch:=first|with_reducible assumption|omega) only [go_sem,*,reduceCtorEq,↓reduceIte,Nat.reduceLT,Nat.reduceBEq,Nat.reduceAdd,Nat.reduceSub,Nat.reduceMul,Nat.reduceDiv,Nat.reduceMod,Nat.reducePow,Nat.reduceEqDiff,Nat.reduceLeDiff,Int.reduceLT,Int.reduceLE,Int.reduceNeg,Int.reduceToNat,Int.reduceAdd,Int.reduceSub,Int.reduceMul,Int.reduceEq,Int.reduceNe,Int.reduceBEq,Int.reduceBNe,Int.reducePow]⟩
theorem s_Corrupt {H:Heap} {a:Option Ad} {n c:Nat} {o:Bool} {l:List Nat} {at_:Int} {mask:Nat} (hs:Sl H 1 a n (nats .u8 l)) (hn:n≤100000) (ha1:-9223372036854775808≤at_) (ha2:at_<9223372036854775808) (hm:mask<4294967296) (hby:∀x∈l,x<256):
  WC F fXz [.c (.sl a n c o),.c (.int .i64 at_),.c (.int .u32 (mask:Nat))] H fun v H'=>Ob H.length H' v (nats .u8 (corr l at_ mask))∧X1 H H':=by
 refine WC_start eXz (by simp) ?_
 unfold cXz
 have hlen:=hs.len
 rw[nats_len,Nat.mul_one] at hlen
 repeat (with_reducible first|(first|refine pI1 ?_|refine pS1 ?_);intros|refine pA1 ?_|refine pX1 ?_|refine pB1 ?_|exact True.intro)
 rename_i b1 H1 l1 g1 x1 b2 H2 l2 g2 x2
 repeat (with_reducible first|(first|refine pI1 ?_|refine pS1 ?_);intros|refine pA1 ?_|refine pX1 ?_|refine pB1 ?_|exact True.intro)
 refine outM_call (s_Clone (hs.to fun b hb=>by simp (disch:=first|with_reducible assumption|omega) only [go_sem,*,reduceCtorEq,↓reduceIte,Nat.reduceLT,Nat.reduceBEq,Nat.reduceAdd,Nat.reduceSub,Nat.reduceMul,Nat.reduceDiv,Nat.reduceMod,Nat.reducePow,Nat.reduceEqDiff,Nat.reduceLeDiff,Int.reduceLT,Int.reduceLE,Int.reduceNeg,Int.reduceToNat,Int.reduceAdd,Int.reduceSub,Int.reduceMul,Int.reduceEq,Int.reduceNe,Int.reduceBEq,Int.reduceBNe,Int.reducePow]) (by omega)) ?_
 rintro v H3 ⟨hv,l3,x3⟩
 have hnl:(nats .u8 l).length=n:=by rw[nats_len,hlen]
 have hv':=hv
 obtain⟨a',c',o',rfl,own3,hlo⟩:=hv'
 rw[hnl] at hv own3 ⊢
 have hob:∀x,a'=some x→x.1<H3.length:=fun x e=>own3.lt (b:=x.1) (x:=x.2) e
 repeat (with_reducible first|(first|refine pI1 ?_|refine pS1 ?_);intros|refine pA1 ?_|refine pX1 ?_|refine pB1 ?_|exact True.intro)
 rename_i b4 H4 l4 g4 x4 H5 l5 g5 x5
 have hv5:=hv.keep (H':=H5) fun b hb hb'=>by simp (disch:=first|with_reducible assumption|omega) only [go_sem,*,reduceCtorEq,↓reduceIte,Nat.reduceLT,Nat.reduceBEq,Nat.reduceAdd,Nat.reduceSub,Nat.reduceMul,Nat.reduceDiv,Nat.reduceMod,Nat.reducePow,Nat.reduceEqDiff,Nat.reduceLeDiff,Int.reduceLT,Int.reduceLE,Int.reduceNeg,Int.reduceToNat,Int.reduceAdd,Int.reduceSub,Int.reduceMul,Int.reduceEq,Int.reduceNe,Int.reduceBEq,Int.reduceBNe,Int.reducePow]
 by_cases c1:at_ < -32
 ·have e:corr l at_ mask=l:=R_same (a:=0) (Nat.zero_le _) (fun k _ h2 h3=>by have:=h3.2.1;omega)
  rw[e]
  repeat (with_reducible first|(first|refine pI1 ?_|refine pS1 ?_);intros|refine pA1 ?_|refine pX1 ?_|refine pB1 ?_|exact True.intro)
  exact⟨hv5.mono (lo':=H.length) (by omega),by omega,fun b hb=>by simp (disch:=first|with_reducible assumption|omega) only [go_sem,*,reduceCtorEq,↓reduceIte,Nat.reduceLT,Nat.reduceBEq,Nat.reduceAdd,Nat.reduceSub,Nat.reduceMul,Nat.reduceDiv,Nat.reduceMod,Nat.reducePow,Nat.reduceEqDiff,Nat.reduceLeDiff,Int.reduceLT,Int.reduceLE,Int.reduceNeg,Int.reduceToNat,Int.reduceAdd,Int.reduceSub,Int.reduceMul,Int.reduceEq,Int.reduceNe,Int.reduceBEq,Int.reduceBNe,Int.reducePow]⟩
 ·by_cases c2:((8 * n:Nat):Int)<at_
  ·have e:corr l at_ mask=l:=R_same (a:=0) (Nat.zero_le _) (fun k _ h2 h3=>by have:=h3.1;rw[hlen] at h2;omega)
   rw[e]
   repeat (with_reducible first|(first|refine pI1 ?_|refine pS1 ?_);intros|refine pA1 ?_|refine pX1 ?_|refine pB1 ?_|exact True.intro)
   exact⟨hv5.mono (lo':=H.length) (by omega),by omega,fun b hb=>by simp (disch:=first|with_reducible assumption|omega) only [go_sem,*,reduceCtorEq,↓reduceIte,Nat.reduceLT,Nat.reduceBEq,Nat.reduceAdd,Nat.reduceSub,Nat.reduceMul,Nat.reduceDiv,Nat.reduceMod,Nat.reducePow,Nat.reduceEqDiff,Nat.reduceLeDiff,Int.reduceLT,Int.reduceLE,Int.reduceNeg,Int.reduceToNat,Int.reduceAdd,Int.reduceSub,Int.reduceMul,Int.reduceEq,Int.reduceNe,Int.reduceBEq,Int.reduceBNe,Int.reducePow]⟩
  ·repeat (with_reducible first|(first|refine pI1 ?_|refine pS1 ?_);intros|refine pA1 ?_|refine pX1 ?_|refine pB1 ?_|exact True.intro)
   repeat (with_reducible first|(first|refine pI1 ?_|refine pS1 ?_);intros|refine pA1 ?_|refine pX1 ?_|refine pB1 ?_|exact True.intro)
   refine outM_call (s_bits (mask:=mask)) ?_
   rintro _ H6 ⟨b6,rfl,hb6,hb6',g6,l6,x6⟩
   repeat (with_reducible first|(first|refine pI1 ?_|refine pS1 ?_);intros|refine pA1 ?_|refine pX1 ?_|refine pB1 ?_|exact True.intro)
   generalize hρ:Env.up _ 23 _=ρ0
   have e3:ρ0 3=.c (.ptr (some (b1,0))):=by rw[←hρ];exact zf
   have e4:ρ0 4=.c (.ptr (some (b2,0))):=by rw[←hρ];exact zf
   have e7:ρ0 7=.c (.ptr (some (b4,0))):=by rw[←hρ];exact zf
   have e23:ρ0 23=.c (.fn fX11 [] [(b6,0)]):=by rw[←hρ];exact zf
   clear hρ
   unfold aXz_9
   refine W_range (F:=F) keepX zf (it_bits hm) (fun r Hx=>∃j,j≤32∧r=bl mask (32-j) j∧H6.length≤Hx.length∧(∀b,b<H2.length∨b=b4→Hx[b]?=H5[b]?)∧Own Hx 1 a' n c' o' (nats .u8 (R l at_ mask (clamp n (at_+j)))))
    (fun _ _=>False) (fun J=>get_app' J g6) (fun b hb=>by subst hb;exact hb6') ?_ (fun _ _ _ h=>h.elim) ?_ ?_ ?_ (fun _ _ h=>h.elim)
   ·rintro r H7 H8 ⟨j,j1,j2,j3,j4,j5⟩ hf
    have hl:=hf.len
    have hx:∀b,b<H7.length→b≠b6→b≠H6.length+1→H8[b]?=H7[b]?:=fun b h1 h2 h3=>hf.old b h1 (by omega)
    exact⟨j,j1,j2,by omega,fun b hb=>by simp (disch:=first|with_reducible assumption|omega) only [go_sem,*,reduceCtorEq,↓reduceIte,Nat.reduceLT,Nat.reduceBEq,Nat.reduceAdd,Nat.reduceSub,Nat.reduceMul,Nat.reduceDiv,Nat.reduceMod,Nat.reducePow,Nat.reduceEqDiff,Nat.reduceLeDiff,Int.reduceLT,Int.reduceLE,Int.reduceNeg,Int.reduceToNat,Int.reduceAdd,Int.reduceSub,Int.reduceMul,Int.reduceEq,Int.reduceNe,Int.reduceBEq,Int.reduceBNe,Int.reducePow],j5.keep fun b x e=>hx b (j5.lt e) (by have:=hob _ e;simp only at this;omega) (by have:=hob _ e;simp only at this;omega)⟩
   ·intro rr
    have hx:∀b,b<H6.length→(H6++[.defd,.loop .ready none rr])[b]?=H6[b]?:=fun b hb=>get_app _ hb
    refine⟨0,by omega,rfl,by simp,fun b hb=>by simp (disch:=first|with_reducible assumption|omega) only [go_sem,*,reduceCtorEq,↓reduceIte,Nat.reduceLT,Nat.reduceBEq,Nat.reduceAdd,Nat.reduceSub,Nat.reduceMul,Nat.reduceDiv,Nat.reduceMod,Nat.reducePow,Nat.reduceEqDiff,Nat.reduceLeDiff,Int.reduceLT,Int.reduceLE,Int.reduceNeg,Int.reduceToNat,Int.reduceAdd,Int.reduceSub,Int.reduceMul,Int.reduceEq,Int.reduceNe,Int.reduceBEq,Int.reduceBNe,Int.reducePow],?_⟩
    have:R l at_ mask (clamp n (at_+(0:Nat)))=l:=by
     rw[R_same (a:=0) (Nat.zero_le _) (fun k _ h2 h3=>by unfold clamp at h2;have:=h3.1;omega)];rfl
    rw[this]
    refine own3.keep fun b x e=>?_
    have:=hob _ e;simp only at this
    simp (disch:=first|with_reducible assumption|omega) only [go_sem,*,reduceCtorEq,↓reduceIte,Nat.reduceLT,Nat.reduceBEq,Nat.reduceAdd,Nat.reduceSub,Nat.reduceMul,Nat.reduceDiv,Nat.reduceMod,Nat.reducePow,Nat.reduceEqDiff,Nat.reduceLeDiff,Int.reduceLT,Int.reduceLE,Int.reduceNeg,Int.reduceToNat,Int.reduceAdd,Int.reduceSub,Int.reduceMul,Int.reduceEq,Int.reduceNe,Int.reduceBEq,Int.reduceBNe,Int.reducePow]
   ·rintro x rest H7 ⟨j,j1,j2,j3,j4,j5⟩
    obtain⟨i,i1,i2,i3,i4,rfl,rfl⟩:=bl_cons j2.symm
    refine⟨rfl,?_⟩
    simp only[List.zip_cons_cons,List.zip_nil_left,List.foldl_cons,List.foldl_nil,L_set]
    repeat (with_reducible first|(first|refine pI1 ?_|refine pS1 ?_);intros|refine pA1 ?_|refine pX1 ?_|refine pB1 ?_|exact True.intro)
    refine⟨rfl,rfl,rfl,?_⟩
    rintro H8 ⟨q,q1,q2,q3,q4,q5⟩ hlp
    obtain⟨i',p1,p2,p3,p4,p5,p6⟩:=bl_cons q2.symm
    obtain rfl:i'=i:=by simp at p5;omega
    unfold bXz_10
    have hcl:(R l at_ mask (clamp n (at_+q))).length=n:=by rw[R_len,hlen]
    have y1:=q4 b1 (by omega)
    have y2:=q4 b2 (by omega)
    have y3:=q4 b4 (by omega)
    have z1:=lt_of_get g1
    have z2:=lt_of_get g2
    try dsimp only
    have hst:bl mask (j+(32-j)-(i'+1)) (i'+1)=bl mask (32-(i'+1)) (i'+1):=by rw[show j+(32-j)-(i'+1)=32-(i'+1) by omega]
    have hsk:∀m,clamp n (at_+q)≤m→m<clamp n (at_+i')→¬hit at_ mask m:=by
     intro m m1 m2 m3
     unfold clamp at m1 m2
     have:=p4 ((m:Int)-at_).toNat (by have:=m3.1;omega) (by have:=m3.1;omega)
     rw[m3.2.2] at this;cases this
    have hR1:R l at_ mask (clamp n (at_+i'))=R l at_ mask (clamp n (at_+q)):=R_same (by unfold clamp;omega) hsk
    by_cases h1:0≤at_+i'∧at_+i'<8 * n
    ·obtain⟨k,hk⟩:∃k:Nat,at_+(i':Int)=(k:Int):=⟨(at_+i').toNat,by omega⟩
     have hk8:k / 8<n:=by omega
     obtain⟨b,rfl,hb1,hb2,hblk⟩:∃b,a'=some (b,0)∧H2.length≤b∧b<H3.length∧H8[b]?=some (.cells (nats .u8 (R l at_ mask (clamp n (at_+q)))) false (some 1)):=by
      rcases q5 with ⟨_,h,_⟩|⟨b,rfl,_,_,_,hb⟩|⟨b,_,h,_⟩
      ·omega
      ·exact⟨b,rfl,hlo _ rfl,hob _ rfl,hb⟩
      ·omega
     have hq8:((k:Int) / 8).toNat=k / 8:=by omega
     have hr8:((k:Int) % 8).toNat=k % 8:=by omega
     have hp8:1 * 2 ^ (k % 8) % 256=2 ^ (k % 8):=by
      have:∀j,j<8→1 * 2 ^ j % 256=2 ^ j:=by decide
      exact this _ (Nat.mod_lt _ (by decide))
     have hkc:clamp n (at_+q)≤k:=by unfold clamp;omega
     have hR2:R l at_ mask (clamp n (at_+(i'+1:Nat)))=fl k (R l at_ mask (clamp n (at_+q))):=by
      have e1:clamp n (at_+(i'+1:Nat))=k+1:=by unfold clamp;omega
      have e2:clamp n (at_+i')=k:=by unfold clamp;omega
      rw[e1,R_flip ⟨by omega,by omega,by rw[show ((k:Int)-at_).toNat=i' by omega];exact p3⟩,←hR1,e2]
     have hgl:gx (R l at_ mask (clamp n (at_+q))) (k / 8)<256:=lt_gx (R_by hby at_ mask _) _
     generalize R l at_ mask (clamp n (at_+q))=xs at *
     repeat (with_reducible first|(first|refine pI1 ?_|refine pS1 ?_);intros|refine pA1 ?_|refine pX1 ?_|refine pB1 ?_|exact True.intro)
     rename_i H9 l9 g9 x9
     refine⟨⟨none,by rw[x9 _ (by omega)];exact hlp⟩,fun b' hb'=>by subst hb';exact x9 _ (by omega),(by show H8.length≤H9.length;omega),i'+1,by omega,hst,(by show H6.length≤H9.length;omega),fun b' hb'=>?_,?_⟩
     ·rw[x9 _ (by omega),q4 b' hb']
     ·rw[hR2]
      rcases q5 with ⟨h,_⟩|⟨_,_,e1,e2,e3,_⟩|⟨_,_,h,_⟩
      ·cases h
      ·exact .inr (.inl ⟨b,rfl,e1,e2,by rw[nats_len,fl_len];rw[nats_len] at e3;exact e3,by rw[g9,nats_set];rfl⟩)
      ·omega
    ·have hR2:R l at_ mask (clamp n (at_+(i'+1:Nat)))=R l at_ mask (clamp n (at_+q)):=by
      rw[←hR1]
      exact R_same (by unfold clamp;omega) fun m m1 m2 m3=>by unfold clamp at m1 m2;omega
     by_cases h2:0≤at_+i'
     ·repeat (with_reducible first|(first|refine pI1 ?_|refine pS1 ?_);intros|refine pA1 ?_|refine pX1 ?_|refine pB1 ?_|exact True.intro)
      exact⟨⟨none,hlp⟩,fun _ _=>rfl,Nat.le_refl _,i'+1,by omega,hst,q3,q4,by rw[hR2];exact q5⟩
     ·repeat (with_reducible first|(first|refine pI1 ?_|refine pS1 ?_);intros|refine pA1 ?_|refine pX1 ?_|refine pB1 ?_|exact True.intro)
      exact⟨⟨none,hlp⟩,fun _ _=>rfl,Nat.le_refl _,i'+1,by omega,hst,q3,q4,by rw[hR2];exact q5⟩
   ·rintro H7 ⟨j,j1,j2,j3,j4,j5⟩ hd hl
    have:R l at_ mask (8 * n)=R l at_ mask (clamp n (at_+j)):=by
     refine R_same (by unfold clamp;omega) (fun k h1 h2 h3=>?_)
     unfold clamp at h1
     have h4:=bl_end j2.symm ((k:Int)-at_).toNat (by have:=h3.1;omega) (by have:=h3.1;have:=h3.2.1;omega)
     rw[h3.2.2] at h4
     cases h4
    rw[←this,←hlen] at j5
    have y3:=j4 b4 (by omega)
    repeat (with_reducible first|(first|refine pI1 ?_|refine pS1 ?_);intros|refine pA1 ?_|refine pX1 ?_|refine pB1 ?_|exact True.intro)
    refine callQ_1 hd ?_
    intro H8 l8 x8
    repeat (with_reducible first|(first|refine pI1 ?_|refine pS1 ?_);intros|refine pA1 ?_|refine pX1 ?_|refine pB1 ?_|exact True.intro)
    refine⟨⟨a',c',o',by rw[nats_len,corr_len,hlen],?_,fun x e=>by have:=hlo x e;omega⟩,by omega,fun b hb=>?_⟩
    ·subst hlen
     rw[nats_len,corr_len]
     unfold corr
     refine j5.keep fun b x e=>x8 b (by have:=hob _ e;simp only at this;omega)
    ·rw[x8 b (by omega),j4 b (by omega)]
     simp (disch:=first|with_reducible assumption|omega) only [go_sem,*,reduceCtorEq,↓reduceIte,Nat.reduceLT,Nat.reduceBEq,Nat.reduceAdd,Nat.reduceSub,Nat.reduceMul,Nat.reduceDiv,Nat.reduceMod,Nat.reducePow,Nat.reduceEqDiff,Nat.reduceLeDiff,Int.reduceLT,Int.reduceLE,Int.reduceNeg,Int.reduceToNat,Int.reduceAdd,Int.reduceSub,Int.reduceMul,Int.reduceEq,Int.reduceNe,Int.reduceBEq,Int.reduceBNe,Int.reducePow]
end Go.Proofs.YtjcgdcadflplcaaDoor.AM.D21
namespace Go.Proofs.YtjcgdcadflplcaaDoor.AM.D21
open Go Go.Proofs.YtjcgdcadflplcaaDoor.AM Go.Proofs.YtjcgdcadflplcaaDoor.AM.C02 Go.Proofs.YtjcgdcadflplcaaDoor.AM.C07
set_option maxHeartbeats 2000000
set_option maxRecDepth 100000
attribute [local go_sem] tn_add1 tn_sub1 put_all' nums_len
theorem s_LoadUint64 {H:Heap} {p o n:Nat} {cs:List Cell} {g:Option Nat} (hb:H[p]?=some (.cells cs false g)) (ho:cs[o]?=some (.int .u64 (n:Nat))):
  WC F fX1 [.c (.ptr (some (p,o)))] H fun v H'=>v=.c (.int .u64 (n:Nat))∧H'=H:=by
 have hf:F fX1=some (.ext loadX):=by rfl
 refine WC_ext hf (v:=.c (.int .u64 (n:Nat))) (H':=H) ?_ ⟨rfl,rfl⟩
 unfold loadX
 dsimp only
 rw[ld_of hb,ho]
theorem s_AddUint64 {H:Heap} {p o n k:Nat} {cs:List Cell} {g:Option Nat} (hb:H[p]?=some (.cells cs false g)) (ho:cs[o]?=some (.int .u64 (n:Nat))):
  WC F fX0 [.c (.ptr (some (p,o))),.c (.int .u64 (k:Nat))] H fun _ H'=>H'[p]?=some (.cells (cs.set o (.int .u64 ((n+k) % 18446744073709551616:Nat))) false g)∧H'.length=H.length∧∀b,b≠p→H'[b]?=H[b]?:=by
 have hf:F fX0=some (.ext addX):=by rfl
 have hw:IntKind.u64.wrap ((n:Int)+(k:Int))=((n+k) % 18446744073709551616:Nat):=by rw[wrap_u64_i]<;>omega
 have hlt:o<cs.length:=(List.getElem?_eq_some_iff.1 ho).1
 refine WC_ext hf (v:=.c (.int .u64 ((n+k) % 18446744073709551616:Nat))) (H':=H.set p (.cells (cs.set o (.int .u64 ((n+k) % 18446744073709551616:Nat))) false g)) ?_ ⟨get_set_same _ (lt_of_get hb),by simp,fun b hb=>List.getElem?_set_ne fun e=>hb e.symm⟩
 unfold addX
 dsimp only
 rw[ld_of hb,ho]
 dsimp only
 rw[hw,st_one hb _ hlt]
 rfl
theorem s_Load {H:Heap} {p o n:Nat} {cs:List Cell} {g:Option Nat} (hb:H[p]?=some (.cells cs false g)) (ho:cs[o]?=some (.int .u64 (n:Nat))):
  WC F fX3 [.c (.ptr (some (p,o)))] H fun v H'=>v=.c (.int .u64 (n:Nat))∧H'=H:=by
 refine WC_start eX3 (by simp) ?_
 unfold cX3
 have h0:=s_LoadUint64 hb ho
 clear hb ho
 repeat (with_reducible first|(first|refine pI1 ?_|refine pS1 ?_);intros|refine pA1 ?_|refine pX1 ?_|refine pB1 ?_|exact True.intro)
 refine outM_call h0 ?_
 rintro _ H1 ⟨rfl,rfl⟩
 repeat (with_reducible first|(first|refine pI1 ?_|refine pS1 ?_);intros|refine pA1 ?_|refine pX1 ?_|refine pB1 ?_|exact True.intro)
 exact⟨rfl,rfl⟩
theorem s_Add {H:Heap} {p o n k:Nat} {cs:List Cell} {g:Option Nat} (hb:H[p]?=some (.cells cs false g)) (ho:cs[o]?=some (.int .u64 (n:Nat))):
  WC F fX2 [.c (.ptr (some (p,o))),.c (.int .u64 (k:Nat))] H fun _ H'=>H'[p]?=some (.cells (cs.set o (.int .u64 ((n+k) % 18446744073709551616:Nat))) false g)∧H'.length=H.length∧∀b,b≠p→H'[b]?=H[b]?:=by
 refine WC_start eX2 (by simp) ?_
 unfold cX2
 have h0:=s_AddUint64 (k:=k) hb ho
 clear hb ho
 repeat (with_reducible first|(first|refine pI1 ?_|refine pS1 ?_);intros|refine pA1 ?_|refine pX1 ?_|refine pB1 ?_|exact True.intro)
 refine outM_call h0 ?_
 rintro v H1 ⟨h1,h2,h3⟩
 have fin:=hd3 h1 h2 h3
 clear h1 h2 h3 h0
 repeat (with_reducible first|(first|refine pI1 ?_|refine pS1 ?_);intros|refine pA1 ?_|refine pX1 ?_|refine pB1 ?_|exact True.intro)
 exact fin _ fun h1 h2 h3=>⟨h1,h2,h3⟩
theorem s_CloneI {H:Heap} {a:Option Ad} {n c:Nat} {o:Bool} {xs:List Cell} (hs:Sl H 1 a n xs) (h0:0<n) (hn:n≤100000):
  WC F fX27 [.c (.sl a n c o)] H fun v H'=>∃e,v=.c (.sl (some (e,0)) n n true)∧H'[e]?=some (.cells xs false (some 1))∧H.length≤e∧e<H'.length∧Xt H H':=by
 refine WC_start eX27 (by simp) ?_
 unfold cX27
 obtain⟨a,rfl⟩:=hs.is_some h0
 repeat (with_reducible first|(first|refine pI1 ?_|refine pS1 ?_);intros|refine pA1 ?_|refine pX1 ?_|refine pB1 ?_|exact True.intro)
 rename_i b1 H1 l1 g1 x1
 repeat (with_reducible first|(first|refine pI1 ?_|refine pS1 ?_);intros|refine pA1 ?_|refine pX1 ?_|refine pB1 ?_|exact True.intro)
 refine outM_appC (Sl.blk g1 rfl) (hs.to (H':=H1) fun b hb=>x1 b (by omega)) h0 (by unfold most;omega) ?_
 intro e H2 k1 k2 k3
 rw[Nat.zero_add]
 rw[List.nil_append] at k2
 repeat (with_reducible first|(first|refine pI1 ?_|refine pS1 ?_);intros|refine pA1 ?_|refine pX1 ?_|refine pB1 ?_|exact True.intro)
 exact⟨_,rfl,k2,by omega,by omega,by omega,fun b hb=>by rw[k3 b (by omega),x1 b (by omega)]⟩
theorem s_owner {H:Heap} {p:Nat} {a:Option Ad} {c:Nat} {o:Bool} {ws:List Int} {bl pa:Nat} {slot:Int} (hb:BusM H p a c o ws bl pa) (hw:ws.length≤100000) (hs:i64 slot):
  WC F fX7 [.c (.ptr (some (p,0))),.c (.int .i64 slot)] H fun v H'=>v=.c (.int .i64 (ownF ws slot))∧H'=H:=by
 refine WC_start eX7 (by simp) ?_
 unfold cX7
 obtain⟨h1,h2,-⟩:=hb
 obtain⟨s1,s2⟩:=hs
 obtain⟨n,hn⟩:∃n,ws.length=n:=⟨_,rfl⟩
 rw[hn] at h1 h2 hw
 by_cases c1:slot<0
 ·have e:ownF ws slot=-1:=by unfold ownF;rw[if_pos (.inl c1)]
  rw[e]
  clear h2 hn
  repeat (with_reducible first|(first|refine pI1 ?_|refine pS1 ?_);intros|refine pA1 ?_|refine pX1 ?_|refine pB1 ?_|exact True.intro)
  exact⟨rfl,rfl⟩
 by_cases c2:n=0
 ·have e:ownF ws slot=-1:=by unfold ownF;rw[if_pos (.inr (by omega))]
  rw[e]
  subst c2
  clear h2 hn
  repeat (with_reducible first|(first|refine pI1 ?_|refine pS1 ?_);intros|refine pA1 ?_|refine pX1 ?_|refine pB1 ?_|exact True.intro)
  exact⟨rfl,rfl⟩
 obtain⟨s,rfl⟩:∃s:Nat,slot=s:=⟨slot.toNat,by omega⟩
 obtain⟨q,hq⟩:∃q,q=s % n:=⟨_,rfl⟩
 have hlt:q<n:=by rw[hq];exact Nat.mod_lt _ (by omega)
 have e:ownF ws s=gn ws q:=by unfold ownF;rw[if_neg (by omega),hq,hn,Int.toNat_natCast]
 rw[e]
 obtain⟨⟨lb,y⟩,rfl⟩:=h2.is_some (by omega)
 have hg:=h2.gn hn hlt
 dsimp only at hg
 have hr:(s:Int) % (n:Int)=(q:Nat):=by rw[hq];rfl
 clear h2 hn e hq
 generalize gn ws q=w at *
 repeat (with_reducible first|(first|refine pI1 ?_|refine pS1 ?_);intros|refine pA1 ?_|refine pX1 ?_|refine pB1 ?_|exact True.intro)
 exact⟨rfl,rfl⟩
end Go.Proofs.YtjcgdcadflplcaaDoor.AM.D21
namespace Go.Proofs.YtjcgdcadflplcaaDoor.AM.D21
open Go Go.Proofs.YtjcgdcadflplcaaDoor.AM Go.Proofs.YtjcgdcadflplcaaDoor.AM.C02 Go.Proofs.YtjcgdcadflplcaaDoor.AM.C07
set_option maxHeartbeats 2000000
set_option maxRecDepth 100000
attribute [local go_sem] tn_add1 tn_sub1 put_all' nums_len sub12
theorem s_New {N:Nat} {H:Heap} {c:Cfg} {h:Hd} (hc:CfgM N H c h) (hN:N≤H.length):WC F fXa [.agg (c.cells h)] H fun v H'=>Xt H H'∧
  ((c.check≠0∧v=.tup [.c (.ptr none),.c (.int .i64 c.check)])∨(c.check=0∧∃p e,v=.tup [.c (.ptr (some (p,0))),.c (.int .i64 0)]∧H.length≤p∧p<H'.length∧H.length≤e∧e<H'.length∧BusM H' p (some (e,0)) c.owners.length true c.owners 0 0)):=by
 refine WC_start eXa (by simp) ?_
 unfold cXa
 have hck:=fun(Hx:Heap) (hx:∀b,b<N→Hx[b]?=H[b]?) (hl:N≤Hx.length)=>s_Check (hc.keep (H':=Hx) hx) hl
 have hown:=hc.owners
 have hownN:=hc.ownersN
 obtain⟨C,hC⟩:∃C,C=c.cells h:=⟨_,rfl⟩
 have hsub:sub C 0 12=some C:=by rw[hC];rfl
 have hfld:C[1]?=some (.sl h.a1 c.owners.length h.c1 h.o1):=by rw[hC];rfl
 rw[←hC] at hck ⊢
 have hok:c.check=0→4≤c.owners.length∧c.owners.length≤16:=fun h0=>by
  obtain⟨q1,q2,q3,_⟩:=(Cfg.check_ok.1 h0).nodes
  omega
 obtain⟨k,hk⟩:∃k,k=c.check:=⟨_,rfl⟩
 rw[←hk] at hck hok ⊢
 obtain⟨n,hn⟩:∃n,n=c.owners.length:=⟨_,rfl⟩
 rw[←hn] at hown hfld hok ⊢
 have fin0:=hd5 hck hown hownN hok hn
 clear hck hown hownN hok hn hk hC hc
 repeat (with_reducible first|(first|refine pI1 ?_|refine pS1 ?_);intros|refine pA1 ?_|refine pX1 ?_|refine pB1 ?_|exact True.intro)
 rename_i b1 H1 p1 g1 x1
 have fx:=hd1 x1
 clear x1
 repeat (with_reducible first|(first|refine pI1 ?_|refine pS1 ?_);intros|refine pA1 ?_|refine pX1 ?_|refine pB1 ?_|exact True.intro)
 refine outM_call (fin0 _ fun hck _ _ _ _=>hck H1 (fun b hb=>fx _ fun x1=>x1 b (by omega)) (by omega)) ?_
 rintro _ H2 ⟨rfl,l2,x2⟩
 have g2:H2[b1]?=_:=(x2 b1 (by omega)).trans g1
 have fx2:=hd1 x2
 clear x2 g1
 by_cases h0:k=0
 case neg=>
  repeat (with_reducible first|(first|refine pI1 ?_|refine pS1 ?_);intros|refine pA1 ?_|refine pX1 ?_|refine pB1 ?_|exact True.intro)
  exact⟨⟨by omega,fun b hb=>by rw[fx2 _ fun x2=>x2 b (by omega)];exact fx _ fun x1=>x1 b (by omega)⟩,.inl ⟨h0,rfl⟩⟩
 subst h0
 have hs2:Sl H2 1 h.a1 n (nums c.owners):=fin0 _ fun _ hown hN' _ _=>hown.keep fun b x e=>by
  have:=hN' b x e
  rw[fx2 _ fun x2=>x2 b (by omega)];exact fx _ fun x1=>x1 b (by omega)
 have hn4:=fin0 _ fun _ _ _ hok _=>hok rfl
 have hcl:=s_CloneI (c:=h.c1) (o:=h.o1) hs2 (by omega) (by omega)
 clear hs2
 repeat (with_reducible first|(first|refine pI1 ?_|refine pS1 ?_);intros|refine pA1 ?_|refine pX1 ?_|refine pB1 ?_|exact True.intro)
 refine outM_call hcl ?_
 rintro _ H3 ⟨e,rfl,g3,p3,q3,l3,x3⟩
 clear hcl
 have fx3:=hd2 x3 g3
 clear x3 g3
 repeat (with_reducible first|(first|refine pI1 ?_|refine pS1 ?_);intros|refine pA1 ?_|refine pX1 ?_|refine pB1 ?_|exact True.intro)
 rename_i b4 H4 p4 g4 x4
 have fx4:=hd1 x4
 clear x4
 repeat (with_reducible first|(first|refine pI1 ?_|refine pS1 ?_);intros|refine pA1 ?_|refine pX1 ?_|refine pB1 ?_|exact True.intro)
 have hall:∀b,b<H.length→H4[b]?=H[b]?:=fun b hb=>by
  rw[fx4 _ fun x4=>x4 b (by omega),fx3 _ fun x3 _=>x3 b (by omega),fx2 _ fun x2=>x2 b (by omega)];exact fx _ fun x1=>x1 b (by omega)
 refine⟨⟨by omega,hall⟩,.inr ⟨rfl,b4,e,rfl,by omega,by omega,by omega,by omega,?_⟩⟩
 have hn:=fin0 _ fun _ _ _ _ hn=>hn
 refine⟨by rw[←hn];exact g4,?_,fun b x e'=>by cases e';omega⟩
 refine Sl.blk ((fx4 _ fun x4=>x4 e (by omega)).trans (fx3 _ fun _ g3=>g3)) (by rw[nums_len])
theorem s_pass1 {H:Heap} {b:Nat} {ow nd:Int} {x:Cell} (hb:H[b]?=some (.cells [.int .i64 ow] false none)):
  WC F fX9 [.agg [.int .i64 nd,x],.c (.ptr (some (b,0)))] H fun v H'=>v=.c (.bool (decide (0≤ow∧nd=ow)))∧Xt H H':=by
 refine WC_start eX9 (by simp) ?_
 unfold cX9
 have hlt:=lt_of_get hb
 repeat (with_reducible first|(first|refine pI1 ?_|refine pS1 ?_);intros|refine pA1 ?_|refine pX1 ?_|refine pB1 ?_|exact True.intro)
 rename_i b1 H1 p1 g1 x1
 have k1:H1[b]?=_:=(x1 b (by omega)).trans hb
 have fx:=hd1 x1
 clear x1 hb
 by_cases c1:0≤ow
 ·by_cases c2:nd=ow
  ·subst c2
   repeat (with_reducible first|(first|refine pI1 ?_|refine pS1 ?_);intros|refine pA1 ?_|refine pX1 ?_|refine pB1 ?_|exact True.intro)
   exact⟨by simp[c1],by omega,fun b hb=>fx _ fun x1=>x1 b (by omega)⟩
  ·repeat (with_reducible first|(first|refine pI1 ?_|refine pS1 ?_);intros|refine pA1 ?_|refine pX1 ?_|refine pB1 ?_|exact True.intro)
   exact⟨by simp[c1,c2],by omega,fun b hb=>fx _ fun x1=>x1 b (by omega)⟩
 ·repeat (with_reducible first|(first|refine pI1 ?_|refine pS1 ?_);intros|refine pA1 ?_|refine pX1 ?_|refine pB1 ?_|exact True.intro)
  exact⟨by simp[c1],by omega,fun b hb=>fx _ fun x1=>x1 b (by omega)⟩
end Go.Proofs.YtjcgdcadflplcaaDoor.AM.D21
namespace Go.Proofs.YtjcgdcadflplcaaDoor.AM.D21
open Go Go.Proofs.YtjcgdcadflplcaaDoor.AM Go.Proofs.YtjcgdcadflplcaaDoor.AM.C02 Go.Proofs.YtjcgdcadflplcaaDoor.AM.C07
set_option maxHeartbeats 2000000
set_option maxRecDepth 100000
attribute [local go_sem] tn_add1 tn_sub1 put_all' nums_len
theorem sub2 (a b:Cell):sub [a,b] 0 2=some [a,b]:=rfl
attribute [local go_sem] sub2
theorem s_IndexFunc {N p:Nat} {H:Heap} {b8 n c:Nat} {o:Bool} {ow:Int} {a:Option Ad} {l:List Snd} (hb:H[b8]?=some (.cells [.int .i64 ow] false none)) (hn:l.length=n) (hn2:n≤100000) (ht:Snds N p H a l) (hN:N≤H.length):
  WC F fX29 [.c (.sl a n c o),.c (.fn fX9 [] [(b8,0)])] H fun v H'=>((v=.c (.int .i64 (-1))∧noneP ow l)∨∃i:Nat,v=.c (.int .i64 (i:Nat))∧fstP ow l i)∧Xt H H':=by
 refine WC_start eX29 (by simp) ?_
 unfold cX29
 have hlt:=lt_of_get hb
 have fin0:=hd3 hn ht hb
 clear hn ht hb
 repeat (with_reducible first|(first|refine pI1 ?_|refine pS1 ?_);intros|refine pA1 ?_|refine pX1 ?_|refine pB1 ?_|exact True.intro)
 refine W_loop (fun m st=>∃ρ,∃i:Nat,∃Hk,st=⟨L 19 ρ,[],Hk⟩∧m=n-i∧i≤n∧ρ 0=.c (.sl a n c o)∧ρ 1=.c (.fn fX9 [] [(b8,0)])∧ρ 7=.c (.int .i64 (n:Nat))∧ρ 8=.c (.int .i64 (i:Nat))∧Xt H Hk∧∀j,j<i→0≤ow→(gs l j).node≠ow) n ⟨_,0,H,rfl,rfl,by omega,zf,zf,zf,zf,⟨Nat.le_refl _,fun _ _=>rfl⟩,fun j hj=>by omega⟩ ?_
 rintro m st ⟨ρ,i,Hk,rfl,rfl,hi,e0,e1,e7,e8,⟨lk,xk⟩,hall⟩
 unfold bX29_7
 have fin1:=hd2 hall xk
 have k8:Hk[b8]?=_:=(xk b8 (by omega)).trans (fin0 _ fun _ _ hb=>hb)
 clear hall xk
 by_cases hin:i<n
 ·obtain⟨lb,y,a',c',o',ea,hlb,-,hld,-⟩:=fin0 _ fun hn ht _=>send_at ht (i:=i) (by omega)
  rw[←fin1 _ fun _ xk=>xk lb (by omega)] at hld
  rw[ea] at e0
  have fea:=hd1 ea
  clear ea
  have hyes:0≤ow→(gs l i).node=ow→fstP ow l i:=fun h1 h2=>⟨by have:=fin0 _ fun hn _ _=>hn;omega,h1,h2,fun j hj=>fin1 _ fun hall _=>hall j hj h1⟩
  have hno:¬(0≤ow∧(gs l i).node=ow)→∀j,j<i+1→0≤ow→(gs l j).node≠ow:=fun h j hj h1 h2=>by
   by_cases e:j=i
   ·subst e;exact h ⟨h1,h2⟩
   ·exact fin1 _ fun hall _=>hall j (by omega) h1 h2
  generalize (gs l i).node=nd at *
  generalize (gs l i).bytes.length=bn at *
  have fin2:=hd2 hyes hno
  clear hyes hno
  have hp1:=s_pass1 (nd:=nd) (x:=.sl a' bn c' o') k8
  clear k8
  by_cases hq:0≤ow∧nd=ow
  ·rw[decide_eq_true hq] at hp1
   have fq:=hd1 hq
   clear hq
   repeat (with_reducible first|(first|refine pI1 ?_|refine pS1 ?_);intros|refine pA1 ?_|refine pX1 ?_|refine pB1 ?_|exact True.intro)
   refine outM_call hp1 ?_
   rintro _ H2 ⟨rfl,l2,x2⟩
   have fx:=hd1 x2
   clear x2 hp1
   repeat (with_reducible first|(first|refine pI1 ?_|refine pS1 ?_);intros|refine pA1 ?_|refine pX1 ?_|refine pB1 ?_|exact True.intro)
   exact⟨.inr ⟨i,rfl,fin2 _ fun hy _=>fq _ fun hq=>hy hq.1 hq.2⟩,by omega,fun b hb=>by rw[fx _ fun x2=>x2 b (by omega)];exact fin1 _ fun _ xk=>xk b hb⟩
  ·rw[decide_eq_false hq] at hp1
   have fq:=hd1 hq
   clear hq
   repeat (with_reducible first|(first|refine pI1 ?_|refine pS1 ?_);intros|refine pA1 ?_|refine pX1 ?_|refine pB1 ?_|exact True.intro)
   refine outM_call hp1 ?_
   rintro _ H2 ⟨rfl,l2,x2⟩
   have fx:=hd1 x2
   clear x2 hp1
   repeat (with_reducible first|(first|refine pI1 ?_|refine pS1 ?_);intros|refine pA1 ?_|refine pX1 ?_|refine pB1 ?_|exact True.intro)
   refine loopQ_n (n-(i+1)) (by omega) ⟨_,i+1,H2,rfl,rfl,by omega,?_,zf,zf,zf,⟨by omega,fun b hb=>by rw[fx _ fun x2=>x2 b (by omega)];exact fin1 _ fun _ xk=>xk b hb⟩,fin2 _ fun _ hn=>fq _ fun hq=>hn hq⟩
   rw[fea _ fun h=>h]
   exact zf
 ·obtain rfl:i=n:=by omega
  repeat (with_reducible first|(first|refine pI1 ?_|refine pS1 ?_);intros|refine pA1 ?_|refine pX1 ?_|refine pB1 ?_|exact True.intro)
  exact⟨.inl ⟨rfl,fun j hj=>fin1 _ fun hall _=>hall j (by have:=fin0 _ fun hn _ _=>hn;omega)⟩,by omega,fin1 _ fun _ xk=>xk⟩
end Go.Proofs.YtjcgdcadflplcaaDoor.AM.D21
namespace Go.Proofs.YtjcgdcadflplcaaDoor.AM.D21
open Go Go.Proofs.YtjcgdcadflplcaaDoor.AM Go.Proofs.YtjcgdcadflplcaaDoor.AM.C02 Go.Proofs.YtjcgdcadflplcaaDoor.AM.C07
set_option maxHeartbeats 2000000
set_option maxRecDepth 100000
attribute [local go_sem] tn_add1 tn_sub1 put_all' nums_len
def PassQ (N:Nat) (p:Nat) (a:Option Ad) (c:Nat) (o:Bool) (ws:List Int) (bl pa:Nat) (slot:Int) (l:List Snd) (v:V) (H':Heap):Prop:=
 (noneP (ownF ws slot) l∧v=.tup [.c (.sl none 0 0 false),.c (.bool false)]∧BusM H' p a c o ws ((bl+l.length) % 18446744073709551616) pa)∨
 (∃i a' c' o',fstP (ownF ws slot) l i∧v=.tup [.c (.sl a' (gs l i).bytes.length c' o'),.c (.bool true)]∧Sl H' 1 a' (gs l i).bytes.length (nats .u8 (gs l i).bytes)∧(∀b x,a'=some (b,x)→b<N∧b≠p)∧(∀x∈(gs l i).bytes,x<256)∧BusM H' p a c o ws ((bl+(l.length-1)) % 18446744073709551616) ((pa+1) % 18446744073709551616))
def But (p:Nat) (H H':Heap):Prop:=H.length≤H'.length∧∀b,b<H.length→b≠p→H'[b]?=H[b]?
theorem s_pass {N p:Nat} {H:Heap} {a a2:Option Ad} {c c2:Nat} {o o2:Bool} {ws:List Int} {bl pa:Nat} {slot:Int} {l:List Snd} {n:Nat} (hb:BusM H p a c o ws bl pa) (hw:ws.length≤100000) (hs:i64 slot) (ht:Snds N p H a2 l) (hn:l.length=n) (hn2:n≤100000) (hN:N≤H.length):
  WC F fX8 [.c (.ptr (some (p,0))),.c (.int .i64 slot),.c (.sl a2 n c2 o2)] H fun v H'=>PassQ N p a c o ws bl pa slot l v H'∧But p H H':=by
 refine WC_start eX8 (by simp) ?_
 unfold cX8
 have how:=s_owner hb hw hs
 have hpl:p<H.length:=lt_of_get hb.1
 have hal:∀b x,a=some (b,x)→b<H.length:=fun b x e=>hb.2.1.lt e
 have fin0:=hd3 hb ht hal
 obtain⟨ow,how2⟩:∃ow,ow=ownF ws slot:=⟨_,rfl⟩
 rw[←how2] at how
 unfold PassQ
 rw[←how2,hn]
 clear hb hw hs ht hal how2
 repeat (with_reducible first|(first|refine pI1 ?_|refine pS1 ?_);intros|refine pA1 ?_|refine pX1 ?_|refine pB1 ?_|exact True.intro)
 refine outM_call how ?_
 rintro _ H1 ⟨rfl,rfl⟩
 clear how
 repeat (with_reducible first|(first|refine pI1 ?_|refine pS1 ?_);intros|refine pA1 ?_|refine pX1 ?_|refine pB1 ?_|exact True.intro)
 rename_i b8 H0 p8 g0 x0 H2 l8 g8 x8
 have x8':∀b,b<H1.length→H2[b]?=H1[b]?:=fun b hb=>by rw[x8 b (by omega),x0 b (by omega)]
 clear x8 x0 g0
 have fx:=hd1 x8'
 clear x8'
 have hix:=s_IndexFunc (n:=n) (c:=c2) (o:=o2) g8 hn hn2 ((fin0 _ fun _ ht _=>ht).keep (H':=H2) fun b hb _=>fx _ fun x8=>x8 b (by omega)) (by omega)
 have fg:=hd1 g8
 clear g8
 repeat (with_reducible first|(first|refine pI1 ?_|refine pS1 ?_);intros|refine pA1 ?_|refine pX1 ?_|refine pB1 ?_|exact True.intro)
 refine outM_call hix ?_
 rintro _ H3 ⟨hv,l3,x3⟩
 clear hix
 have gp:H3[p]?=_:=((x3 p (by omega)).trans (fx _ fun x8=>x8 p (by omega))).trans (fin0 _ fun hb _ _=>hb.1)
 have hx3:∀b,b<H1.length→H3[b]?=H1[b]?:=fun b hb=>by rw[x3 b (by omega)];exact fx _ fun x8=>x8 b (by omega)
 have fx3:=hd1 hx3
 clear hx3 x3
 rcases hv with ⟨rfl,hno⟩|⟨i,rfl,hfst⟩
 ·have had:=s_Add (k:=n) gp (o:=1) rfl
  have fno:=hd1 hno
  clear gp hno
  repeat (with_reducible first|(first|refine pI1 ?_|refine pS1 ?_);intros|refine pA1 ?_|refine pX1 ?_|refine pB1 ?_|exact True.intro)
  refine outM_call had ?_
  rintro _ H4 ⟨h4,l4,x4⟩
  have f4:=hd2 h4 x4
  clear h4 x4 had
  repeat (with_reducible first|(first|refine pI1 ?_|refine pS1 ?_);intros|refine pA1 ?_|refine pX1 ?_|refine pB1 ?_|exact True.intro)
  refine⟨.inl ⟨fno _ fun h=>h,rfl,?_⟩,by omega,fun b hb hp=>by rw[f4 _ fun _ x4=>x4 b hp];exact fx3 _ fun x=>x b hb⟩
  refine⟨f4 _ fun h _=>h,?_,fin0 _ fun hb _ _=>hb.2.2⟩
  exact fin0 _ fun hb _ hal=>hb.2.1.keep fun b x e=>by rw[f4 _ fun _ x4=>x4 b (hb.2.2 _ _ e)];exact fx3 _ fun x'=>x' b (hal _ _ e)
 ·have hin:i<n:=by have:=hfst.1;omega
  obtain⟨m,rfl⟩:∃m,n=m+1:=⟨n-1,by omega⟩
  have had:=s_Add (k:=m) gp (o:=1) rfl
  have ff:=hd1 hfst
  clear gp hfst
  repeat (with_reducible first|(first|refine pI1 ?_|refine pS1 ?_);intros|refine pA1 ?_|refine pX1 ?_|refine pB1 ?_|exact True.intro)
  refine outM_call had ?_
  rintro _ H4 ⟨h4,l4,x4⟩
  have had2:=s_Add (k:=1) h4 (o:=2) rfl
  have f4:=hd1 x4
  clear h4 x4 had
  repeat (with_reducible first|(first|refine pI1 ?_|refine pS1 ?_);intros|refine pA1 ?_|refine pX1 ?_|refine pB1 ?_|exact True.intro)
  refine outM_call had2 ?_
  rintro _ H5 ⟨h5,l5,x5⟩
  have f5:=hd2 h5 x5
  clear h5 x5 had2
  have hx5:∀b,b<H1.length→b≠p→H5[b]?=H1[b]?:=fun b hb hp=>by rw[f5 _ fun _ x5=>x5 b hp,f4 _ fun x4=>x4 b hp];exact fx3 _ fun x=>x b hb
  have f6:=hd1 hx5
  clear hx5
  obtain⟨lb,y,a',c',o',rfl,hlb,hlp,hld,hsl,hab,-,hby⟩:=send_at (i:=i) ((fin0 _ fun _ ht _=>ht).keep (H':=H5) fun b hb hp=>f6 _ fun h=>h b (by omega) hp) (by omega)
  obtain⟨hd0,hd1⟩:=ldB_two hld
  have f7:=hd3 hsl hab hby
  clear hsl hab hby hld hd0
  repeat (with_reducible first|(first|refine pI1 ?_|refine pS1 ?_);intros|refine pA1 ?_|refine pX1 ?_|refine pB1 ?_|exact True.intro)
  refine⟨.inr ⟨i,a',c',o',ff _ fun h=>h,rfl,f7 _ fun h _ _=>h,fun b x e=>f7 _ fun _ h _=>⟨by have:=(h b x e).1;omega,(h b x e).2⟩,f7 _ fun _ _ h=>h,?_⟩,by omega,f6 _ fun h=>h⟩
  refine⟨f5 _ fun h _=>h,?_,fin0 _ fun hb _ _=>hb.2.2⟩
  exact fin0 _ fun hb _ hal=>hb.2.1.keep fun b x e=>f6 _ fun h=>h b (hal _ _ e) (hb.2.2 _ _ e)
theorem s_Blocked {H:Heap} {p:Nat} {a:Option Ad} {c:Nat} {o:Bool} {ws:List Int} {bl pa:Nat} (hb:BusM H p a c o ws bl pa):WC F fX4 [.c (.ptr (some (p,0)))] H fun v H'=>v=.c (.int .u64 (bl:Nat))∧H'=H:=by
 refine WC_start eX4 (by simp) ?_
 unfold cX4
 have h0:=s_Load hb.1 (o:=1) (n:=bl) rfl
 clear hb
 repeat (with_reducible first|(first|refine pI1 ?_|refine pS1 ?_);intros|refine pA1 ?_|refine pX1 ?_|refine pB1 ?_|exact True.intro)
 refine outM_call h0 ?_
 rintro _ H1 ⟨rfl,rfl⟩
 repeat (with_reducible first|(first|refine pI1 ?_|refine pS1 ?_);intros|refine pA1 ?_|refine pX1 ?_|refine pB1 ?_|exact True.intro)
 exact⟨rfl,rfl⟩
end Go.Proofs.YtjcgdcadflplcaaDoor.AM.D21
namespace Go.Proofs.YtjcgdcadflplcaaDoor.AM.D21
open Go Go.Proofs.YtjcgdcadflplcaaDoor.AM Go.Proofs.YtjcgdcadflplcaaDoor.AM.C02 Go.Proofs.YtjcgdcadflplcaaDoor.AM.C07
set_option maxHeartbeats 2000000
set_option maxRecDepth 100000
attribute [local go_sem] tn_add1 tn_sub1 put_all' nums_len
theorem outM_appN {H:Heap} {k:V→Heap→Prop} {b1:Nat} {b:Option Ad} {j c₂:Nat} {o₂:Bool} {ys:List Cell} (ha:H[b1]?=some (.cells [] false none)) (h2:Sl H 1 b j ys) (hm:j≤100000000)
  (hq:∀e c o g H',b1≤e→e<H'.length→j≤c→H'[e]?=some (.cells ys false g)→H.length≤H'.length→(∀c,c<H.length→H'[c]?=H[c]?)→k (.c (.sl (some (e,0)) j c o)) H'):
  outM F (appO 1 1 (.c (.sl (some (b1,0)) 0 0 false)) (.c (.sl b j c₂ o₂)) H) k ⟨⟩:=by
 have hl:=h2.len
 rw[Nat.mul_one] at hl
 by_cases h0:j=0
 ·subst h0
  obtain rfl:ys=[]:=List.length_eq_zero_iff.1 hl
  have e:appO 1 1 (.c (.sl (some (b1,0)) 0 0 false)) (.c (.sl b 0 c₂ o₂)) H=some (.v (.c (.sl (some (b1,0)) 0 0 false)),H):=by
   simp only[appO,aop]
   cases b with
   |none=>simp[appH]
   |some b=>
    have:=h2.rd b rfl
    simp only[this,Option.bind_some]
    simp[appH]
  rw[e]
  exact hq b1 0 false none H (Nat.le_refl _) (lt_of_get ha) (Nat.le_refl _) ha (Nat.le_refl _) fun _ _=>rfl
 ·refine outM_appC (Sl.blk ha rfl) h2 (by omega) (by unfold most;omega) ?_
  intro e H' p1 p2 p3
  rw[Nat.zero_add]
  rw[List.nil_append] at p2
  exact hq e _ _ _ H' (by have:=lt_of_get ha;omega) (by omega) (by omega) p2 (by omega) fun c hc=>p3 c (by omega)
theorem s_Carry1 {H:Heap} {b n c:Nat} {a:Option Ad} {o:Bool} {xs:List Cell} (hb:H[b]?=some (.cells [.sl a n c o] false none)) (hs:Sl H 1 a n xs) (hn:n≤100000):
  WC F fX6 [.c (.ptr (some (b,0)))] H fun v H'=>(∃e c' o' g,v=.c (.sl (some (e,0)) n c' o')∧H.length≤e∧e<H'.length∧n≤c'∧H'[e]?=some (.cells xs false g))∧Xt H H':=by
 refine WC_start eX6 (by simp) ?_
 unfold cX6
 have hlt:=lt_of_get hb
 repeat (with_reducible first|(first|refine pI1 ?_|refine pS1 ?_);intros|refine pA1 ?_|refine pX1 ?_|refine pB1 ?_|exact True.intro)
 rename_i b1 H1 p1 g1 x1
 have hb1:H1[b]?=_:=(x1 b (by omega)).trans hb
 have hs1:Sl H1 1 a n xs:=hs.to fun c hc=>x1 c (by omega)
 have hx1:∀b,b<H.length→H1[b]?=H[b]?:=fun b hb=>x1 b (by omega)
 have fx:=hd2 hs1 hx1
 clear hb hs hs1 x1 hx1
 repeat (with_reducible first|(first|refine pI1 ?_|refine pS1 ?_);intros|refine pA1 ?_|refine pX1 ?_|refine pB1 ?_|exact True.intro)
 refine outM_appN g1 (fx _ fun h _=>h) (by omega) ?_
 intro e c' o' g H2 p2 q2 k2 g2 l2 x2
 have fx2:=hd1 x2
 clear x2
 repeat (with_reducible first|(first|refine pI1 ?_|refine pS1 ?_);intros|refine pA1 ?_|refine pX1 ?_|refine pB1 ?_|exact True.intro)
 exact⟨⟨e,c',o',g,rfl,by omega,by omega,k2,g2⟩,by omega,fun b hb=>by rw[fx2 _ fun x2=>x2 b (by omega)];exact fx _ fun _ x=>x b hb⟩
end Go.Proofs.YtjcgdcadflplcaaDoor.AM.D21
namespace Go.Proofs.YtjcgdcadflplcaaDoor.AM.D21
open Go Go.Proofs.YtjcgdcadflplcaaDoor.AM Go.Proofs.YtjcgdcadflplcaaDoor.AM.C02 Go.Proofs.YtjcgdcadflplcaaDoor.AM.C07
set_option maxHeartbeats 2000000
set_option maxRecDepth 100000
attribute [local go_sem] tn_add1 tn_sub1 put_all' nums_len
theorem sub3k (a b c:Cell):sub [a,b,c] 0 3=some [a,b,c]:=rfl
attribute [local go_sem] sub3k
def Kp (ρ ρ':Nat→V):Prop:=ρ' 0=ρ 0∧ρ' 1=ρ 1∧ρ' 3=ρ 3∧ρ' 10=ρ 10∧ρ' 11=ρ 11∧ρ' 13=ρ 13∧ρ' 14=ρ 14∧ρ' 15=ρ 15∧ρ' 40=ρ 40∧ρ' 41=ρ 41
theorem carry_pick {ρ:Nat→V} {H:Heap} {N p b15 i n3 c3:Nat} {a a3:Option Ad} {c:Nat} {o o3:Bool} {ws:List Int} {bl pa:Nat} {slot:Int} {cps:List Cpy} (e0:ρ 0=.c (.ptr (some (p,0)))) (e1:ρ 1=.c (.int .i64 slot)) (e3:ρ 3=.c (.sl a3 n3 c3 o3)) (e14:ρ 14=.c (.int .i64 (i:Nat))) (e15:ρ 15=.c (.ptr (some (b15,0))))
  (g:H[b15]?=some (.cells cpy0.cells false none)) (hb:BusM H p a c o ws bl pa) (hw:ws.length≤100000) (hs:i64 slot) (hc:Tab 3 CpR N H a3 cps) (hn:cps.length=n3) (hn3:n3≤100000):
  W F none (.seq (.ops oX5_14) (.cond (.t 55) (.ops oX5_15) .skip)) ⟨L 84 ρ,[],H⟩ fun e s=>e=.normal∧∃ρ' H',s=⟨L 84 ρ',[],H'⟩∧Kp ρ ρ'∧H'[b15]?=some (.cells (cpF (ownF ws slot) cps i).cells false none)∧H'.length=H.length∧∀b,b≠b15→H'[b]?=H[b]?:=by
 have how:=s_owner hb hw hs
 have fin0:=hd2 hc hn
 obtain⟨ow,how2⟩:∃ow,ow=ownF ws slot:=⟨_,rfl⟩
 rw[←how2] at how ⊢
 clear how2 hc hn hb hw hs
 by_cases c1:i<n3
 ·by_cases c2:(i:Int)=ow
  ·have e:cpF ow cps i=cpy0:=by unfold cpF;rw[if_neg fun h=>h.2 c2]
   rw[e]
   have fg:=hd1 g
   subst c2
   clear g
   repeat (with_reducible first|(first|refine pI1 ?_|refine pS1 ?_);intros|refine pA1 ?_|refine pX1 ?_|refine pB1 ?_|exact True.intro)
   refine outM_call how ?_
   rintro _ H1 ⟨rfl,rfl⟩
   clear how
   repeat (with_reducible first|(first|refine pI1 ?_|refine pS1 ?_);intros|refine pA1 ?_|refine pX1 ?_|refine pB1 ?_|exact True.intro)
   exact⟨rfl,_,_,rfl,⟨zf,zf,zf,zf,zf,zf,zf,zf,zf,zf⟩,fg _ fun g=>g,rfl,fun _ _=>rfl⟩
  ·have e:cpF ow cps i=gc cps i:=by unfold cpF;rw[if_pos ⟨by rw[fin0 _ fun _ h=>h];exact c1,c2⟩]
   rw[e]
   obtain⟨lb,y,ea,-,hld,-⟩:=fin0 _ fun hc hn=>copy_at hc (i:=i) (by omega)
   generalize gc cps i=q at *
   obtain⟨k,az,mk⟩:=q
   dsimp only [Cpy.cells,cpy0] at hld g ⊢
   rw[ea] at e3
   clear ea e
   repeat (with_reducible first|(first|refine pI1 ?_|refine pS1 ?_);intros|refine pA1 ?_|refine pX1 ?_|refine pB1 ?_|exact True.intro)
   refine outM_call how ?_
   rintro _ H1 ⟨rfl,rfl⟩
   clear how
   repeat (with_reducible first|(first|refine pI1 ?_|refine pS1 ?_);intros|refine pA1 ?_|refine pX1 ?_|refine pB1 ?_|exact True.intro)
   have lg:=lt_of_get g
   exact⟨rfl,_,_,rfl,⟨zf,zf,zf,zf,zf,zf,zf,zf,zf,zf⟩,get_set_same _ lg,by rw[List.length_set],fun b hb=>List.getElem?_set_ne (Ne.symm hb)⟩
 ·have e:cpF ow cps i=cpy0:=by unfold cpF;rw[if_neg fun h=>c1 (by rw[←fin0 _ fun _ h=>h];exact h.1)]
  rw[e]
  have fg:=hd1 g
  clear g how
  repeat (with_reducible first|(first|refine pI1 ?_|refine pS1 ?_);intros|refine pA1 ?_|refine pX1 ?_|refine pB1 ?_|exact True.intro)
  exact⟨rfl,_,_,rfl,⟨zf,zf,zf,zf,zf,zf,zf,zf,zf,zf⟩,fg _ fun g=>g,rfl,fun _ _=>rfl⟩
end Go.Proofs.YtjcgdcadflplcaaDoor.AM.D21
namespace Go.Proofs.YtjcgdcadflplcaaDoor.AM.D21
open Go Go.Proofs.YtjcgdcadflplcaaDoor.AM Go.Proofs.YtjcgdcadflplcaaDoor.AM.C02 Go.Proofs.YtjcgdcadflplcaaDoor.AM.C07
set_option maxHeartbeats 2000000
set_option maxRecDepth 100000
attribute [local go_sem] tn_add1 tn_sub1 put_all' nums_len
theorem carry_put {ρ:Nat→V} {H:Heap} {b15 b11 bo lo m i n c':Nat} {a':Option Ad} {o':Bool} {l:List Nat} {cp:Cpy} {f:Nat→Option (List Nat)} (e10:ρ 10=.c (.sl (some (bo,0)) m m false)) (e11:ρ 11=.c (.ptr (some (b11,0)))) (e13:ρ 13=.c (.fn fX6 [] [(b11,0)])) (e14:ρ 14=.c (.int .i64 (i:Nat))) (e15:ρ 15=.c (.ptr (some (b15,0))))
  (g15:H[b15]?=some (.cells cp.cells false none)) (g11:H[b11]?=some (.cells [.sl a' n c' o'] false none)) (hs:Sl H 1 a' n (nats .u8 l)) (hln:l.length=n) (hn:n≤100000) (hby:∀x∈l,x<256) (ho:Outs H lo bo m f) (hi:i<m) (hlo:lo≤bo) (h0:f i=none) (hcp:i64 cp.at_∧cp.mask<4294967296):
  W F none (.seq (.ops oX5_16) (.block 3 (.seq (.ops oX5_17) (.cond (.t 67) .skip (.seq (.ops oX5_18) (.cond (.t 69) (.ops oX5_19) (.ops oX5_20))))))) ⟨L 84 ρ,[],H⟩ fun e s=>e=.normal∧∃ρ' H',s=⟨L 84 ρ',[],H'⟩∧Kp ρ ρ'∧H.length≤H'.length∧(∀b,b<H.length→b≠bo→H'[b]?=H[b]?)∧Outs H' lo bo m (fun j=>if j=i then becomes cp l else f j):=by
 have hbo:bo<H.length:=by obtain⟨_,h,_⟩:=ho;exact lt_of_get h
 have l11:=lt_of_get g11
 have hme:∃k1 k2 k3,cp=⟨k1,k2,k3⟩:=⟨_,_,_,rfl⟩
 obtain⟨kd,az,mk,rfl⟩:=hme
 obtain⟨⟨ha1,ha2⟩,hmk⟩:=hcp
 dsimp only at ha1 ha2 hmk
 dsimp only [Cpy.cells] at g15
 have fin0:=hd4 hs hln hby ho
 clear hs hln hby ho
 by_cases k1:kd=1
 ·have e:∀f',f'=becomes ⟨kd,az,mk⟩ l→f'=f i:=fun f' h=>by rw[h,h0];unfold becomes;rw[if_pos k1]
  subst k1
  have hfe:=hd1 e
  clear e h0
  repeat (with_reducible first|(first|refine pI1 ?_|refine pS1 ?_);intros|refine pA1 ?_|refine pX1 ?_|refine pB1 ?_|exact True.intro)
  refine⟨rfl,_,_,rfl,⟨zf,zf,zf,zf,zf,zf,zf,zf,zf,zf⟩,Nat.le_refl _,fun _ _ _=>rfl,?_⟩
  refine(fin0 _ fun _ _ _ ho=>ho).same fun j _=>?_
  by_cases hji:j=i
  ·rw[if_pos hji,hji];exact(hfe _ fun h=>(h _ rfl)).symm
  ·rw[if_neg hji]
 by_cases k2:kd=2
 ·have e:becomes ⟨kd,az,mk⟩ l=some (P3.corr l az mk):=by unfold becomes;rw[if_neg k1,if_pos k2]
  rw[e]
  subst k2
  clear e h0 k1
  have hco:=fun(Hx:Heap) (hx:Xt H Hx)=>s_Corrupt (c:=c') (o:=o') (at_:=az) (mask:=mk) ((fin0 _ fun hs _ _ _=>hs).to fun b hb=>hx.2 b hb) hn ha1 ha2 hmk (fin0 _ fun _ _ hby _=>hby)
  have fco:=hd1 hco
  clear hco
  repeat (with_reducible first|(first|refine pI1 ?_|refine pS1 ?_);intros|refine pA1 ?_|refine pX1 ?_|refine pB1 ?_|exact True.intro)
  rename_i b1 H1 p1 g1 x1
  have fx:=hd1 x1
  have g111:H1[b11]?=_:=(x1 b11 (by omega)).trans g11
  have g151:H1[b15]?=_:=(x1 b15 (by have:=lt_of_get g15;omega)).trans g15
  clear x1
  repeat (with_reducible first|(first|refine pI1 ?_|refine pS1 ?_);intros|refine pA1 ?_|refine pX1 ?_|refine pB1 ?_|exact True.intro)
  refine outM_call (fco _ fun h=>h H1 ⟨by omega,fun b hb=>fx _ fun x1=>x1 b (by omega)⟩) ?_
  rintro v H2 ⟨⟨a2,c2,o2,rfl,own,hlo2⟩,l2,x2⟩
  have hcl:(nats .u8 (P3.corr l az mk)).length=n:=by rw[nats_len,P3.corr_len];exact fin0 _ fun _ h _ _=>h
  rw[hcl] at own ⊢
  have g12:H2[b1]?=_:=(x2 b1 (by omega)).trans g1
  have hx2:∀b,b<H.length→H2[b]?=H[b]?:=fun b hb=>by rw[x2 b (by omega)];exact fx _ fun x1=>x1 b (by omega)
  have fx2:=hd2 hx2 own.sl
  clear hx2 x2 own hcl g111 g151 g1
  repeat (with_reducible first|(first|refine pI1 ?_|refine pS1 ?_);intros|refine pA1 ?_|refine pX1 ?_|refine pB1 ?_|exact True.intro)
  refine outM_appN g12 (fx2 _ fun _ h=>h) (by omega) ?_
  intro e c3 o3 g H3 p3 q3 k3 g3 l3 x3
  have hx3:∀b,b<H.length→H3[b]?=H[b]?:=fun b hb=>by rw[x3 b (by omega)];exact fx2 _ fun x2 _=>x2 b hb
  obtain⟨cells,q1,q2,q3'⟩:=(fin0 _ fun _ _ _ ho=>ho).keep (H':=H3) hlo fun b _ hb=>hx3 b hb
  have fx3:=hd3 hx3 q3' g3
  clear hx3 x3 q3' g3 g12
  repeat (with_reducible first|(first|refine pI1 ?_|refine pS1 ?_);intros|refine pA1 ?_|refine pX1 ?_|refine pB1 ?_|exact True.intro)
  rename_i H4 l4 g4 x4
  refine⟨rfl,_,_,rfl,⟨zf,zf,zf,zf,zf,zf,zf,zf,zf,zf⟩,by omega,fun b hb hb2=>?_,?_⟩
  ·rw[x4 b hb2];exact fx3 _ fun x _ _=>x b hb
  ·exact Outs.put q2 (fx3 _ fun _ h _=>h) hi (by omega) (by omega) (fx3 _ fun _ _ h=>h) (by rw[P3.corr_len];exact fin0 _ fun _ h _ _=>h) (P3.corr_by (fin0 _ fun _ _ h _=>h) _ _) k3 g4 x4
 ·have e:becomes ⟨kd,az,mk⟩ l=some l:=by unfold becomes;rw[if_neg k1,if_neg k2]
  rw[e]
  clear e h0
  have hca:=s_Carry1 g11 (fin0 _ fun hs _ _ _=>hs) hn
  clear g11
  repeat (with_reducible first|(first|refine pI1 ?_|refine pS1 ?_);intros|refine pA1 ?_|refine pX1 ?_|refine pB1 ?_|exact True.intro)
  refine outM_call hca ?_
  rintro v H3 ⟨⟨e,c3,o3,g,rfl,p3,q3,k3,g3⟩,l3,x3⟩
  obtain⟨cells,q1,q2,q3'⟩:=(fin0 _ fun _ _ _ ho=>ho).keep (H':=H3) hlo fun b _ hb=>x3 b hb
  have fx3:=hd3 x3 q3' g3
  clear x3 q3' g3 hca g15
  repeat (with_reducible first|(first|refine pI1 ?_|refine pS1 ?_);intros|refine pA1 ?_|refine pX1 ?_|refine pB1 ?_|exact True.intro)
  rename_i H4 l4 g4 x4
  refine⟨rfl,_,_,rfl,⟨zf,zf,zf,zf,zf,zf,zf,zf,zf,zf⟩,by omega,fun b hb hb2=>?_,?_⟩
  ·rw[x4 b hb2];exact fx3 _ fun x _ _=>x b hb
  ·exact Outs.put q2 (fx3 _ fun _ h _=>h) hi (by omega) (by omega) (fx3 _ fun _ _ h=>h) (fin0 _ fun _ h _ _=>h) (fin0 _ fun _ _ h _=>h) k3 g4 x4
end Go.Proofs.YtjcgdcadflplcaaDoor.AM.D21
namespace Go.Proofs.YtjcgdcadflplcaaDoor.AM.D21
open Go Go.Proofs.YtjcgdcadflplcaaDoor.AM Go.Proofs.YtjcgdcadflplcaaDoor.AM.C02 Go.Proofs.YtjcgdcadflplcaaDoor.AM.C07
set_option maxHeartbeats 2000000
set_option maxRecDepth 100000
attribute [local go_sem] tn_add1 tn_sub1 put_all' nums_len
def CarQ (H:Heap) (p:Nat) (a:Option Ad) (c:Nat) (o:Bool) (ws:List Int) (bl pa:Nat) (slot:Int) (l:List Snd) (cps:List Cpy) (v:V) (H':Heap):Prop:=
 ∃bo f,v=.tup [.c (.sl (some (bo,0)) ws.length ws.length false),.c (.int .i64 0)]∧H.length≤bo∧bo<H'.length∧Outs H' H.length bo ws.length f∧
  ((noneP (ownF ws slot) l∧(∀j,f j=none)∧BusM H' p a c o ws ((bl+l.length) % 18446744073709551616) pa)∨
   ∃i,fstP (ownF ws slot) l i∧(∀j,j<ws.length→f j=becomes (cpF (ownF ws slot) cps j) (gs l i).bytes)∧BusM H' p a c o ws ((bl+(l.length-1)) % 18446744073709551616) ((pa+1) % 18446744073709551616))
theorem tabC_keep {N:Nat} {H H':Heap} {a:Option Ad} {l:List Cpy} (h:Tab 3 CpR N H a l) (hx:∀b x,a=some (b,x)→b<N→H'[b]?=H[b]?):Tab 3 CpR N H' a l:=fun i e he=>by
 obtain⟨⟨b,y⟩,cs,rfl,h1,h2,h3⟩:=h i e he
 exact⟨(b,y),cs,rfl,h1,by rw[hx b y rfl h1];exact h2,h3⟩
theorem _root_.Go.Proofs.YtjcgdcadflplcaaDoor.AM.C07.BusM.keep {H H':Heap} {p:Nat} {a:Option Ad} {c:Nat} {o:Bool} {ws:List Int} {bl pa:Nat} (h:BusM H p a c o ws bl pa) (hx:∀b,b=p∨(∃x,a=some (b,x))→H'[b]?=H[b]?):BusM H' p a c o ws bl pa:=
 ⟨(hx p (.inl rfl)).trans h.1,h.2.1.keep fun b x e=>hx b (.inr ⟨x,e⟩),h.2.2⟩
theorem mkslO_nil {H:Heap} {m:Nat} (h:m≤100000):mkslO 1 24 [Cell.sl none 0 0 false] (.c (.int .i64 (m:Nat))) (.c (.int .i64 (m:Nat))) H=some (.v (.c (.sl (some (H.length,0)) m m false)),H++[.cells (List.replicate m nilC) false none]):=by
 have hgr:∀m,grows [nilC] m=List.replicate m nilC:=fun m=>by
  unfold grows
  induction m with
  |zero=>rfl
  |succ m ih=>rw[List.replicate_succ,List.flatten_cons,ih,List.replicate_succ];rfl
 have e:=mkslO_int (H:=H) (sz:=1) (by_:=24) (z:=[nilC]) (i:=.i64) (i':=.i64) (l:=(m:Nat)) (c:=(m:Nat)) ⟨by omega,by omega,by omega⟩ rfl
 rw[Int.toNat_natCast,hgr] at e
 exact e
theorem s_Carry {N p:Nat} {H:Heap} {a a2 a3:Option Ad} {c c2 c3:Nat} {o o2 o3:Bool} {ws:List Int} {bl pa:Nat} {slot:Int} {l:List Snd} {cps:List Cpy} {n k:Nat}
  (hb:BusM H p a c o ws bl pa) (hw:ws.length≤100000) (hs:i64 slot) (h0:0≤slot) (ht:Snds N p H a2 l) (hn:l.length=n) (hn2:n≤100000) (hbytes:∀i,i<n→(gs l i).bytes.length≤100000) (hc:Tab 3 CpR N H a3 cps) (h3:∀b x,a3=some (b,x)→b≠p) (hk:cps.length=k) (hk2:k≤100000) (hN:N≤H.length):
  WC F fX5 [.c (.ptr (some (p,0))),.c (.int .i64 slot),.c (.sl a2 n c2 o2),.c (.sl a3 k c3 o3)] H fun v H'=>CarQ H p a c o ws bl pa slot l cps v H'∧But p H H':=by
 refine WC_start eX5 (by simp) ?_
 unfold cX5
 have hpl:p<H.length:=lt_of_get hb.1
 have hal:∀b x,a=some (b,x)→b<H.length:=fun b x e=>hb.2.1.lt e
 have hb1:=hb.1
 have fin0:=hd8 hb ht hal hbytes hc h3 hk hs
 unfold CarQ
 obtain⟨ow,how⟩:∃ow,ow=ownF ws slot:=⟨_,rfl⟩
 have fow:=hd1 how
 rw[←how]
 obtain⟨m,hm⟩:∃m,ws.length=m:=⟨_,rfl⟩
 have fm:=hd2 hm hn
 rw[hm] at hb1 hw ⊢
 clear hb hs ht hal hbytes hc h3 hk how hm
 have hs0:¬slot<0:=by omega
 repeat (with_reducible first|(first|refine pI1 ?_|refine pS1 ?_);intros|refine pA1 ?_|refine pX1 ?_|refine pB1 ?_|exact True.intro)
 rw[mkslO_nil hw]
 repeat (with_reducible first|(first|refine pI1 ?_|refine pS1 ?_);intros|refine pA1 ?_|refine pX1 ?_|refine pB1 ?_|exact True.intro)
 rename_i bo H1 p1 g1 x1
 have fx:=hd2 x1 g1
 have hx1:∀b,b<H.length→H1[b]?=H[b]?:=fun b hb=>x1 b (by omega)
 have hpa:=s_pass (c2:=c2) (o2:=o2) (slot:=slot) ((fin0 _ fun hb _ _ _ _ _ _ _=>hb).keep (H':=H1) fun b hb=>hx1 b (by rcases hb with rfl|⟨x,e⟩;exact hpl;exact fin0 _ fun _ _ hal _ _ _ _ _=>hal _ _ e)) (by rw[fm _ fun h _=>h];exact hw) (fin0 _ fun _ _ _ _ _ _ _ h=>h)
  ((fin0 _ fun _ ht _ _ _ _ _ _=>ht).keep fun b hb _=>hx1 b (by omega)) hn hn2 (by omega)
 clear x1 g1 hx1 hn
 repeat (with_reducible first|(first|refine pI1 ?_|refine pS1 ?_);intros|refine pA1 ?_|refine pX1 ?_|refine pB1 ?_|exact True.intro)
 refine outM_call hpa ?_
 rintro v H2 ⟨hq,l2,x2⟩
 clear hpa hb1
 have hx2:∀b,b<H.length→b≠p→H2[b]?=H[b]?:=fun b hb hp=>by rw[x2 b (by omega) hp];exact fx _ fun x1 _=>x1 b (by omega)
 have ho2:Outs H2 H.length bo m fun _=>none:=by
  refine⟨List.replicate m nilC,?_,List.length_replicate,fun j hj=>?_⟩
  ·rw[x2 bo (by omega) (by omega)]
   exact fx _ fun _ g1=>g1
  ·show _=_
   rw[List.getElem?_replicate,if_pos hj]
 have f2:=hd2 hx2 ho2
 clear x2 hx2 ho2
 unfold PassQ at hq
 rw[←fow _ fun h=>h] at hq
 have hn:=fm _ fun _ h=>h
 rcases hq with ⟨hno,rfl,hbm⟩|⟨i,a',c',o',hfst,rfl,hsl,hab,hby,hbm⟩
 ·have f3:=hd3 hno hbm hn
  clear hno hbm hn
  repeat (with_reducible first|(first|refine pI1 ?_|refine pS1 ?_);intros|refine pA1 ?_|refine pX1 ?_|refine pB1 ?_|exact True.intro)
  rename_i b11 H3 p3 g3 x3 H4 l4 g4 x4
  have hx4:∀b,b<H2.length→H4[b]?=H2[b]?:=fun b hb=>by rw[x4 b (by omega),x3 b (by omega)]
  have f4:=hd1 hx4
  clear x3 x4 g3 g4 hx4
  repeat (with_reducible first|(first|refine pI1 ?_|refine pS1 ?_);intros|refine pA1 ?_|refine pX1 ?_|refine pB1 ?_|exact True.intro)
  refine⟨⟨bo,_,rfl,by omega,by omega,(f2 _ fun _ ho=>ho).keep (by omega) fun b _ hb=>f4 _ fun h=>h b hb,.inl ⟨f3 _ fun h _ _=>h,fun _=>rfl,?_⟩⟩,by omega,fun b hb hp=>by rw[f4 _ fun h=>h b (by omega)];exact f2 _ fun h _=>h b hb hp⟩
  exact(f3 _ fun _ h _=>h).keep fun b hb=>f4 _ fun h=>h b (by rcases hb with rfl|⟨x,e⟩;omega;exact Nat.lt_of_lt_of_le (fin0 _ fun _ _ hal _ _ _ _ _=>hal _ _ e) (by omega))
 ·have hlen:(gs l i).bytes.length≤100000:=fin0 _ fun _ _ _ h _ _ _ _=>h i (by have:=hfst.1;omega)
  generalize hbs:(gs l i).bytes=bs at *
  obtain⟨nb,hnb⟩:∃nb,bs.length=nb:=⟨_,rfl⟩
  rw[hnb] at hlen hsl ⊢
  have f3:=hd8 hfst hsl hab hby hbm hnb hbs hn
  clear hfst hsl hab hby hbm hnb hbs hn
  repeat (with_reducible first|(first|refine pI1 ?_|refine pS1 ?_);intros|refine pA1 ?_|refine pX1 ?_|refine pB1 ?_|exact True.intro)
  rename_i b11 H3 p3 g3 x3 H4 l4 g4 x4
  have hx4:∀b,b<H2.length→H4[b]?=H2[b]?:=fun b hb=>by rw[x4 b (by omega),x3 b (by omega)]
  have f4:=hd2 hx4 g4
  have l11:b11<H4.length:=lt_of_get g4
  clear x3 x4 g3 g4 hx4
  -- what stands when the loop begins
  have k1:BusM H4 p a c o ws ((bl+(l.length-1)) % 18446744073709551616) ((pa+1) % 18446744073709551616):=(f3 _ fun _ _ _ _ h _ _ _=>h).keep fun b hb=>f4 _ fun h _=>h b (by rcases hb with rfl|⟨x,e⟩;omega;exact Nat.lt_of_lt_of_le (fin0 _ fun _ _ hal _ _ _ _ _=>hal _ _ e) (by omega))
  have k2:Sl H4 1 a' nb (nats .u8 bs):=(f3 _ fun _ h _ _ _ _ _ _=>h).to fun b hb=>f4 _ fun h _=>h b hb
  have k3:Tab 3 CpR N H4 a3 cps:=tabC_keep (fin0 _ fun _ _ _ _ h _ _ _=>h) fun b x e hb=>by
   rw[f4 _ fun h _=>h b (by omega)];exact f2 _ fun h _=>h b (by omega) (fin0 _ fun _ _ _ _ _ h _ _=>h b x e)
  have k4:Outs H4 H.length bo m fun _=>none:=(f2 _ fun _ ho=>ho).keep (by omega) fun b _ hb=>f4 _ fun h _=>h b hb
  have k5:But p H H4:=⟨by omega,fun b hb hp=>by rw[f4 _ fun h _=>h b (by omega)];exact f2 _ fun h _=>h b hb hp⟩
  have k6:∀b x,a=some (b,x)→b<H.length:=fin0 _ fun _ _ hal _ _ _ _ _=>hal
  have k7:∀b x,a'=some (b,x)→b<H.length:=f3 _ fun _ _ h _ _ _ _ _=>fun b x e=>Nat.lt_of_lt_of_le (h b x e).1 hN
  have fk:=hd6 k1 k2 k3 k5 k6 k7
  clear k1 k2 k3 k5 k6 k7
  repeat (with_reducible first|(first|refine pI1 ?_|refine pS1 ?_);intros|refine pA1 ?_|refine pX1 ?_|refine pB1 ?_|exact True.intro)
  refine W_loop (fun mm st=>∃ρ,∃j:Nat,∃Hk,st=⟨L 84 ρ,[],Hk⟩∧mm=m-j∧j≤m∧ρ 0=.c (.ptr (some (p,0)))∧ρ 1=.c (.int .i64 slot)∧ρ 3=.c (.sl a3 k c3 o3)∧ρ 10=.c (.sl (some (bo,0)) m m false)∧ρ 11=.c (.ptr (some (b11,0)))∧ρ 13=.c (.fn fX6 [] [(b11,0)])∧ρ 40=.c (.int .i64 (m:Nat))∧ρ 41=.c (.int .i64 (j:Nat))∧H4.length≤Hk.length∧(∀b,b<H4.length→b≠bo→Hk[b]?=H4[b]?)∧Outs Hk H.length bo m fun j'=>if j'<j then becomes (cpF ow cps j') bs else none) m ⟨_,0,H4,rfl,rfl,by omega,zf,zf,zf,zf,zf,zf,zf,zf,Nat.le_refl _,fun _ _ _=>rfl,k4.same fun j hj=>by rw[if_neg (by omega)]⟩ ?_
  clear k4
  rintro mm st ⟨ρ,j,Hk,rfl,rfl,hj,e0,e1,e3,e10,e11,e13,e40,e41,lk,xk,ok⟩
  unfold bX5_22
  obtain⟨Y,hY⟩:∃Y,Y=IC.seq (.seq (.ops oX5_14) (.cond (.t 55) (.ops oX5_15) .skip)) (.seq (.ops oX5_16) (.block 3 (.seq (.ops oX5_17) (.cond (.t 67) .skip (.seq (.ops oX5_18) (.cond (.t 69) (.ops oX5_19) (.ops oX5_20))))))):=⟨_,rfl⟩
  rw[←hY]
  have fY:=hd1 hY
  have fz:=hd2 xk ok
  clear hY xk ok
  by_cases hjm:j<m
  ·repeat (with_reducible first|(first|refine pI1 ?_|refine pS1 ?_);intros|refine pA1 ?_|refine pX1 ?_|refine pB1 ?_|exact True.intro)
   rename_i b15 H5 p5 g5 x5 H6 l6 g6 x6
   have hx6:∀b,b<Hk.length→H6[b]?=Hk[b]?:=fun b hb=>by rw[x6 b (by omega),x5 b (by omega)]
   have z6:∀b,b<H4.length→b≠bo→H6[b]?=H4[b]?:=fun b hb h=>by rw[hx6 b (by omega)];exact fz _ fun xk _=>xk b hb h
   have o6:=(fz _ fun _ ok=>ok).keep (H':=H6) (by omega) fun b _ hb=>hx6 b hb
   have l15:b15<H6.length:=lt_of_get g6
   rw[fY _ fun h=>h]
   refine W_cut _ (carry_pick zf zf zf zf zf g6 ((fk _ fun h _ _ _ _ _=>h).keep fun b hb=>z6 b (by rcases hb with rfl|⟨x,e⟩;omega;have:=fk _ fun _ _ _ _ h _=>h b x e;omega) (by rcases hb with rfl|⟨x,e⟩;omega;have:=fk _ fun _ _ _ _ h _=>h b x e;omega)) (by rw[fm _ fun h _=>h];exact hw) (fin0 _ fun _ _ _ _ _ _ _ h=>h) (tabC_keep (fk _ fun _ _ h _ _ _=>h) fun b x e hb=>z6 b (by omega) (by omega)) (fin0 _ fun _ _ _ _ _ _ h _=>h) hk2) ?_
   rintro _ ⟨ρ7,H7,rfl,⟨r0,r1,r3,r10,r11,r13,r14,r15,r40,r41⟩,g7,l7,x7⟩
   rw[←fow _ fun h=>h] at g7
   have hx7:∀b,b<Hk.length→H7[b]?=Hk[b]?:=fun b hb=>by rw[x7 b (by omega)];exact hx6 b hb
   have o7:=(fz _ fun _ ok=>ok).keep (H':=H7) (by omega) fun b _ hb=>hx7 b hb
   have z7:∀b,b<H4.length→b≠bo→H7[b]?=H4[b]?:=fun b hb h=>by rw[hx7 b (by omega)];exact fz _ fun xk _=>xk b hb h
   have g11:H7[b11]?=some (.cells [.sl a' nb c' o'] false none):=(z7 b11 l11 (by omega)).trans (f4 _ fun _ g=>g)
   have hs7:Sl H7 1 a' nb (nats .u8 bs):=(fk _ fun _ h _ _ _ _=>h).keep fun b x e=>by
    have:=fk _ fun _ _ _ _ _ h=>h b x e
    exact z7 b (by omega) (by omega)
   refine W.mono (carry_put (r10.trans zf) (r11.trans zf) (r13.trans zf) (r14.trans zf) (r15.trans zf) g7 g11 hs7 (f3 _ fun _ _ _ _ _ h _ _=>h) hlen (f3 _ fun _ _ _ h _ _ _ _=>h) o7 hjm (by omega) (if_neg (by omega)) (cpF_ok (fk _ fun _ _ h _ _ _=>h) ow j)) ?_
   rintro _ _ ⟨rfl,ρ8,H8,rfl,⟨s0,s1,s3,s10,s11,s13,s14,s15,s40,s41⟩,l8,x8,o8⟩
   have y0:ρ8 0=.c (.ptr (some (p,0))):=s0.trans (r0.trans zf)
   have y1:ρ8 1=.c (.int .i64 slot):=s1.trans (r1.trans zf)
   have y3:ρ8 3=.c (.sl a3 k c3 o3):=s3.trans (r3.trans zf)
   have y10:ρ8 10=.c (.sl (some (bo,0)) m m false):=s10.trans (r10.trans zf)
   have y11:ρ8 11=.c (.ptr (some (b11,0))):=s11.trans (r11.trans zf)
   have y13:ρ8 13=.c (.fn fX6 [] [(b11,0)]):=s13.trans (r13.trans zf)
   have y40:ρ8 40=.c (.int .i64 (m:Nat)):=s40.trans (r40.trans zf)
   have y41:ρ8 41=.c (.int .i64 (j:Nat)):=s41.trans (r41.trans zf)
   have z8:∀b,b<H4.length→b≠bo→H8[b]?=H4[b]?:=fun b hb h=>by rw[x8 b (by omega) h];exact z7 b hb h
   have f8:=hd2 z8 o8
   clear s0 s1 s3 s10 s11 s13 s14 s15 s40 s41 r0 r1 r3 r10 r11 r13 r14 r15 r40 r41 z8 o8 x8 z7 hs7 g11 o7 hx7 o6 z6 hx6 x7 g7 x6 g6 x5 g5 e0 e1 e3 e10 e11 e13 e40 e41
   repeat (with_reducible first|(first|refine pI1 ?_|refine pS1 ?_);intros|refine pA1 ?_|refine pX1 ?_|refine pB1 ?_|exact True.intro)
   refine loopQ_n (m-(j+1)) (by omega) ⟨_,j+1,H8,rfl,rfl,by omega,zf,zf,zf,zf,zf,zf,zf,zf,by omega,f8 _ fun z _=>z,(f8 _ fun _ o=>o).same fun j' hj'=>?_⟩
   by_cases hjj:j'=j
   ·rw[if_pos hjj,if_pos (by omega),hjj]
   ·by_cases hlt:j'<j
    ·rw[if_neg hjj,if_pos hlt,if_pos (by omega)]
    ·rw[if_neg hjj,if_neg hlt,if_neg (by omega)]
  ·obtain rfl:j=m:=by omega
   repeat (with_reducible first|(first|refine pI1 ?_|refine pS1 ?_);intros|refine pA1 ?_|refine pX1 ?_|refine pB1 ?_|exact True.intro)
   have hbs:=f3 _ fun _ _ _ _ _ _ h _=>h
   refine⟨⟨bo,_,rfl,by omega,by omega,fz _ fun _ ok=>ok,.inr ⟨i,f3 _ fun h _ _ _ _ _ _ _=>h,fun j' hj'=>by rw[if_pos hj',hbs],?_⟩⟩,by omega,fun b hb hp=>?_⟩
   ·exact(fk _ fun h _ _ _ _ _=>h).keep fun b hb=>by
     have:b<H.length:=by
      rcases hb with rfl|⟨x,e⟩
      ·exact hpl
      ·exact fk _ fun _ _ _ _ h _=>h b x e
     exact fz _ fun xk _=>xk b (by omega) (by omega)
   ·rw[fz _ fun xk _=>xk b (by omega) (by omega)]
    exact fk _ fun _ _ _ h _ _=>h.2 b hb hp
end Go.Proofs.YtjcgdcadflplcaaDoor.AM.D21
namespace Go.Proofs.YtjcgdcadflplcaaDoor.AM.D21
open Go Go.Proofs.YtjcgdcadflplcaaDoor.AM Go.Proofs.YtjcgdcadflplcaaDoor.AM.C02 Go.Proofs.YtjcgdcadflplcaaDoor.AM.C07
set_option maxHeartbeats 2000000
set_option maxRecDepth 100000
attribute [local go_sem] tn_add1 tn_sub1 put_all' nums_len
theorem slgx {H:Heap} {a:Ad} {n:Nat} {l:List Nat} (hs:Sl H 1 (some a) n (nats .u8 l)) (hl:l.length=n) {i:Nat} (h:i<n):ldB H[a.1]? (a.2+i)=some (.int .u8 (gx l i:Nat)):=by
 rw[hs.ld1 (o:=i) (by omega)];exact nats_get _ (by omega)
end Go.Proofs.YtjcgdcadflplcaaDoor.AM.D21
namespace Go.Proofs.YtjcgdcadflplcaaDoor.AM.D21
open Go Go.Proofs.YtjcgdcadflplcaaDoor.AM Go.Proofs.YtjcgdcadflplcaaDoor.AM.C02 Go.Proofs.YtjcgdcadflplcaaDoor.AM.C07
set_option maxHeartbeats 2000000
set_option maxRecDepth 100000
attribute [local go_sem] tn_add1 tn_sub1 put_all' nums_len
theorem s_rbit {H:Heap} {mask i:Nat} (hm:mask<4294967296) (hi:i≤100):WC F fX1x [.c (.int .u32 (mask:Nat)),.c (.int .i64 (i:Nat))] H fun v H'=>v=.c (.bool (P3.bt mask i))∧H'=H:=by
 refine WC_start eX1x (by simp) ?_
 unfold cX1x
 have h0:mask / 2 ^ 0=mask:=by simp
 have hb:∀k,mask / 2 ^ k<4294967296:=fun k=>Nat.lt_of_le_of_lt (Nat.div_le_self _ _) hm
 have hs:∀k,mask / 2 ^ (k+1)=mask / 2 ^ k / 2:=fun k=>by rw[pow_s,Nat.mul_comm,Nat.div_div_eq_div_mul]
 have fin0:=hd3 h0 hb hs
 clear h0 hb hs
 repeat (with_reducible first|(first|refine pI1 ?_|refine pS1 ?_);intros|refine pA1 ?_|refine pX1 ?_|refine pB1 ?_|exact True.intro)
 refine W_loop (fun mm st=>∃ρ,∃k:Nat,st=⟨L 16 ρ,[],H⟩∧mm=i-k∧k≤i∧ρ 0=.c (.int .u32 (mask / 2 ^ k:Nat))∧ρ 1=.c (.int .i64 (i:Nat))∧ρ 5=.c (.int .i64 (k:Nat))) i ⟨_,0,rfl,rfl,by omega,by rw[fin0 _ fun h _ _=>h];exact zf,zf,zf⟩ ?_
 rintro mm st ⟨ρ,k,rfl,rfl,hk,e0,e1,e5⟩
 unfold bX1x_5
 have hb:=fin0 _ fun _ hb _=>hb k
 have hs:=fin0 _ fun _ _ hs=>hs k
 have hbt:P3.bt mask k=(mask / 2 ^ k % 2 == 1):=rfl
 by_cases hki:k<i
 ·have hxt:(k:Int)<(i:Int):=by omega
  have fs:=hd1 hs
  clear hs hbt
  generalize mask / 2 ^ k=q at *
  repeat (with_reducible first|(first|refine pI1 ?_|refine pS1 ?_);intros|refine pA1 ?_|refine pX1 ?_|refine pB1 ?_|exact True.intro)
  exact loopQ_n (i-(k+1)) (by omega) ⟨_,k+1,rfl,rfl,by omega,by rw[fs _ fun h=>h];exact zf,zf,zf⟩
 ·obtain rfl:k=i:=by omega
  have hxt:¬(k:Int)<(k:Int):=by omega
  rw[hbt]
  clear hs hbt
  generalize mask / 2 ^ k=q at *
  by_cases hq:q % 2=1
  ·repeat (with_reducible first|(first|refine pI1 ?_|refine pS1 ?_);intros|refine pA1 ?_|refine pX1 ?_|refine pB1 ?_|exact True.intro)
   exact⟨by simp[hq],rfl⟩
  ·have hq0:q % 2=0:=by omega
   repeat (with_reducible first|(first|refine pI1 ?_|refine pS1 ?_);intros|refine pA1 ?_|refine pX1 ?_|refine pB1 ?_|exact True.intro)
   exact⟨by simp[hq0],rfl⟩
theorem wrap_low {x:Int} (h1:9223372036854775808≤x) (h2:x<18446744073709551616):IntKind.i64.wrap x=x-18446744073709551616:=by
 simp[IntKind.wrap,IntKind.bits,IntKind.signed]
 omega
theorem s_rturned {H:Heap} {a:Option Ad} {n c:Nat} {o:Bool} {l:List Nat} {at_:Int} {mask:Nat} (hs:Sl H 1 a n (nats .u8 l)) (hn:n≤100000) (hl:l.length=n) (ha:i64 at_) (hm:mask<4294967296) (hby:∀x∈l,x<256):
  WC F fX1y [.c (.sl a n c o),.c (.int .i64 at_),.c (.int .u32 (mask:Nat))] H fun v H'=>(∃aa oo,v=.c (.sl aa n n oo)∧Gr H.length H' 1 aa n oo (nats .u8 (P3.corr l at_ mask)))∧Xt H H':=by
 refine WC_start eX1y (by simp) ?_
 unfold cX1y
 obtain⟨a1,a2⟩:=ha
 have hgx:∀k,gx l k<256:=fun k=>by
  by_cases h:k<l.length
  ·have:gx l k=l[k]:=by simp[gx,h]
   rw[this];exact hby _ (List.getElem_mem h)
  ·have:gx l k=0:=by simp[gx,Nat.le_of_not_lt h]
   omega
 have fin0:=hd3 hs hl hgx
 clear hs hl hgx hby
 repeat (with_reducible first|(first|refine pI1 ?_|refine pS1 ?_);intros|refine pA1 ?_|refine pX1 ?_|refine pB1 ?_|exact True.intro)
 refine W_loop (fun mm st=>∃ρ,∃k:Nat,∃oo Hk aa,st=⟨L 75 ρ,[],Hk⟩∧mm=n-k∧k≤n∧ρ 0=.c (.sl a n c o)∧ρ 1=.c (.int .i64 at_)∧ρ 2=.c (.int .u32 (mask:Nat))∧ρ 7=.c (.sl aa k k oo)∧ρ 8=.c (.int .i64 (k:Nat))∧H.length≤Hk.length∧Hid (Gr H.length Hk 1 aa k oo (nats .u8 ((P3.corr l at_ mask).take k))∧∀b,b<H.length→Hk[b]?=H[b]?)) n
  ⟨_,0,false,H,none,rfl,rfl,by omega,zf,zf,zf,zf,zf,Nat.le_refl _,Gr.none _ _ _,fun _ _=>rfl⟩ ?_
 rintro mm st ⟨ρ,k,oo,Hk,aa,rfl,rfl,hk,e0,e1,e2,e7,e8,lk,hall⟩
 unfold bX1y_21
 by_cases hkn:k<n
 ·have hxt:(k:Int)<(n:Int):=by omega
  obtain⟨⟨lb,y⟩,ea⟩:=fin0 _ fun hs _ _=>hs.is_some (by omega)
  have hld:=fin0 _ fun hs hl _=>slgx (by rw[ea] at hs;exact hs) hl hkn
  have hlb:=fin0 _ fun hs _ _=>hs.lt ea
  dsimp only at hld
  rw[←hall.2 lb hlb] at hld
  have hx:=fin0 _ fun _ _ h=>h k
  have hct:=fin0 _ fun _ hl hgx=>corr_take (l:=l) (at_:=at_) (mask:=mask) (k:=k) (by omega) (hgx k)
  generalize gx l k=x at *
  have f1:=hd2 hall hct
  clear hall hct
  subst ea
  repeat (with_reducible first|(first|refine pI1 ?_|refine pS1 ?_);intros|refine pA1 ?_|refine pX1 ?_|refine pB1 ?_|exact True.intro)
  refine W_loop (fun mm st=>∃ρ,∃j:Nat,st=⟨L 75 ρ,[],Hk⟩∧mm=8-j∧j≤8∧ρ 0=.c (.sl (some (lb,y)) n c o)∧ρ 1=.c (.int .i64 at_)∧ρ 2=.c (.int .u32 (mask:Nat))∧ρ 7=.c (.sl aa k k oo)∧ρ 8=.c (.int .i64 (k:Nat))∧
   ρ 9=.c (.int .i64 (tv x (fun i=>hb at_ mask (8 * k+i)) j:Nat))∧ρ 10=.c (.int .i64 (x / 2 ^ j:Nat))∧ρ 11=.c (.int .i64 (2 ^ j:Nat))∧ρ 12=.c (.int .i64 (j:Nat))) 8 ⟨_,0,rfl,rfl,by omega,zf,zf,zf,zf,zf,by rw[show tv x (fun i=>hb at_ mask (8 * k+i)) 0=0 from rfl];exact zf,by rw[Nat.pow_zero,Nat.div_one];exact zf,by rw[Nat.pow_zero];exact zf,zf⟩ ?_
  clear e0 e1 e2 e7 e8
  rintro mm st ⟨ρ,j,rfl,rfl,hj,e0,e1,e2,e7,e8,e9,e10,e11,e12⟩
  unfold bX1y_18
  by_cases hj8:j<8
  ·have hxj:(j:Int)<8:=by omega
   have htl:=tv_lt x (fun i=>hb at_ mask (8 * k+i)) j
   have hts:tv x (fun i=>hb at_ mask (8 * k+i)) (j+1)=tv x (fun i=>hb at_ mask (8 * k+i)) j+if (x / 2 ^ j % 2 == 1) != hb at_ mask (8 * k+j) then 2 ^ j else 0:=rfl
   have hqs:x / 2 ^ (j+1)=x / 2 ^ j / 2:=by rw[pow_s,Nat.mul_comm,Nat.div_div_eq_div_mul]
   have hps:=pow_s j
   have hp8:2 ^ j≤128:=by
    have:j=0∨j=1∨j=2∨j=3∨j=4∨j=5∨j=6∨j=7:=by omega
    rcases this with rfl|rfl|rfl|rfl|rfl|rfl|rfl|rfl<;>decide
   have hq256:x / 2 ^ j<256:=Nat.lt_of_le_of_lt (Nat.div_le_self _ _) hx
   have hhb:hb at_ mask (8 * k+j)=decide (at_≤((8 * k+j:Nat):Int)∧((8 * k+j:Nat):Int)-31≤at_∧P3.bt mask (((8 * k+j:Nat):Int)-at_).toNat=true):=rfl
   have hend:∀b:Bool,hb at_ mask (8 * k+j)=b→tv x (fun i=>hb at_ mask (8 * k+i)) (j+1)=tv x (fun i=>hb at_ mask (8 * k+i)) j+if (x / 2 ^ j % 2 == 1) != b then 2 ^ j else 0:=fun b h=>by rw[hts,h]
   generalize tv x (fun i=>hb at_ mask (8 * k+i)) j=t at *
   generalize x / 2 ^ j=q at *
   generalize 2 ^ j=p at *
   have f2:=hd4 hend hqs hps hhb
   clear hend hqs hps hhb hts
   have hP:((8 * k+j:Nat):Int)=8 * (k:Int)+j:=by omega
   have hqd:((q / 2:Nat):Int)=(q:Int) / 2:=by omega
   have hpd:((2 * p:Nat):Int)=2 * (p:Int):=by omega
   have htd:((t+p:Nat):Int)=(t:Int)+p:=by omega
   have fP:=hd1 hP
   clear hP
   by_cases c1:at_≤8 * (k:Int)+j
   case neg=>
    have hf:=f2 _ fun hend _ _ hhb=>hend false (by rw[hhb];exact decide_eq_false fun h=>c1 (by have:=fP _ fun h=>h;rw[←this];exact h.1))
    have ff:=hd1 hf
    clear hf
    by_cases hq:(q:Int) % 2=1
    ·have hv:tv x (fun i=>hb at_ mask (8 * k+i)) (j+1)=t+p:=ff _ fun h=>by
      rw[h]
      have e1:(q % 2 == 1)=true:=by rw[show q % 2=1 by omega];rfl
      rw[e1];rfl
     have fe:=hd1 hv
     clear hv
     repeat (with_reducible first|(first|refine pI1 ?_|refine pS1 ?_);intros|refine pA1 ?_|refine pX1 ?_|refine pB1 ?_|exact True.intro)
     exact loopQ_n (8-(j+1)) (by omega) ⟨_,j+1,rfl,rfl,by omega,zf,zf,zf,zf,zf,by rw[fe _ fun h=>h];exact zf,by rw[f2 _ fun _ h _ _=>h];exact zf,by rw[f2 _ fun _ _ h _=>h];exact zf,zf⟩
    ·have hv:tv x (fun i=>hb at_ mask (8 * k+i)) (j+1)=t:=ff _ fun h=>by
      rw[h]
      have e1:(q % 2 == 1)=false:=by rw[show q % 2=0 by omega];rfl
      rw[e1];rfl
     have fe:=hd1 hv
     clear hv
     repeat (with_reducible first|(first|refine pI1 ?_|refine pS1 ?_);intros|refine pA1 ?_|refine pX1 ?_|refine pB1 ?_|exact True.intro)
     exact loopQ_n (8-(j+1)) (by omega) ⟨_,j+1,rfl,rfl,by omega,zf,zf,zf,zf,zf,by rw[fe _ fun h=>h];exact zf,by rw[f2 _ fun _ h _ _=>h];exact zf,by rw[f2 _ fun _ _ h _=>h];exact zf,zf⟩
   by_cases c2:8 * (k:Int)+j-at_<32
   ·obtain⟨i,hi⟩:∃i:Nat,(i:Int)=8 * (k:Int)+j-at_:=⟨(8 * (k:Int)+j-at_).toNat,by omega⟩
    have hcl:=s_rbit (H:=Hk) (mask:=mask) (i:=i) hm (by omega)
    have hi':i=(((8 * k+j:Nat):Int)-at_).toNat:=by have:=fP _ fun h=>h;omega
    have hbb:hb at_ mask (8 * k+j)=P3.bt mask i:=f2 _ fun _ _ _ hhb=>by
     rw[hhb,hi']
     have h1:at_≤((8 * k+j:Nat):Int):=by have:=fP _ fun h=>h;omega
     have h2:((8 * k+j:Nat):Int)-31≤at_:=by have:=fP _ fun h=>h;omega
     cases hR:P3.bt mask (((8 * k+j:Nat):Int)-at_).toNat with
     |true=>exact decide_eq_true ⟨h1,h2,rfl⟩
     |false=>exact decide_eq_false fun h=>absurd h.2.2 (by decide)
    rw[hi] at hcl
    have fcl:=hd1 hcl
    have fbb:=hd1 hbb
    have hd1:0≤8 * (k:Int)+j-at_:=by omega
    clear hcl hbb hi' hi
    cases hbt:P3.bt mask i with
    |true=>
     have hf:=f2 _ fun hend _ _ hhb=>hend true (by rw[fbb _ fun h=>h];exact hbt)
     have ff:=hd1 hf
     clear hf
     have hcl:=fcl _ fun h=>h
     rw[hbt] at hcl
     by_cases hq:(q:Int) % 2=1
     ·have hv:tv x (fun i=>hb at_ mask (8 * k+i)) (j+1)=t:=ff _ fun h=>by
       rw[h]
       have e1:(q % 2 == 1)=true:=by rw[show q % 2=1 by omega];rfl
       rw[e1];rfl
      have fe:=hd1 hv
      clear hv
      repeat (with_reducible first|(first|refine pI1 ?_|refine pS1 ?_);intros|refine pA1 ?_|refine pX1 ?_|refine pB1 ?_|exact True.intro)
      refine outM_call hcl ?_
      rintro _ Hk ⟨rfl,rfl⟩
      clear hcl
      repeat (with_reducible first|(first|refine pI1 ?_|refine pS1 ?_);intros|refine pA1 ?_|refine pX1 ?_|refine pB1 ?_|exact True.intro)
      exact loopQ_n (8-(j+1)) (by omega) ⟨_,j+1,rfl,rfl,by omega,zf,zf,zf,zf,zf,by rw[fe _ fun h=>h];exact zf,by rw[f2 _ fun _ h _ _=>h];exact zf,by rw[f2 _ fun _ _ h _=>h];exact zf,zf⟩
     ·have hv:tv x (fun i=>hb at_ mask (8 * k+i)) (j+1)=t+p:=ff _ fun h=>by
       rw[h]
       have e1:(q % 2 == 1)=false:=by rw[show q % 2=0 by omega];rfl
       rw[e1];rfl
      have fe:=hd1 hv
      clear hv
      repeat (with_reducible first|(first|refine pI1 ?_|refine pS1 ?_);intros|refine pA1 ?_|refine pX1 ?_|refine pB1 ?_|exact True.intro)
      refine outM_call hcl ?_
      rintro _ Hk ⟨rfl,rfl⟩
      clear hcl
      repeat (with_reducible first|(first|refine pI1 ?_|refine pS1 ?_);intros|refine pA1 ?_|refine pX1 ?_|refine pB1 ?_|exact True.intro)
      exact loopQ_n (8-(j+1)) (by omega) ⟨_,j+1,rfl,rfl,by omega,zf,zf,zf,zf,zf,by rw[fe _ fun h=>h];exact zf,by rw[f2 _ fun _ h _ _=>h];exact zf,by rw[f2 _ fun _ _ h _=>h];exact zf,zf⟩
    |false=>
     have hf:=f2 _ fun hend _ _ hhb=>hend false (by rw[fbb _ fun h=>h];exact hbt)
     have ff:=hd1 hf
     clear hf
     have hcl:=fcl _ fun h=>h
     rw[hbt] at hcl
     by_cases hq:(q:Int) % 2=1
     ·have hv:tv x (fun i=>hb at_ mask (8 * k+i)) (j+1)=t+p:=ff _ fun h=>by
       rw[h]
       have e1:(q % 2 == 1)=true:=by rw[show q % 2=1 by omega];rfl
       rw[e1];rfl
      have fe:=hd1 hv
      clear hv
      repeat (with_reducible first|(first|refine pI1 ?_|refine pS1 ?_);intros|refine pA1 ?_|refine pX1 ?_|refine pB1 ?_|exact True.intro)
      refine outM_call hcl ?_
      rintro _ Hk ⟨rfl,rfl⟩
      clear hcl
      repeat (with_reducible first|(first|refine pI1 ?_|refine pS1 ?_);intros|refine pA1 ?_|refine pX1 ?_|refine pB1 ?_|exact True.intro)
      exact loopQ_n (8-(j+1)) (by omega) ⟨_,j+1,rfl,rfl,by omega,zf,zf,zf,zf,zf,by rw[fe _ fun h=>h];exact zf,by rw[f2 _ fun _ h _ _=>h];exact zf,by rw[f2 _ fun _ _ h _=>h];exact zf,zf⟩
     ·have hv:tv x (fun i=>hb at_ mask (8 * k+i)) (j+1)=t:=ff _ fun h=>by
       rw[h]
       have e1:(q % 2 == 1)=false:=by rw[show q % 2=0 by omega];rfl
       rw[e1];rfl
      have fe:=hd1 hv
      clear hv
      repeat (with_reducible first|(first|refine pI1 ?_|refine pS1 ?_);intros|refine pA1 ?_|refine pX1 ?_|refine pB1 ?_|exact True.intro)
      refine outM_call hcl ?_
      rintro _ Hk ⟨rfl,rfl⟩
      clear hcl
      repeat (with_reducible first|(first|refine pI1 ?_|refine pS1 ?_);intros|refine pA1 ?_|refine pX1 ?_|refine pB1 ?_|exact True.intro)
      exact loopQ_n (8-(j+1)) (by omega) ⟨_,j+1,rfl,rfl,by omega,zf,zf,zf,zf,zf,by rw[fe _ fun h=>h];exact zf,by rw[f2 _ fun _ h _ _=>h];exact zf,by rw[f2 _ fun _ _ h _=>h];exact zf,zf⟩
   have hno:hb at_ mask (8 * k+j)=false:=f2 _ fun _ _ _ hhb=>by rw[hhb];exact decide_eq_false fun h=>c2 (by have:=fP _ fun h=>h;have:=h.2.1;omega)
   have fno:=hd1 hno
   clear hno
   by_cases c3:8 * (k:Int)+j-at_<9223372036854775808
   ·skip
    have hf:=f2 _ fun hend _ _ hhb=>hend false (by rw[fno _ fun h=>h])
    have ff:=hd1 hf
    clear hf
    by_cases hq:(q:Int) % 2=1
    ·have hv:tv x (fun i=>hb at_ mask (8 * k+i)) (j+1)=t+p:=ff _ fun h=>by
      rw[h]
      have e1:(q % 2 == 1)=true:=by rw[show q % 2=1 by omega];rfl
      rw[e1];rfl
     have fe:=hd1 hv
     clear hv
     repeat (with_reducible first|(first|refine pI1 ?_|refine pS1 ?_);intros|refine pA1 ?_|refine pX1 ?_|refine pB1 ?_|exact True.intro)
     exact loopQ_n (8-(j+1)) (by omega) ⟨_,j+1,rfl,rfl,by omega,zf,zf,zf,zf,zf,by rw[fe _ fun h=>h];exact zf,by rw[f2 _ fun _ h _ _=>h];exact zf,by rw[f2 _ fun _ _ h _=>h];exact zf,zf⟩
    ·have hv:tv x (fun i=>hb at_ mask (8 * k+i)) (j+1)=t:=ff _ fun h=>by
      rw[h]
      have e1:(q % 2 == 1)=false:=by rw[show q % 2=0 by omega];rfl
      rw[e1];rfl
     have fe:=hd1 hv
     clear hv
     repeat (with_reducible first|(first|refine pI1 ?_|refine pS1 ?_);intros|refine pA1 ?_|refine pX1 ?_|refine pB1 ?_|exact True.intro)
     exact loopQ_n (8-(j+1)) (by omega) ⟨_,j+1,rfl,rfl,by omega,zf,zf,zf,zf,zf,by rw[fe _ fun h=>h];exact zf,by rw[f2 _ fun _ h _ _=>h];exact zf,by rw[f2 _ fun _ _ h _=>h];exact zf,zf⟩
   ·have hwl:=wrap_low (x:=8 * (k:Int)+j-at_) (by omega) (by omega)
    have hd1:8 * (k:Int)+j-at_-18446744073709551616<32:=by omega
    have hd2:¬0≤8 * (k:Int)+j-at_-18446744073709551616:=by omega
    have hf:=f2 _ fun hend _ _ hhb=>hend false (by rw[fno _ fun h=>h])
    have ff:=hd1 hf
    clear hf
    by_cases hq:(q:Int) % 2=1
    ·have hv:tv x (fun i=>hb at_ mask (8 * k+i)) (j+1)=t+p:=ff _ fun h=>by
      rw[h]
      have e1:(q % 2 == 1)=true:=by rw[show q % 2=1 by omega];rfl
      rw[e1];rfl
     have fe:=hd1 hv
     clear hv
     repeat (with_reducible first|(first|refine pI1 ?_|refine pS1 ?_);intros|refine pA1 ?_|refine pX1 ?_|refine pB1 ?_|exact True.intro)
     exact loopQ_n (8-(j+1)) (by omega) ⟨_,j+1,rfl,rfl,by omega,zf,zf,zf,zf,zf,by rw[fe _ fun h=>h];exact zf,by rw[f2 _ fun _ h _ _=>h];exact zf,by rw[f2 _ fun _ _ h _=>h];exact zf,zf⟩
    ·have hv:tv x (fun i=>hb at_ mask (8 * k+i)) (j+1)=t:=ff _ fun h=>by
      rw[h]
      have e1:(q % 2 == 1)=false:=by rw[show q % 2=0 by omega];rfl
      rw[e1];rfl
     have fe:=hd1 hv
     clear hv
     repeat (with_reducible first|(first|refine pI1 ?_|refine pS1 ?_);intros|refine pA1 ?_|refine pX1 ?_|refine pB1 ?_|exact True.intro)
     exact loopQ_n (8-(j+1)) (by omega) ⟨_,j+1,rfl,rfl,by omega,zf,zf,zf,zf,zf,by rw[fe _ fun h=>h];exact zf,by rw[f2 _ fun _ h _ _=>h];exact zf,by rw[f2 _ fun _ _ h _=>h];exact zf,zf⟩
  ·obtain rfl:j=8:=by omega
   have hxj:¬((8:Nat):Int)<8:=by omega
   have htl:=tv_lt x (fun i=>hb at_ mask (8 * k+i)) 8
   have htl:tv x (fun i=>hb at_ mask (8 * k+i)) 8<256:=htl
   generalize tv x (fun i=>hb at_ mask (8 * k+i)) 8=t at *
   have f3:=hd1 htl
   clear e10 e11
   repeat (with_reducible first|(first|refine pI1 ?_|refine pS1 ?_);intros|refine pA1 ?_|refine pX1 ?_|refine pB1 ?_|exact True.intro)
   rename_i b3 H3 p3 g3 x3
   have hgr:Gr H.length H3 1 aa k oo (nats .u8 ((P3.corr l at_ mask).take k)):=f1 _ fun hall _=>hall.1.keepX fun b hb=>x3 b (by omega)
   refine outM_appG (j:=1) hgr (by omega) (Sl.blk g3 rfl) (by omega) (by omega) ?_
   intro a' H4 q1 q2 q3 q4 q5
   rw[show nats .u8 ((P3.corr l at_ mask).take k)++[Cell.int .u8 (t:Nat)]=nats .u8 ((P3.corr l at_ mask).take (k+1)) by rw[f1 _ fun _ h=>h];simp[nats]] at q1
   have f4:=hd3 q1 q3 x3
   clear q1 q3 q4 q5 hgr x3 g3 hld
   repeat (with_reducible first|(first|refine pI1 ?_|refine pS1 ?_);intros|refine pA1 ?_|refine pX1 ?_|refine pB1 ?_|exact True.intro)
   exact loopQ_n (n-(k+1)) (by omega) ⟨_,k+1,true,H4,a',rfl,rfl,by omega,zf,zf,zf,zf,zf,by omega,f4 _ fun q1 q3 x3=>f1 _ fun hall _=>⟨q1,fun b hb=>by rw[q3 b hb,x3 b (by omega)];exact hall.2 b hb⟩⟩
 ·obtain rfl:k=n:=by omega
  have hxt:¬(k:Int)<(k:Int):=by omega
  have htk:(P3.corr l at_ mask).take k=P3.corr l at_ mask:=List.take_of_length_le (by rw[P3.corr_len];exact fin0 _ fun _ hl _=>by omega)
  rw[htk] at hall
  have fh:=hd1 hall
  clear hall htk
  repeat (with_reducible first|(first|refine pI1 ?_|refine pS1 ?_);intros|refine pA1 ?_|refine pX1 ?_|refine pB1 ?_|exact True.intro)
  exact⟨⟨aa,oo,rfl,fh _ fun h=>h.1⟩,by omega,fh _ fun h=>h.2⟩
end Go.Proofs.YtjcgdcadflplcaaDoor.AM.D21
namespace Go.Proofs.YtjcgdcadflplcaaDoor.AM.D21
open Go Go.Proofs.YtjcgdcadflplcaaDoor.AM Go.Proofs.YtjcgdcadflplcaaDoor.AM.C02 Go.Proofs.YtjcgdcadflplcaaDoor.AM.C07
set_option maxHeartbeats 2000000
set_option maxRecDepth 100000
attribute [local go_sem] tn_add1 tn_sub1 put_all' nums_len sub12 sub3
theorem s_rNew {N:Nat} {H:Heap} {c:Cfg} {h:Hd} (hc:CfgM N H c h) (hN:N≤H.length) (hf:Few c):WC F fX1w [.agg (c.cells h)] H fun v H'=>Xt H H'∧
  ((c.check≠0∧v=.tup [.agg [.sl none 0 0 false,.int .u64 0,.int .u64 0],.c (.int .i64 c.check)])∨(c.check=0∧v=.tup [.agg [.sl h.a1 c.owners.length h.c1 h.o1,.int .u64 0,.int .u64 0],.c (.int .i64 0)])):=by
 refine WC_start eX1w (by simp) ?_
 unfold cX1w
 have hck:=fun(Hx:Heap) (hx:Xt H Hx)=>s_rCheck (H:=Hx) (hc.keep fun b hb=>hx.2 b (by omega)) (by have:=hx.1;omega) hf
 obtain⟨C,hC⟩:∃C,C=c.cells h:=⟨_,rfl⟩
 have hsub:sub C 0 12=some C:=by rw[hC];rfl
 have hfld:C[1]?=some (.sl h.a1 c.owners.length h.c1 h.o1):=by rw[hC];rfl
 rw[←hC] at hck ⊢
 obtain⟨k,hk⟩:∃k,k=c.check:=⟨_,rfl⟩
 rw[←hk] at hck ⊢
 have fin0:=hd1 hck
 clear hck hC hc hf hk
 repeat (with_reducible first|(first|refine pI1 ?_|refine pS1 ?_);intros|refine pA1 ?_|refine pX1 ?_|refine pB1 ?_|exact True.intro)
 rename_i b1 H1 p1 g1 x1 b2 H2 p2 g2 x2
 have t2:Xt H H2:=⟨by omega,fun b hb=>by rw[x2 b (by omega),x1 b (by omega)]⟩
 have g12:=(x2 b1 (by omega)).trans g1
 have f2:=hd1 t2
 clear x1 x2 g1 t2
 refine outM_call (fin0 _ fun h=>f2 _ fun t=>h H2 t) ?_
 rintro _ H3 ⟨rfl,l3,x3⟩
 have g13:=(x3 b1 (by omega)).trans g12
 have g23:=(x3 b2 (by omega)).trans g2
 have t3:Xt H H3:=f2 _ fun t=>⟨by omega,fun b hb=>by rw[x3 b (by omega)];exact t.2 b hb⟩
 have f3:=hd1 t3
 clear x3 t3 g12 g2
 by_cases h0:k=0
 case neg=>
  repeat (with_reducible first|(first|refine pI1 ?_|refine pS1 ?_);intros|refine pA1 ?_|refine pX1 ?_|refine pB1 ?_|exact True.intro)
  rename_i H4 l4 g4 x4
  repeat (with_reducible first|(first|refine pI1 ?_|refine pS1 ?_);intros|refine pA1 ?_|refine pX1 ?_|refine pB1 ?_|exact True.intro)
  exact⟨⟨by omega,fun b hb=>by rw[x4 b (by omega)];exact f3 _ fun t=>t.2 b hb⟩,.inl ⟨h0,rfl⟩⟩
 subst h0
 repeat (with_reducible first|(first|refine pI1 ?_|refine pS1 ?_);intros|refine pA1 ?_|refine pX1 ?_|refine pB1 ?_|exact True.intro)
 rename_i H4 l4 g4 x4
 repeat (with_reducible first|(first|refine pI1 ?_|refine pS1 ?_);intros|refine pA1 ?_|refine pX1 ?_|refine pB1 ?_|exact True.intro)
 exact⟨⟨by omega,fun b hb=>by rw[x4 b (by omega)];exact f3 _ fun t=>t.2 b hb⟩,.inr ⟨rfl,rfl⟩⟩
end Go.Proofs.YtjcgdcadflplcaaDoor.AM.D21
