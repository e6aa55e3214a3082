/- The abstract machine, part 2: what it is, and that what it comes to is what the program comes to. -/
import Derived.Test.YtjcgdcadflplcaaDoorA1
set_option linter.unusedVariables false
set_option linter.unusedSimpArgs false
set_option linter.unusedSectionVars false
/- AM, twelfth text: structs and arrays held against each other. -/
namespace Go.Proofs.YtjcgdcadflplcaaDoor.AM
open Go Go.RowKit
theorem eqCs_append:∀(L1 L2:List KK) (x1 x2 y1 y2:List Cell),x1.length=L1.length→y1.length=L1.length→
  eqCs (L1++L2) (x1++x2) (y1++y2)=(eqCs L1 x1 y1).bind fun b=>if b then eqCs L2 x2 y2 else some false:=by
 intro L1
 induction L1 with
 |nil=>intro L2 x1 x2 y1 y2 h1 h2;simp at h1 h2;subst h1 h2;simp[eqCs]
 |cons k L1 ih=>
  intro L2 x1 x2 y1 y2 h1 h2
  cases x1 with
  |nil=>simp at h1
  |cons x x1=>
   cases y1 with
   |nil=>simp at h2
   |cons y y1=>
    simp at h1 h2
    have ih':=ih L2 x1 x2 y1 y2 h1 h2
    cases k<;>cases x<;>cases y<;>simp only[List.cons_append,eqCs,ih',Option.bind_none]<;>(repeat' split)<;>simp_all
def TV (P:Program) (m:Inj) (n:Nat) (T:TypeId) (x:Value) (cs:List Cell):Prop:=
 match P.underlying T with
 |some (.struct _)=>∃X:Array Value,x=.agg X∧RL m n cs X.toList
 |some (.array ..)=>∃X:Array Value,x=.agg X∧RL m n cs X.toList
 |_=>∃c,cs=[c]∧c.R m n x
theorem run_partTV {P:Program} {w:World} {m:Inj} {n:Nat} {T:TypeId} {k:Nat} (hk:szOf P T=some k) {d:TypeDesc} (hd:P.underlying T=some d) (hb:(∀fs,d≠.struct fs)→(∀a b,d≠.array a b)→k=1) {cs:List Cell} {X:Array Value} (hX:RL m n cs X.toList) {off:Nat} (hl:off+k≤cs.length):
  ∃x,(part T X off).run P w=.ok x w∧TV P m n T x ((cs.drop off).take k):=by
 obtain⟨i,hi,hik⟩:∃i,P.info? T=some i∧i.size=k:=by
  unfold szOf at hk
  cases hi:P.info? T with
  |none=>simp[hi] at hk
  |some i=>simp[hi] at hk;exact⟨i,rfl,hk⟩
 by_cases h1:(∃fs,d=.struct fs)∨∃a b,d=.array a b
 ·have hrd:rdOf P T=some (some k):=by
   unfold rdOf
   rcases h1 with ⟨fs,rfl⟩|⟨a,b,rfl⟩<;>simp[hd,hi,hik]
  obtain⟨x,h2,h3⟩:=run_part hrd hX (off:=off) (x:=.agg ((cs.drop off).take k)) (by simp[prd,sub,hl]) w
  refine⟨x,h2,?_⟩
  unfold TV
  rw[hd]
  rcases h1 with ⟨fs,rfl⟩|⟨a,b,rfl⟩<;>exact h3
 ·have h2:∀fs,d≠.struct fs:=fun fs e=>h1 (.inl ⟨fs,e⟩)
  have h3:∀a b,d≠.array a b:=fun a b e=>h1 (.inr ⟨a,b,e⟩)
  have:=hb h2 h3
  subst this
  have hrd:rdOf P T=some none:=by
   unfold rdOf
   rw[hd,hi]
   cases d<;>first|rfl|exact absurd rfl (h2 _)|exact absurd rfl (h3 _ _)
  have hlt:off<cs.length:=by omega
  obtain⟨x,h4,h5⟩:=run_part hrd hX (off:=off) (x:=.c cs[off]) (by simp[prd,hlt]) w
  refine⟨x,h4,?_⟩
  unfold TV
  rw[hd]
  have e:(cs.drop off).take 1=[cs[off]]:=by
   rw[List.drop_eq_getElem_cons hlt];rfl
  cases d<;>first|exact absurd rfl (h2 _)|exact absurd rfl (h3 _ _)|exact⟨_,e,h5⟩
theorem leaves_one {P:Program} {d:Nat} {T:TypeId} {L:List KK} {D:TypeDesc} (h:leaves P d T=some L) (hD:P.underlying T=some D) (h1:∀fs,D≠.struct fs) (h2:∀a b,D≠.array a b):L.length=1:=by
 cases d with
 |zero=>simp[leaves] at h
 |succ d=>
  unfold leaves at h
  rw[hD] at h
  cases D<;>first|exact absurd rfl (h1 _)|exact absurd rfl (h2 _ _)|(simp at h;subst h;rfl)|(simp at h)
theorem eq_cells {P:Program} {w:World} {m:Inj} {n:Nat}:∀(d D:Nat) (T:TypeId) (L:List KK),leaves P d T=some L→d≤D→∀(x y:Value) (cx cy:List Cell) (b:Bool),TV P m n T x cx→TV P m n T y cy→cx.length=L.length→cy.length=L.length→eqCs L cx cy=some b→
  (Op.equalIn D T x y).run P w=.ok b w:=by
 intro d
 induction d with
 |zero=>intro D T L h;simp[leaves] at h
 |succ d ih=>
  intro D T L h hD x y cx cy b hx hy hlx hly he
  obtain⟨D,rfl⟩:∃q,D=q+1:=⟨D-1,by omega⟩
  unfold leaves at h
  unfold TV at hx hy
  cases hu:P.underlying T with
  |none=>simp[hu] at h
  |some desc=>
   rw[hu] at h hx hy
   -- a part of each, held against the other
   have parts:∀{t:TypeId} {l:List KK},leaves P d t=some l→szOf P t=some l.length→∀{X Y:Array Value} {ox oy:List Cell} {off:Nat},RL m n ox X.toList→RL m n oy Y.toList→off+l.length≤ox.length→off+l.length≤oy.length→∀b,eqCs l ((ox.drop off).take l.length) ((oy.drop off).take l.length)=some b→
     (do let p ←part t X off;let q ←part t Y off;Op.equalIn D t p q:Sem Bool).run P w=.ok b w:=by
    intro t l hl hs X Y ox oy off hX hY h1 h2 b hb
    have hdd:∃desc,P.underlying t=some desc:=by
     cases d with
     |zero=>simp[leaves] at hl
     |succ d=>
      unfold leaves at hl
      cases hq:P.underlying t with
      |none=>simp[hq] at hl
      |some q=>exact⟨q,rfl⟩
    obtain⟨desc',hd'⟩:=hdd
    obtain⟨p,hp1,hp2⟩:=run_partTV (w:=w) hs hd' (leaves_one hl hd') hX h1
    obtain⟨q,hq1,hq2⟩:=run_partTV (w:=w) hs hd' (leaves_one hl hd') hY h2
    simp only[Sem.run_bind,hp1,hq1,Result.andThen_ok]
    exact ih D t l hl (by omega) p q _ _ b hp2 hq2 (by simp;omega) (by simp;omega) hb
   rw[Op.equalIn,Sem.run_bind,run_underlying hu,Result.andThen_ok]
   cases desc with
   |int k=>
    simp at h;subst h
    obtain⟨c,rfl,hc⟩:=hx
    obtain⟨c',rfl,hc'⟩:=hy
    cases c<;>cases c'<;>simp[eqCs] at he
    cases hc;cases hc'
    obtain⟨rfl,he⟩:=he
    simp only[if_true,Sem.run_pure,Result.ok.injEq,and_true]
    split at he<;>simp_all
   |bool=>
    simp at h;subst h
    obtain⟨c,rfl,hc⟩:=hx
    obtain⟨c',rfl,hc'⟩:=hy
    cases c<;>cases c'<;>simp[eqCs] at he
    cases hc;cases hc'
    simp only[Sem.run_pure,Result.ok.injEq,and_true]
    split at he<;>simp_all
   |string=>
    simp at h;subst h
    obtain⟨c,rfl,hc⟩:=hx
    obtain⟨c',rfl,hc'⟩:=hy
    cases c<;>cases c'<;>simp[eqCs] at he
    cases hc;cases hc'
    simp only[Sem.run_pure,Result.ok.injEq,and_true]
    split at he<;>simp_all
   |struct fs=>
    simp only[] at h
    obtain⟨X,rfl,hX⟩:=hx
    obtain⟨Y,rfl,hY⟩:=hy
    split at h
    ·cases h
    ·rename_i hst
     have loop:∀(fs:List Field) (off:Nat) (L:List KK),leavesF P (leaves P d) off fs=some L→off+L.length≤cx.length→off+L.length≤cy.length→∀b,eqCs L ((cx.drop off).take L.length) ((cy.drop off).take L.length)=some b→
       (forIn fs ((none,()):Option Bool × Unit) (fun f _=>if f.name≠"_" then do
        let p ←part f.type X f.offset
        let q ←part f.type Y f.offset
        let t ←Op.equalIn D f.type p q
        if (!t)=true then pure (ForInStep.done (some false,())) else pure (ForInStep.yield (none,()))
       else pure (ForInStep.yield (none,()))):Sem (Option Bool × Unit)).run P w=.ok (if b then (none,()) else (some false,())) w:=by
      intro fs
      induction fs with
      |nil=>intro off L hL h1 h2 b hb;simp[leavesF] at hL;subst hL;simp[eqCs] at hb;subst hb;simp
      |cons f fs ihf=>
       intro off L hL h1 h2 b hb
       simp only[leavesF] at hL
       split at hL
       ·rename_i hf
        obtain⟨hf1,hf2⟩:=hf
        cases hl:leaves P d f.type with
        |none=>simp[hl] at hL
        |some l=>
         simp only[hl,Option.bind_some] at hL
         split at hL
         ·rename_i hs
          cases hr:leavesF P (leaves P d) (off+l.length) fs with
          |none=>simp[hr] at hL
          |some L'=>
           simp[hr] at hL;subst hL
           simp only[List.length_append] at h1 h2 hb
           have e1:∀z:List Cell,(z.drop off).take (l.length+L'.length)=(z.drop off).take l.length++(z.drop (off+l.length)).take L'.length:=by
            intro z;rw[List.take_add,List.drop_drop]
           rw[e1 cx,e1 cy,eqCs_append l L' _ _ _ _ (by simp;omega) (by simp;omega)] at hb
           cases hq:eqCs l ((cx.drop off).take l.length) ((cy.drop off).take l.length) with
           |none=>simp[hq] at hb
           |some t=>
            have hp:=parts hl hs hX hY (off:=off) (by omega) (by omega) t hq
            simp only[Sem.run_bind] at hp
            rw[List.forIn_cons]
            simp only[hf1,ne_eq,not_false_eq_true,if_true,Sem.run_bind,hf2]
            have hp':((part f.type X off).run P w).andThen (fun a w'=>((part f.type Y off).run P w').andThen fun a_1 w'=>((Op.equalIn D f.type a a_1).run P w').andThen fun a w'=>(if (!a)=true then pure (ForInStep.done (some false,())) else pure (ForInStep.yield (none,())):Sem (ForInStep (Option Bool × Unit))).run P w') =
              (if (!t)=true then pure (ForInStep.done (some false,())) else pure (ForInStep.yield (none,())):Sem (ForInStep (Option Bool × Unit))).run P w:=by
             cases h3:(part f.type X off).run P w with
             |halt q w1=>rw[h3] at hp;simp at hp
             |ok p w1=>
              rw[h3] at hp
              simp only[Result.andThen_ok] at hp ⊢
              cases h4:(part f.type Y off).run P w1 with
              |halt q w2=>rw[h4] at hp;simp at hp
              |ok q w2=>
               rw[h4] at hp
               simp only[Result.andThen_ok] at hp ⊢
               rw[hp]
               rfl
            rw[hp']
            cases t with
            |false=>
             simp[hq] at hb;subst hb
             simp
            |true=>
             simp only[hq,Option.bind_some,if_true] at hb
             have:=ihf (off+l.length) L' hr (by omega) (by omega) b hb
             simp only[Bool.not_true,Bool.false_eq_true,if_false,Sem.run_pure,Result.andThen_ok]
             exact this
         ·cases hL
       ·cases hL
     have:=loop fs.toList 0 L h (by omega) (by omega) b (by rw[List.drop_zero,List.drop_zero,List.take_of_length_le (by omega),List.take_of_length_le (by omega)];exact he)
     simp only[Sem.run_bind,run_program,Result.andThen_ok,hst,if_false,Bool.false_eq_true]
     rw[←Array.forIn_toList,this]
     cases b<;>rfl
   |array k e=>
    simp only[] at h
    obtain⟨X,rfl,hX⟩:=hx
    obtain⟨Y,rfl,hY⟩:=hy
    cases hl:leaves P d e with
    |none=>simp[hl] at h
    |some l=>
     simp only[hl,Option.bind_some] at h
     split at h
     ·rename_i hs
      cases h
      have hlen:(List.replicate k l).flatten.length=k * l.length:=by simp
      have loop:∀(q s:Nat),s+q≤k→∀b,eqCs (List.replicate q l).flatten ((cx.drop (s * l.length)).take (q * l.length)) ((cy.drop (s * l.length)).take (q * l.length))=some b→
        (forIn (List.range' s q) ((none,()):Option Bool × Unit) (fun i _=>do
         let p ←part e X (i * l.length)
         let q ←part e Y (i * l.length)
         let t ←Op.equalIn D e p q
         if (!t)=true then pure (ForInStep.done (some false,())) else pure (ForInStep.yield (none,()))):Sem (Option Bool × Unit)).run P w=.ok (if b then (none,()) else (some false,())) w:=by
       intro q
       induction q with
       |zero=>intro s _ b hb;simp[eqCs] at hb;subst hb;simp
       |succ q ihq=>
        intro s hsk b hb
        have hkl:(s+(q+1)) * l.length≤k * l.length:=Nat.mul_le_mul_right _ hsk
        rw[Nat.add_mul,Nat.add_mul,Nat.one_mul] at hkl
        have e0:(List.replicate (q+1) l).flatten=l++(List.replicate q l).flatten:=by simp[List.replicate_succ]
        have e1:∀z:List Cell,(z.drop (s * l.length)).take ((q+1) * l.length)=(z.drop (s * l.length)).take l.length++(z.drop ((s+1) * l.length)).take (q * l.length):=by
         intro z
         rw[show (q+1) * l.length=l.length+q * l.length by rw[Nat.add_mul];omega,List.take_add,List.drop_drop]
         congr 3
         rw[Nat.add_mul];omega
        rw[e0,e1 cx,e1 cy,eqCs_append l _ _ _ _ _ (by simp;omega) (by simp;omega)] at hb
        cases hq:eqCs l ((cx.drop (s * l.length)).take l.length) ((cy.drop (s * l.length)).take l.length) with
        |none=>simp[hq] at hb
        |some t=>
         have hp:=parts hl hs hX hY (off:=s * l.length) (by omega) (by omega) t hq
         simp only[Sem.run_bind] at hp
         rw[List.range'_succ,List.forIn_cons]
         simp only[Sem.run_bind]
         have hp':((part e X (s * l.length)).run P w).andThen (fun a w'=>((part e Y (s * l.length)).run P w').andThen fun a_1 w'=>((Op.equalIn D e a a_1).run P w').andThen fun a w'=>(if (!a)=true then pure (ForInStep.done (some false,())) else pure (ForInStep.yield (none,())):Sem (ForInStep (Option Bool × Unit))).run P w') =
           (if (!t)=true then pure (ForInStep.done (some false,())) else pure (ForInStep.yield (none,())):Sem (ForInStep (Option Bool × Unit))).run P w:=by
          cases h3:(part e X (s * l.length)).run P w with
          |halt q w1=>rw[h3] at hp;simp at hp
          |ok p w1=>
           rw[h3] at hp
           simp only[Result.andThen_ok] at hp ⊢
           cases h4:(part e Y (s * l.length)).run P w1 with
           |halt q w2=>rw[h4] at hp;simp at hp
           |ok q w2=>
            rw[h4] at hp
            simp only[Result.andThen_ok] at hp ⊢
            rw[hp]
            rfl
         rw[hp']
         cases t with
         |false=>
          simp[hq] at hb;subst hb
          simp
         |true=>
          simp only[hq,Option.bind_some,if_true] at hb
          have:=ihq (s+1) (by omega) b hb
          simp only[Bool.not_true,Bool.false_eq_true,if_false,Sem.run_pure,Result.andThen_ok]
          exact this
      have:=loop k 0 (by omega) b (by
       rw[hlen] at hlx hly
       rw[Nat.zero_mul,List.drop_zero,List.drop_zero,List.take_of_length_le (by omega),List.take_of_length_le (by omega)]
       exact he)
      simp only[Sem.run_bind,run_szOf hs,Result.andThen_ok]
      rw[Std.Legacy.Range.forIn_eq_forIn_range']
      simp only[Std.Legacy.Range.size,Nat.sub_zero,Nat.add_sub_cancel,Nat.div_one]
      rw[this]
      cases b<;>rfl
     ·cases h
   |_=>simp at h
end Go.Proofs.YtjcgdcadflplcaaDoor.AM
/- AM, thirteenth text: every operation. -/
namespace Go.Proofs.YtjcgdcadflplcaaDoor.AM
open Go Go.RowKit
section
variable {K:Ctx} {m:Inj} {base:Nat} {H:Heap} {w:World} {ρ:X→V} {ρc:Operand→Value} {r:AN × Heap}
theorem good_eqagg (hR:Rel K m base H w) (hρ:Ops K m H.length ρ ρc) {op:BinOp} (hop:op=.eql∨op=.neq) {T:TypeId} {d:TypeDesc} (hd:K.P.underlying T=some d) (hk:(∃fs,d=.struct fs)∨∃a b,d=.array a b) {L:List KK} (hg:K.P.eqGuardType K.P.depth T=false) (hL:leaves K.P 100 T=some L)
  {x y:Operand} {x' y':X} (hx:cX K.G x=some x') (hy:cX K.G y=some y') (h:aop ρ (.eqagg L (op == .neq) x' y') H=some r):
  Good K base m H w ((do pure (Next.value (←(do eqGuard op T x y (ρc x) (ρc y);binOp op T (ρc x) (ρc y)))):Sem Next).run K.P w) r:=by
 simp only[aop] at h
 have hxR:=hρ x x' hx
 have hyR:=hρ y y' hy
 split at h
 ·rename_i a b ha hb
  split at h
  ·rename_i hlen
   cases hc:eqCs L a b with
   |none=>simp[hc] at h
   |some t=>
    simp[hc] at h;subst h
    rw[ha] at hxR
    rw[hb] at hyR
    obtain⟨X,hX1,hX2⟩:=hxR
    obtain⟨Y,hY1,hY2⟩:=hyR
    have tv:∀{v:Value} {cs:List Cell} {Z:Array Value},v=.agg Z→RL m H.length cs Z.toList→TV K.P m H.length T v cs:=by
     intro v cs Z e hZ
     unfold TV
     rw[hd]
     rcases hk with ⟨fs,rfl⟩|⟨p,q,rfl⟩<;>exact⟨Z,e,hZ⟩
    have he:(Op.equal T (ρc x) (ρc y)).run K.P w=.ok t w:=
     eq_cells (w:=w) 100 Op.maxDepth T L hL (by decide) _ _ a b t (tv hX1 hX2) (tv hY1 hY2) hlen.1 hlen.2 hc
    rw[run_v]
    have hguard:(eqGuard op T x y (ρc x) (ρc y)).run K.P w=.ok () w:=by
     rw[hX1,hY1]
     unfold eqGuard
     rcases hop with rfl|rfl<;>simp[hg]
    have hbin:(binOp op T (ρc x) (ρc y)).run K.P w=.ok (.bool (t != (op == .neq))) w:=by
     rcases hop with rfl|rfl
     ·have e1:binOp .eql T (ρc x) (ρc y)=(do pure (.bool (←Op.equal T (ρc x) (ρc y)))):=by rw[hX1,hY1];rfl
      rw[e1];simp[he]<;>(cases t<;>rfl)
     ·have e1:binOp .neq T (ρc x) (ρc y)=(do pure (.bool (!(←Op.equal T (ρc x) (ρc y))))):=by rw[hX1,hY1];rfl
      rw[e1];simp[he]<;>(cases t<;>rfl)
    simp only[Sem.run_bind,hguard,hbin,Result.andThen_ok]
    exact Good.val hR (show (V.c (.bool _)).R m H.length _ from rfl)
  ·cases h
 ·cases h
theorem bind_some {α β:Type} {o:Option α} {f:α→Option β} {b:β} (h:o.bind f=some b):∃a,o=some a∧f a=some b:=by
 cases o with
 |none=>simp at h
 |some a=>exact⟨a,rfl,by simpa using h⟩
theorem map_some' {α β:Type} {o:Option α} {f:α→β} {b:β} (h:o.map f=some b):∃a,o=some a∧f a=b:=by
 cases o with
 |none=>simp at h
 |some a=>exact⟨a,rfl,by simpa using h⟩
theorem good_builtin (hR:Rel K m base H w) (hρ:Ops K m H.length ρ ρc) {b:Builtin} {ts:Array TypeId} {args:Array Operand} {ty:TypeId} {cn:Array Bool} {io:IOp} (hc:cBuiltin K.P K.G b ts args.toList=some io) (h:aop ρ io H=some r):
  Good K base m H w ((builtin b ts ty cn (args.map ρc)).run K.P w) r:=by
 unfold cBuiltin at hc
 have one:∀{x:Operand},args.toList=[x]→args.map ρc=#[ρc x]:=by
  intro x e
  apply Array.ext'
  simp[e]
 have two:∀{x y:Operand},args.toList=[x,y]→args.map ρc=#[ρc x,ρc y]:=by
  intro x y e
  apply Array.ext'
  simp[e]
 split at hc
 ·-- len
  rename_i x hargs
  rw[one hargs]
  cases ht:ts[0]? with
  |none=>simp[ht] at hc
  |some T=>
   simp only[ht,Option.bind_some] at hc
   cases hu:K.P.underlying T with
   |none=>simp[hu] at hc
   |some d=>
    rw[hu] at hc
    cases d with
    |string=>obtain⟨x',hx,rfl⟩:=map_some' hc;exact good_len hR hρ ht hu (.inl ⟨rfl,rfl⟩) hx h
    |slice e=>obtain⟨x',hx,rfl⟩:=map_some' hc;exact good_len hR hρ ht hu (.inr ⟨rfl,_,rfl⟩) hx h
    |array n e=>
     cases hc
     simp only[aop,Option.some.injEq] at h
     subst h
     unfold builtin
     simp only[]
     rw[run_v]
     have e0:(#[ρc x]:Array Value)[0]?=some (ρc x):=rfl
     simp only[Builtin.len_,ht,e0]
     simp only[Sem.run_bind,run_underlying hu,Result.andThen_ok,Sem.run_pure]
     exact Good.val hR (show (V.c (.int _ _)).R m H.length _ from rfl)
    |pointer e=>
     simp only[] at hc
     split at hc
     ·rename_i n e' hu'
      cases hc
      simp only[aop,Option.some.injEq] at h
      subst h
      unfold builtin
      simp only[]
      rw[run_v]
      have e0:(#[ρc x]:Array Value)[0]?=some (ρc x):=rfl
      simp only[Builtin.len_,ht,e0]
      simp only[Sem.run_bind,run_underlying hu,Result.andThen_ok,run_underlying hu',Sem.run_pure]
      exact Good.val hR (show (V.c (.int _ _)).R m H.length _ from rfl)
     ·cases hc
    |_=>simp at hc
 ·-- append
  rename_i s x hargs
  rw[two hargs]
  split at hc
  ·rename_i e e2 h1 h2
   obtain⟨T,hT1,hT2⟩:=bind_some h1
   obtain⟨T2,hT3,hT4⟩:=bind_some h2
   obtain⟨s',hs,hc⟩:=bind_some hc
   obtain⟨x',hx,hc⟩:=bind_some hc
   obtain⟨i,hi,hc⟩:=bind_some hc
   split at hc
   ·rename_i hz
    cases hc
    obtain⟨z,hz1,hz2⟩:=map_some' hz.1
    exact good_app hR hρ ⟨⟨T,hT1,hT2⟩,hi,hz1,hz2,hz.2,T2,_,hT3,hT4,by simp⟩ hs hx h
   ·cases hc
  ·rename_i e h1 h2
   obtain⟨T,hT1,hT2⟩:=bind_some h1
   obtain⟨T2,hT3,hT4⟩:=bind_some h2
   obtain⟨s',hs,hc⟩:=bind_some hc
   obtain⟨x',hx,hc⟩:=bind_some hc
   obtain⟨i,hi,hc⟩:=bind_some hc
   split at hc
   ·rename_i hz
    cases hc
    obtain⟨z,hz1,hz2⟩:=map_some' hz.1
    exact good_appT hR hρ ⟨⟨T,hT1,hT2⟩,hi,hz1,by rw[hz2,hz.2.1],by rw[hz.2.1];decide,T2,_,hT3,hT4,by simp⟩ hz.2.1 hz.2.2 hs hx h
   ·cases hc
  ·cases hc
 ·-- copy
  rename_i s x hargs
  rw[two hargs]
  split at hc
  ·rename_i e h1
   obtain⟨T,hT1,hT2⟩:=bind_some h1
   obtain⟨s',hs,hc⟩:=bind_some hc
   obtain⟨x',hx,hc⟩:=bind_some hc
   obtain⟨n,hn,rfl⟩:=map_some' hc
   exact good_cpy hR hρ hT1 hT2 hn hs hx h
  ·cases hc
 ·-- clear
  rename_i x hargs
  rw[one hargs]
  split at hc
  ·rename_i e h1
   obtain⟨T,hT1,hT2⟩:=bind_some h1
   obtain⟨x',hx,hc⟩:=bind_some hc
   obtain⟨z,hz,hc⟩:=bind_some hc
   obtain⟨zc,hzc,hc⟩:=bind_some hc
   obtain⟨n,hn,rfl⟩:=map_some' hc
   exact good_clr hR hρ hT1 hT2 hn hz hzc hx h
  ·cases hc
 ·rename_i x ys hargs
  obtain⟨x',hx,hc⟩:=bind_some hc
  obtain⟨ys',hy,rfl⟩:=map_some' hc
  exact good_mx hR hρ hx hy (by simp[hargs]) h
 ·rename_i x ys hargs
  obtain⟨x',hx,hc⟩:=bind_some hc
  obtain⟨ys',hy,rfl⟩:=map_some' hc
  exact good_mn hR hρ hx hy (by simp[hargs]) h
 ·cases hc
end
end Go.Proofs.YtjcgdcadflplcaaDoor.AM
/- AM, fourteenth text: what an operation of the abstract machine comes to, the machine's comes to: every operation. -/
namespace Go.Proofs.YtjcgdcadflplcaaDoor.AM
open Go Go.RowKit
section
variable {K:Ctx} {m:Inj} {base:Nat} {H:Heap} {w:World} {ρ:X→V} {ρc:Operand→Value} {r:AN × Heap}
theorem good_binOp (hR:Rel K m base H w) (hρ:Ops K m H.length ρ ρc) {op:BinOp} {T T':TypeId} {x y:Operand} {io:IOp} (hc:cOp K.P K.G (.binOp op T x y T')=some io) (h:aop ρ io H=some r):
  Good K base m H w ((do pure (Next.value (←(do eqGuard op T x y (ρc x) (ρc y);binOp op T (ρc x) (ρc y)))):Sem Next).run K.P w) r:=by
 simp only[cOp] at hc
 obtain⟨x',hx,hc⟩:=bind_some hc
 obtain⟨y',hy,hc⟩:=bind_some hc
 by_cases hop:op=.eql∨op=.neq
 ·have hc':(match K.P.underlying T with
   |some (.int _)|some .string=>some (IOp.bin op x' y')
   |some .bool=>some (.eq .bool (op == .neq) x' y')
   |some (.pointer _)=>some (.eq .ptr (op == .neq) x' y')
   |some (.slice _)=>some (.eq .sl (op == .neq) x' y')
   |some (.map ..)=>some (.eq .map (op == .neq) x' y')
   |some (.func ..)=>some (.eq .fn (op == .neq) x' y')
   |some (.struct _)|some (.array ..)=>if K.P.eqGuardType K.P.depth T then none else (leaves K.P 100 T).map fun L=>.eqagg L (op == .neq) x' y'
   |_=>none)=some io:=by
   rcases hop with rfl|rfl<;>exact hc
  cases hu:K.P.underlying T with
  |none=>simp[hu] at hc'
  |some d=>
   rw[hu] at hc'
   cases d with
   |int k=>cases hc';exact good_bin hR hρ hx hy h
   |string=>cases hc';exact good_bin hR hρ hx hy h
   |bool=>cases hc';exact good_eq (k:=.bool) hR hρ hop hu rfl hx hy h
   |pointer e=>cases hc';exact good_eq (k:=.ptr) hR hρ hop hu ⟨_,rfl⟩ hx hy h
   |slice e=>cases hc';exact good_eq (k:=.sl) hR hρ hop hu ⟨_,rfl⟩ hx hy h
   |map a b=>cases hc';exact good_eq (k:=.map) hR hρ hop hu ⟨_,_,rfl⟩ hx hy h
   |func a b c=>cases hc';exact good_eq (k:=.fn) hR hρ hop hu ⟨_,_,_,rfl⟩ hx hy h
   |struct fs=>
    simp only[] at hc'
    split at hc'
    ·cases hc'
    ·rename_i hg
     obtain⟨L,hL,rfl⟩:=map_some' hc'
     exact good_eqagg hR hρ hop hu (.inl ⟨_,rfl⟩) (by simpa using hg) hL hx hy h
   |array n e=>
    simp only[] at hc'
    split at hc'
    ·cases hc'
    ·rename_i hg
     obtain⟨L,hL,rfl⟩:=map_some' hc'
     exact good_eqagg hR hρ hop hu (.inr ⟨_,_,rfl⟩) (by simpa using hg) hL hx hy h
   |_=>simp at hc'
 ·have h1:op≠.eql:=fun e=>hop (.inl e)
  have h2:op≠.neq:=fun e=>hop (.inr e)
  have:io=.bin op x' y':=by
   cases op<;>first|exact absurd rfl h1|exact absurd rfl h2|(cases hc;rfl)
  subst this
  exact good_bin hR hρ hx hy h
theorem good_op (hR:Rel K m base H w) (hρ:Ops K m H.length ρ ρc) {o:Oper} {io:IOp} (hc:cOp K.P K.G o.op=some io) (h:aop ρ io H=some r):
  Good K base m H w ((execOp ρc o).run K.P w) r:=by
 obtain⟨dst,op,type,pos,after,guard⟩:=o
 simp only[] at hc
 have E:∀{X:Sem Next},execOp ρc ⟨dst,op,type,pos,after,guard⟩=X→Good K base m H w (X.run K.P w) r→Good K base m H w ((execOp ρc ⟨dst,op,type,pos,after,guard⟩).run K.P w) r:=by
  intro X e hX;rw[e];exact hX
 cases op with
 |move x=>obtain⟨x',hx,rfl⟩:=map_some' hc;exact good_mv hR hρ hx h
 |assign x=>obtain⟨x',hx,rfl⟩:=map_some' hc;exact good_mv hR hρ hx h
 |pick c a b=>
  simp only[cOp] at hc
  obtain⟨c',hc1,hc⟩:=bind_some hc
  obtain⟨a',ha,hc⟩:=bind_some hc
  obtain⟨b',hb,rfl⟩:=map_some' hc
  exact good_pick hR hρ hc1 ha hb h
 |alloc T=>obtain⟨z,hz,rfl⟩:=map_some' hc;exact good_new hR hz h
 |box T x=>obtain⟨x',hx,rfl⟩:=map_some' hc;exact good_box hR hρ hx h
 |build T ps=>
  simp only[cOp] at hc
  split at hc
  ·rename_i fs hu
   split at hc
   ·rename_i hfs
    obtain⟨z,hz,hc⟩:=bind_some hc
    obtain⟨zc,hzc,hc⟩:=bind_some hc
    obtain⟨qs,hq,rfl⟩:=map_some' hc
    exact good_build_struct hR hρ hu hfs hz hzc hq h
   ·cases hc
  ·rename_i k e hu
   obtain⟨z,hz,hc⟩:=bind_some hc
   obtain⟨zc,hzc,hc⟩:=bind_some hc
   obtain⟨n,hn,hc⟩:=bind_some hc
   obtain⟨qs,hq,rfl⟩:=map_some' hc
   exact good_build_array hR hρ hu hn hz hzc hq h
  ·cases hc
 |buildSlice T len ps=>
  simp only[cOp] at hc
  split at hc
  ·rename_i e hu
   obtain⟨z,hz,hc⟩:=bind_some hc
   obtain⟨zc,hzc,hc⟩:=bind_some hc
   obtain⟨n,hn,hc⟩:=bind_some hc
   split at hc
   ·rename_i hl
    obtain⟨qs,hq,rfl⟩:=map_some' hc
    exact good_bsl hR hρ hu hn hz hzc hl hq h
   ·cases hc
  ·cases hc
 |load T a=>
  simp only[cOp] at hc
  obtain⟨a',ha,hc⟩:=bind_some hc
  obtain⟨n,hn,rfl⟩:=map_some' hc
  exact good_ld hR hρ ha hn h
 |store T a x=>
  simp only[cOp] at hc
  obtain⟨a',ha,hc⟩:=bind_some hc
  obtain⟨x',hx,hc⟩:=bind_some hc
  obtain⟨n,hn,rfl⟩:=map_some' hc
  exact good_st hR hρ ha hx hn h
 |nilCheck x=>obtain⟨x',hx,rfl⟩:=map_some' hc;exact good_nilck hR hρ hx h rfl
 |binOp op T x y T'=>exact good_binOp hR hρ hc h
 |unOp op T x=>obtain⟨x',hx,rfl⟩:=map_some' hc;exact good_un hR hρ hx h
 |convert s d x=>
  simp only[cOp] at hc
  obtain⟨x',hx,hc⟩:=bind_some hc
  split at hc
  ·rename_i k k' hs hd
   cases hc
   exact good_cv hR hρ hs hd hx h
  ·rename_i e hs hd
   split at hc
   ·rename_i he
    cases hc
    exact good_b2s hR hρ hs hd he hx h
   ·cases hc
  ·split at hc<;>cases hc
  ·cases hc
 |makeFunc fn first caps=>
  cases fn with
  |func f=>
   simp only[cOp] at hc
   obtain⟨a,ha,hc⟩:=bind_some hc
   obtain⟨b,hb,rfl⟩:=map_some' hc
   exact good_mkfn hR hρ ha hb h
  |_=>simp[cOp] at hc
 |makeMap T res=>
  cases res with
  |none=>cases hc;exact good_mkmap hR hρ (x:=none) (.inl ⟨rfl,rfl⟩) h
  |some x=>
   simp only[cOp] at hc
   split at hc
   ·rename_i a b hu
    obtain⟨x',hx,rfl⟩:=map_some' hc
    exact good_mkmap hR hρ (x:=some x) (.inr ⟨⟨a,b,hu⟩,x,x',rfl,rfl,hx⟩) h
   ·cases hc
 |insert T a k v=>
  simp only[cOp] at hc
  split at hc
  ·rename_i kt e hu
   obtain⟨kk,hkk,hc⟩:=bind_some hc
   obtain⟨a',ha,hc⟩:=bind_some hc
   obtain⟨k',hk,hc⟩:=bind_some hc
   obtain⟨v',hv,rfl⟩:=map_some' hc
   exact good_ins hR hρ hu hkk ha hk hv h
  ·cases hc
 |mapUpdate T a k v=>
  simp only[cOp] at hc
  split at hc
  ·rename_i kt e hu
   obtain⟨kk,hkk,hc⟩:=bind_some hc
   obtain⟨a',ha,hc⟩:=bind_some hc
   obtain⟨k',hk,hc⟩:=bind_some hc
   obtain⟨v',hv,rfl⟩:=map_some' hc
   exact good_ins hR hρ hu hkk ha hk hv h
  ·cases hc
 |lookup T a k ok=>
  simp only[cOp] at hc
  split at hc
  ·rename_i kt e hu
   obtain⟨kk,hkk,hc⟩:=bind_some hc
   obtain⟨z,hz,hc⟩:=bind_some hc
   obtain⟨a',ha,hc⟩:=bind_some hc
   obtain⟨k',hk,rfl⟩:=map_some' hc
   exact good_look hR hρ hu hkk hz ha hk h
  ·cases hc
 |makeSlice T l c=>
  simp only[cOp] at hc
  split at hc
  ·rename_i e hu
   obtain⟨z,hz,hc⟩:=bind_some hc
   obtain⟨zc,hzc,hc⟩:=bind_some hc
   obtain⟨i,hi,hc⟩:=bind_some hc
   obtain⟨l',hl,hc⟩:=bind_some hc
   obtain⟨c',hc',rfl⟩:=map_some' hc
   exact good_mksl hR hρ hu hi hz hzc hl hc' h
  ·cases hc
 |slice T x lo hi mx=>
  simp only[cOp] at hc
  obtain⟨x',hx,hc⟩:=bind_some hc
  obtain⟨lo',hlo,hc⟩:=bind_some hc
  obtain⟨hi',hhi,hc⟩:=bind_some hc
  obtain⟨mx',hmx,hc⟩:=bind_some hc
  split at hc
  ·rename_i e hu
   obtain⟨n,hn,rfl⟩:=map_some' hc
   exact good_slS hR hρ hu hn hx hlo hhi hmx h
  ·rename_i k e hu
   obtain⟨n,hn,rfl⟩:=map_some' hc
   exact good_slA hR hρ hu hn hx hlo hhi hmx h
  ·rename_i hu
   split at hc
   ·rename_i hm
    cases hc
    have:mx=none:=by
     cases mx with
     |none=>rfl
     |some a=>obtain⟨b,_,rfl⟩:=map_some' hmx;simp at hm
    subst this
    exact good_slT hR hρ hu hx hlo hhi h
   ·cases hc
  ·cases hc
 |fieldAddr T x f=>
  simp only[cOp] at hc
  split at hc
  ·rename_i fs hu
   obtain⟨x',hx,hc⟩:=bind_some hc
   obtain⟨fl,hf,hc⟩:=bind_some hc
   obtain⟨n,hn,hc⟩:=bind_some hc
   split at hc
   ·cases hc
   ·rename_i h0
    cases hc
    exact good_fa hR hρ hu hf hn h0 hx h
  ·cases hc
 |field T x f=>
  simp only[cOp] at hc
  split at hc
  ·rename_i fs hu
   obtain⟨x',hx,hc⟩:=bind_some hc
   obtain⟨fl,hf,hc⟩:=bind_some hc
   obtain⟨n,hn,rfl⟩:=map_some' hc
   exact good_fld hR hρ hu hf hn hx h
  ·cases hc
 |indexAddr T x i=>
  simp only[cOp] at hc
  obtain⟨x',hx,hc⟩:=bind_some hc
  obtain⟨i',hi,hc⟩:=bind_some hc
  split at hc
  ·rename_i e hu
   obtain⟨n,hn,rfl⟩:=map_some' hc
   exact good_iaS hR hρ hu hn hx hi h
  ·rename_i k e hu
   obtain⟨n,hn,rfl⟩:=map_some' hc
   exact good_iaA hR hρ hu hn hx hi h
  ·cases hc
 |index T x i=>
  simp only[cOp] at hc
  obtain⟨x',hx,hc⟩:=bind_some hc
  obtain⟨i',hi,hc⟩:=bind_some hc
  split at hc
  ·rename_i k e hu
   obtain⟨n,hn,hc⟩:=bind_some hc
   obtain⟨rd,hrd,rfl⟩:=map_some' hc
   exact good_ix hR hρ hu hn hrd hx hi h
  ·rename_i hu
   cases hc
   exact good_ixT hR hρ hu hx hi h
  ·cases hc
 |extract x i=>obtain⟨x',hx,rfl⟩:=map_some' hc;exact good_ext hR hρ hx h
 |call c=>
  obtain⟨callee,args,argTypes⟩:=c
  cases callee with
  |value f=>
   simp only[cOp] at hc
   obtain⟨f',hf,hc⟩:=bind_some hc
   obtain⟨a',ha,rfl⟩:=map_some' hc
   exact good_call hR hρ hf ha h
  |builtin b=>
   simp only[cOp] at hc
   refine E (X:=builtin b argTypes type (args.map fun|.const _=>true|_=>false) (args.map ρc)) ?_ (good_builtin hR hρ hc h)
   rfl
  |invoke x y=>simp[cOp] at hc
 |_=>simp[cOp] at hc
end
end Go.Proofs.YtjcgdcadflplcaaDoor.AM
/- AM: two memories that correspond, block by block, come to what corresponds; what does not take part stands. First: values. -/
namespace Go.Proofs.YtjcgdcadflplcaaDoor.AM
open Go
abbrev BJ:=Nat→Nat→Prop
def gJ (G:Nat→Option Nat):BJ:=fun b b'=>b=b'∧∃g,G g=some b
variable {p:BJ}
def AdJ (p:BJ) (a a':Ad):Prop:=p a.1 a'.1∧a.2=a'.2
inductive CJ (p:BJ):Cell→Cell→Prop
 |bool (b:Bool):CJ p (.bool b) (.bool b)
 |int (k:IntKind) (n:Int):CJ p (.int k n) (.int k n)
 |str (s:ByteArray):CJ p (.str s) (.str s)
 |ptrN:CJ p (.ptr none) (.ptr none)
 |ptr {a a':Ad} (h:AdJ p a a'):CJ p (.ptr (some a)) (.ptr (some a'))
 |slN (n c:Nat) (o:Bool):CJ p (.sl none n c o) (.sl none n c o)
 |sl {a a':Ad} (h:AdJ p a a') (n c:Nat) (o:Bool):CJ p (.sl (some a) n c o) (.sl (some a') n c o)
 |mapN:CJ p (.map none) (.map none)
 |map {r r':Nat} (h:p r r'):CJ p (.map (some r)) (.map (some r'))
 |fn (f:FuncId) {a a' b b':List Ad} (h:All2 (AdJ p) a a') (h':All2 (AdJ p) b b'):CJ p (.fn f a b) (.fn f a' b')
 |yld {l l':Nat} (h:p l l'):CJ p (.yld l) (.yld l')
 |nilFn:CJ p .nilFn .nilFn
 |nilIface:CJ p .nilIface .nilIface
inductive PJ (p:BJ):Pc→Pc→Prop
 |c {x x':Cell} (h:CJ p x x'):PJ p (.c x) (.c x')
 |agg {l l':List Cell} (h:All2 (CJ p) l l'):PJ p (.agg l) (.agg l')
inductive VJ (p:BJ):V→V→Prop
 |c {x x':Cell} (h:CJ p x x'):VJ p (.c x) (.c x')
 |agg {l l':List Cell} (h:All2 (CJ p) l l'):VJ p (.agg l) (.agg l')
 |tup {l l':List Pc} (h:All2 (PJ p) l l'):VJ p (.tup l) (.tup l')
def IOp.zs:IOp→List V
 |.new _ z=>[z]
 |.build z _=>[.agg z]
 |.bsl _ _ z _=>[.agg z]
 |.look _ z _ _ _=>[z]
 |.mksl _ _ _ z _ _=>[.agg z]
 |.clr _ z _=>[.agg z]
 |_=>[]
def XJ (p:BJ):X→Prop
 |.t _=>True
 |.k v=>VJ p v v
def OpJ (p:BJ) (o:IOp):Prop:=(∀x∈o.xs,XJ p x)∧∀z∈o.zs,VJ p z z
def CodeJ (p:BJ):IC→Prop
 |.ops l=>∀o∈l,OpJ p o.op
 |.seq a b=>CodeJ p a∧CodeJ p b
 |.cond c a b=>XJ p c∧CodeJ p a∧CodeJ p b
 |.block _ b=>CodeJ p b
 |.loop b=>CodeJ p b
 |.rangeF f _ a b=>XJ p f∧CodeJ p a∧CodeJ p b
 |_=>True
structure RJ (p:BJ) (r r':LRec):Prop where
 t:All2 (VJ p) r.t r'.t
 ps:r.ps=r'.ps
 assign:r.assign=r'.assign
 body:r.body=r'.body
 defers:p r.defers r'.defers
 ca:CodeJ p r.assign
 cb:CodeJ p r.body
inductive KJ (p:BJ):Blk→Blk→Prop
 |cells {cs cs':List Cell} (h:All2 (CJ p) cs cs') (ro:Bool) (g:Option Nat):KJ p (.cells cs ro g) (.cells cs' ro g)
 |dead:KJ p .dead .dead
 |map {es es':List (Cell × V)} (h:All2 (fun x y=>CJ p x.1 y.1∧VJ p x.2 y.2) es es'):KJ p (.map es) (.map es')
 |loop (st:LSt) (pd:Option Ex) {r r':LRec} (h:RJ p r r'):KJ p (.loop st pd r) (.loop st pd r')
 |defd:KJ p .defd .defd
 |shut:KJ p .shut .shut
structure HJ (p:BJ) (H H':Heap):Prop where
 dom:∀b b',p b b'→∃x x',H[b]?=some x∧H'[b']?=some x'∧KJ p x x'
 inj:∀b b' c c',p b b'→p c c'→(b=c↔b'=c')
variable {q:BJ}
theorem AdJ.mono (h:∀b b',p b b'→q b b') {a a':Ad} (i:AdJ p a a'):AdJ q a a':=⟨h _ _ i.1,i.2⟩
theorem CJ.mono (h:∀b b',p b b'→q b b') {x x':Cell} (i:CJ p x x'):CJ q x x':=by
 cases i with
 |bool=>exact .bool _
 |int=>exact .int _ _
 |str=>exact .str _
 |ptrN=>exact .ptrN
 |ptr i=>exact .ptr (i.mono h)
 |slN=>exact .slN _ _ _
 |sl i=>exact .sl (i.mono h) _ _ _
 |mapN=>exact .mapN
 |map i=>exact .map (h _ _ i)
 |fn f i j=>exact .fn f (i.imp fun _ _ k=>k.mono h) (j.imp fun _ _ k=>k.mono h)
 |yld i=>exact .yld (h _ _ i)
 |nilFn=>exact .nilFn
 |nilIface=>exact .nilIface
theorem PJ.mono (h:∀b b',p b b'→q b b') {x x':Pc} (i:PJ p x x'):PJ q x x':=by
 cases i with
 |c i=>exact .c (i.mono h)
 |agg i=>exact .agg (i.imp fun _ _ k=>k.mono h)
theorem VJ.mono (h:∀b b',p b b'→q b b') {x x':V} (i:VJ p x x'):VJ q x x':=by
 cases i with
 |c i=>exact .c (i.mono h)
 |agg i=>exact .agg (i.imp fun _ _ k=>k.mono h)
 |tup i=>exact .tup (i.imp fun _ _ k=>k.mono h)
theorem XJ.mono (h:∀b b',p b b'→q b b') {x:X} (i:XJ p x):XJ q x:=by
 cases x with
 |t=>trivial
 |k v=>exact VJ.mono h i
theorem OpJ.mono (h:∀b b',p b b'→q b b') {o:IOp} (i:OpJ p o):OpJ q o:=⟨fun x hx=>(i.1 x hx).mono h,fun z hz=>(i.2 z hz).mono h⟩
theorem CodeJ.mono (h:∀b b',p b b'→q b b') {c:IC} (i:CodeJ p c):CodeJ q c:=by
 induction c with
 |ops l=>exact fun o ho=>(i o ho).mono h
 |seq a b ha hb=>exact⟨ha i.1,hb i.2⟩
 |cond c a b ha hb=>exact⟨XJ.mono h i.1,ha i.2.1,hb i.2.2⟩
 |block _ b hb=>exact hb i
 |loop b hb=>exact hb i
 |rangeF f _ a b ha hb=>exact⟨XJ.mono h i.1,ha i.2.1,hb i.2.2⟩
 |_=>trivial
theorem RJ.mono (h:∀b b',p b b'→q b b') {x x':LRec} (i:RJ p x x'):RJ q x x':=⟨i.t.imp fun _ _ k=>k.mono h,i.ps,i.assign,i.body,h _ _ i.defers,i.ca.mono h,i.cb.mono h⟩
theorem KJ.mono (h:∀b b',p b b'→q b b') {x x':Blk} (i:KJ p x x'):KJ q x x':=by
 cases i with
 |cells i=>exact .cells (i.imp fun _ _ k=>k.mono h) _ _
 |dead=>exact .dead
 |map i=>exact .map (i.imp fun _ _ k=>⟨k.1.mono h,k.2.mono h⟩)
 |loop st pd i=>exact .loop st pd (i.mono h)
 |defd=>exact .defd
 |shut=>exact .shut
structure Stp (p:BJ) (H H':Heap) (q:BJ) (H1 H1':Heap):Prop where
 le:∀b b',p b b'→q b b'
 new:∀b b',q b b'→p b b'∨∃i,b=H.length+i∧b'=H'.length+i
 cov:∀i,H.length+i<H1.length→q (H.length+i) (H'.length+i)
 len2:H1.length+H'.length=H1'.length+H.length
 hj:HJ q H1 H1'
 len:H.length≤H1.length
 len':H'.length≤H1'.length
 old:∀b,b<H.length→(∀b',¬p b b')→H1[b]?=H[b]?
 old':∀b',b'<H'.length→(∀b,¬p b b')→H1'[b']?=H'[b']?
theorem Stp.refl {H H':Heap} (h:HJ p H H'):Stp p H H' p H H':=⟨fun _ _ h=>h,fun _ _ h=>.inl h,fun i hi=>by omega,by omega,h,Nat.le_refl _,Nat.le_refl _,fun _ _ _=>rfl,fun _ _ _=>rfl⟩
theorem Stp.trans {r:BJ} {H H' H1 H1' H2 H2':Heap} (h:Stp p H H' q H1 H1') (i:Stp q H1 H1' r H2 H2'):Stp p H H' r H2 H2':=by
 have hl:=h.len;have hl':=h.len';have h2:=h.len2;have il:=i.len;have i2:=i.len2
 refine⟨fun b b' k=>i.le _ _ (h.le _ _ k),fun b b' k=>?_,fun j hj=>?_,by omega,i.hj,Nat.le_trans h.len i.len,Nat.le_trans h.len' i.len',fun b hb k=>?_,fun b hb k=>?_⟩
 ·rcases i.new _ _ k with k|⟨j,e,e'⟩
  ·exact h.new _ _ k
  ·exact .inr ⟨b-H.length,by omega,by omega⟩
 ·by_cases hj1:H.length+j<H1.length
  ·exact i.le _ _ (h.cov j hj1)
  ·have:=i.cov (H.length+j-H1.length) (by omega)
   have e1:H1.length+(H.length+j-H1.length)=H.length+j:=by omega
   have e2:H1'.length+(H.length+j-H1.length)=H'.length+j:=by omega
   rwa [e1,e2] at this
 ·rw[i.old b (Nat.lt_of_lt_of_le hb h.len) fun b' j=>?_,h.old b hb k]
  rcases h.new _ _ j with j|⟨x,j,_⟩
  ·exact k _ j
  ·omega
 ·rw[i.old' b (Nat.lt_of_lt_of_le hb h.len') fun b' j=>?_,h.old' b hb k]
  rcases h.new _ _ j with j|⟨x,_,j⟩
  ·exact k _ j
  ·omega
theorem HJ.lt {H H':Heap} (h:HJ p H H') {b b':Nat} (i:p b b'):b<H.length∧b'<H'.length:=by
 obtain⟨x,x',h1,h2,_⟩:=h.dom b b' i
 exact⟨(List.getElem?_eq_some_iff.1 h1).1,(List.getElem?_eq_some_iff.1 h2).1⟩
def addJ (p:BJ) (n n':Nat):BJ:=fun b b'=>p b b'∨(b=n∧b'=n')
theorem addJ_le (p:BJ) (n n':Nat):∀b b',p b b'→addJ p n n' b b':=fun _ _ h=>.inl h
theorem addJ_self (p:BJ) (n n':Nat):addJ p n n' n n':=.inr ⟨rfl,rfl⟩
theorem Stp.push {H H':Heap} (h:HJ p H H') {x x':Blk} (hx:KJ (addJ p H.length H'.length) x x'):Stp p H H' (addJ p H.length H'.length) (H++[x]) (H'++[x']):=by
 refine⟨addJ_le _ _ _,?_,?_,by simp;omega,⟨?_,?_⟩,by simp,by simp,fun b hb _=>List.getElem?_append_left hb,fun b hb _=>List.getElem?_append_left hb⟩
 ·rintro b b' (k|⟨rfl,rfl⟩)
  ·exact .inl k
  ·exact .inr ⟨0,rfl,rfl⟩
 ·intro i hi
  have:i=0:=by simp at hi;omega
  subst this
  exact .inr ⟨rfl,rfl⟩
 ·rintro b b' (k|⟨rfl,rfl⟩)
  ·obtain⟨y,y',h1,h2,h3⟩:=h.dom b b' k
   exact⟨y,y',by rw[List.getElem?_append_left (h.lt k).1];exact h1,by rw[List.getElem?_append_left (h.lt k).2];exact h2,h3.mono (addJ_le _ _ _)⟩
  ·exact⟨x,x',by simp,by simp,hx⟩
 ·rintro b b' c c' (k|⟨rfl,rfl⟩) (j|⟨rfl,rfl⟩)
  ·exact h.inj _ _ _ _ k j
  ·have:=h.lt k;omega
  ·have:=h.lt j;omega
  ·simp
theorem Stp.set {H H':Heap} (h:HJ p H H') {b b':Nat} (hb:p b b') {x x':Blk} (hx:KJ p x x'):Stp p H H' p (H.set b x) (H'.set b' x'):=by
 refine⟨fun _ _ h=>h,fun _ _ h=>.inl h,fun i hi=>by simp at hi;omega,by simp;omega,⟨fun c c' k=>?_,h.inj⟩,by simp,by simp,fun c hc k=>List.getElem?_set_ne (by rintro rfl;exact k _ hb),fun c hc k=>List.getElem?_set_ne (by rintro rfl;exact k _ hb)⟩
 have hl:=h.lt hb
 by_cases e:b=c
 ·subst e
  have:=(h.inj _ _ _ _ hb k).1 rfl
  subst this
  exact⟨x,x',by simp[hl.1],by simp[hl.2],hx⟩
 ·have e':b'≠c':=fun e'=>e ((h.inj _ _ _ _ hb k).2 e')
  obtain⟨y,y',h1,h2,h3⟩:=h.dom c c' k
  exact⟨y,y',by rw[List.getElem?_set_ne e];exact h1,by rw[List.getElem?_set_ne e'];exact h2,h3⟩
def OJ {α β:Type} (R:α→β→Prop):Option α→Option β→Prop
 |none,none=>True
 |some a,some b=>R a b
 |_,_=>False
section
variable {α β γ δ:Type} {R S:α→β→Prop}
theorem OJ.imp {o:Option α} {o':Option β} (h:OJ R o o') (i:∀a b,R a b→S a b):OJ S o o':=by
 cases o<;>cases o'<;>simp_all [OJ]
theorem OJ.bind {T:γ→δ→Prop} {o:Option α} {o':Option β} {f:α→Option γ} {g:β→Option δ} (h:OJ R o o') (i:∀a b,R a b→OJ T (f a) (g b)):OJ T (o.bind f) (o'.bind g):=by
 cases o<;>cases o'<;>simp_all [OJ]
theorem OJ.map {T:γ→δ→Prop} {o:Option α} {o':Option β} {f:α→γ} {g:β→δ} (h:OJ R o o') (i:∀a b,R a b→T (f a) (g b)):OJ T (o.map f) (o'.map g):=by
 cases o<;>cases o'<;>simp_all [OJ]
theorem OJ.got {o:Option α} {o':Option β} (h:OJ R o o') {a:α} (e:o=some a):∃b,o'=some b∧R a b:=by
 subst e;cases o'<;>simp_all [OJ]
theorem OJ.got' {o:Option α} {o':Option β} (h:OJ R o o') {b:β} (e:o'=some b):∃a,o=some a∧R a b:=by
 subst e;cases o<;>simp_all [OJ]
theorem OJ.ite {c:Prop} [Decidable c] {o₁ o₂:Option α} {o₁' o₂':Option β} (h:c→OJ R o₁ o₁') (i:¬c→OJ R o₂ o₂'):OJ R (if c then o₁ else o₂) (if c then o₁' else o₂'):=by
 by_cases hc:c
 ·rw[if_pos hc,if_pos hc];exact h hc
 ·rw[if_neg hc,if_neg hc];exact i hc
theorem OJ.get {l:List α} {l':List β} (h:All2 R l l') (i:Nat):OJ R l[i]? l'[i]?:=by
 cases e:l[i]? with
 |none=>rw[h.get_none e];trivial
 |some a=>obtain⟨b,e',hr⟩:=h.get e;rw[e'];exact hr
theorem OJ.refl {o:Option α} {T:α→α→Prop} (h:∀a,T a a):OJ T o o:=by cases o<;>simp[OJ,h]
theorem OJ.of_eq {o o':Option α} (h:o=o'):OJ (fun a b=>a=b) o o':=by subst h;cases o<;>simp[OJ]
theorem OJ.none:OJ R (none:Option α) (none:Option β):=trivial
end
theorem All2.refl {α:Type} {R:α→α→Prop} (h:∀a,R a a):∀l:List α,All2 R l l
 |[]=>.nil
 |a :: l=>.cons (h a) (All2.refl h l)
theorem All2.eq {α:Type} {l l':List α} (h:All2 (fun a b=>a=b) l l'):l=l':=by
 induction h with
 |nil=>rfl
 |cons h _ ih=>rw[h,ih]
theorem All2.same {α:Type} {R:α→α→Prop} {l:List α} (h:∀a∈l,R a a):All2 R l l:=by
 induction l with
 |nil=>exact .nil
 |cons a l ih=>exact .cons (h a (by simp)) (ih fun b hb=>h b (by simp[hb]))
theorem All2.zip {α β γ:Type} {R:α→β→Prop} {l:List α} {l':List β} (h:All2 R l l'):∀ps:List γ,All2 (fun x y=>x.1=y.1∧R x.2 y.2) (ps.zip l) (ps.zip l'):=by
 induction h with
 |nil=>intro ps;cases ps<;>exact .nil
 |cons h _ ih=>
  intro ps
  cases ps with
  |nil=>exact .nil
  |cons p ps=>exact .cons ⟨rfl,h⟩ (ih ps)
theorem All2.mapM {α β γ δ:Type} {R:α→β→Prop} {T:γ→δ→Prop} {f:α→Option γ} {g:β→Option δ} {l:List α} {l':List β} (h:All2 R l l') (i:∀a b,R a b→OJ T (f a) (g b)):OJ (All2 T) (l.mapM f) (l'.mapM g):=by
 induction h with
 |nil=>exact All2.nil
 |cons h _ ih=>
  simp only[List.mapM_cons,Option.bind_eq_bind,Option.pure_def]
  exact(i _ _ h).bind fun a b hab=>ih.bind fun l l' hl=>All2.cons hab hl
theorem All2.join {α β:Type} {R:α→β→Prop} {l:List (List α)} {l':List (List β)} (h:All2 (All2 R) l l'):All2 R l.flatten l'.flatten:=by
 induction h with
 |nil=>exact .nil
 |cons h _ ih=>exact h.append ih
end Go.Proofs.YtjcgdcadflplcaaDoor.AM
/- AM: what corresponds, operation by operation. -/
namespace Go.Proofs.YtjcgdcadflplcaaDoor.AM
open Go
variable {p:BJ} {H H':Heap}
theorem AdJ.fun(h:∀b b' c c',p b b'→p c c'→(b=c↔b'=c')) {a x y:Ad} (i:AdJ p a x) (j:AdJ p a y):x=y:=by
 have:=(h _ _ _ _ i.1 j.1).1 rfl
 exact Prod.ext this (i.2.symm.trans j.2)
theorem AdJ.inv (h:∀b b' c c',p b b'→p c c'→(b=c↔b'=c')) {a b x:Ad} (i:AdJ p a x) (j:AdJ p b x):a=b:=by
 have:=(h _ _ _ _ i.1 j.1).2 rfl
 exact Prod.ext this (i.2.trans j.2.symm)
theorem All2.fun' {α β:Type} {R:α→β→Prop} (h:∀a x y,R a x→R a y→x=y):∀{l:List α} {r s:List β},All2 R l r→All2 R l s→r=s
 |[],_,_,.nil,.nil=>rfl
 |_ :: _,_,_,.cons a b,.cons c d=>by rw[h _ _ _ a c,All2.fun' h b d]
theorem All2.inv' {α β:Type} {R:α→β→Prop} (h:∀a b x,R a x→R b x→a=b):∀{l m:List α} {r:List β},All2 R l r→All2 R m r→l=m
 |_,_,[],.nil,.nil=>rfl
 |_,_,_ :: _,.cons a b,.cons c d=>by rw[h _ _ _ a c,All2.inv' h b d]
theorem CJ.fun(h:∀b b' c c',p b b'→p c c'→(b=c↔b'=c')) {a x y:Cell} (i:CJ p a x) (j:CJ p a y):x=y:=by
 cases i with
 |bool=>cases j;rfl
 |int=>cases j;rfl
 |str=>cases j;rfl
 |ptrN=>cases j;rfl
 |slN=>cases j;rfl
 |mapN=>cases j;rfl
 |nilFn=>cases j;rfl
 |nilIface=>cases j;rfl
 |ptr i=>cases j with
  |ptr j=>rw[AdJ.fun h i j]
 |sl i=>cases j with
  |sl j=>rw[AdJ.fun h i j]
 |map i=>cases j with
  |map j=>rw[(h _ _ _ _ i j).1 rfl]
 |yld i=>cases j with
  |yld j=>rw[(h _ _ _ _ i j).1 rfl]
 |fn f i i2=>cases j with
  |fn _ j j2=>rw[All2.fun' (R:=AdJ p) (fun _ _ _=>AdJ.fun h) i j,All2.fun' (R:=AdJ p) (fun _ _ _=>AdJ.fun h) i2 j2]
theorem PJ.fun(h:∀b b' c c',p b b'→p c c'→(b=c↔b'=c')) {a x y:Pc} (i:PJ p a x) (j:PJ p a y):x=y:=by
 cases i with
 |c i=>cases j with
  |c j=>rw[CJ.fun h i j]
 |agg i=>cases j with
  |agg j=>rw[All2.fun' (R:=CJ p) (fun _ _ _=>CJ.fun h) i j]
theorem VJ.fun(h:∀b b' c c',p b b'→p c c'→(b=c↔b'=c')) {a x y:V} (i:VJ p a x) (j:VJ p a y):x=y:=by
 cases i with
 |c i=>cases j with
  |c j=>rw[CJ.fun h i j]
 |agg i=>cases j with
  |agg j=>rw[All2.fun' (R:=CJ p) (fun _ _ _=>CJ.fun h) i j]
 |tup i=>cases j with
  |tup j=>rw[All2.fun' (R:=PJ p) (fun _ _ _=>PJ.fun h) i j]
theorem CJ.inv (h:∀b b' c c',p b b'→p c c'→(b=c↔b'=c')) {a b x:Cell} (i:CJ p a x) (j:CJ p b x):a=b:=by
 cases i with
 |bool=>cases j;rfl
 |int=>cases j;rfl
 |str=>cases j;rfl
 |ptrN=>cases j;rfl
 |slN=>cases j;rfl
 |mapN=>cases j;rfl
 |nilFn=>cases j;rfl
 |nilIface=>cases j;rfl
 |ptr i=>cases j with
  |ptr j=>rw[AdJ.inv h i j]
 |sl i=>cases j with
  |sl j=>rw[AdJ.inv h i j]
 |map i=>cases j with
  |map j=>rw[(h _ _ _ _ i j).2 rfl]
 |yld i=>cases j with
  |yld j=>rw[(h _ _ _ _ i j).2 rfl]
 |fn f i i2=>cases j with
  |fn _ j j2=>rw[All2.inv' (R:=AdJ p) (fun _ _ _=>AdJ.inv h) i j,All2.inv' (R:=AdJ p) (fun _ _ _=>AdJ.inv h) i2 j2]
theorem PJ.inv (h:∀b b' c c',p b b'→p c c'→(b=c↔b'=c')) {a b x:Pc} (i:PJ p a x) (j:PJ p b x):a=b:=by
 cases i with
 |c i=>cases j with
  |c j=>rw[CJ.inv h i j]
 |agg i=>cases j with
  |agg j=>rw[All2.inv' (R:=CJ p) (fun _ _ _=>CJ.inv h) i j]
theorem VJ.inv (h:∀b b' c c',p b b'→p c c'→(b=c↔b'=c')) {a b x:V} (i:VJ p a x) (j:VJ p b x):a=b:=by
 cases i with
 |c i=>cases j with
  |c j=>rw[CJ.inv h i j]
 |agg i=>cases j with
  |agg j=>rw[All2.inv' (R:=CJ p) (fun _ _ _=>CJ.inv h) i j]
 |tup i=>cases j with
  |tup j=>rw[All2.inv' (R:=PJ p) (fun _ _ _=>PJ.inv h) i j]
theorem cellsJ (h:HJ p H H') {b b':Nat} (hb:p b b'):OJ (All2 (CJ p)) (H.cells b) (H'.cells b'):=by
 obtain⟨x,x',h1,h2,h3⟩:=h.dom b b' hb
 unfold Heap.cells
 rw[h1,h2]
 cases h3 with
 |cells h=>exact h
 |_=>trivial
theorem ldJ (h:HJ p H H') {a a':Ad} (ha:AdJ p a a'):OJ (CJ p) (H.ld a) (H'.ld a'):=by
 unfold Heap.ld
 refine(cellsJ h ha.1).bind fun cs cs' hc=>?_
 rw[←ha.2];exact OJ.get hc _
theorem subJ {cs cs':List Cell} (h:All2 (CJ p) cs cs') (o n:Nat):OJ (All2 (CJ p)) (sub cs o n) (sub cs' o n):=by
 unfold sub
 rw[h.length]
 exact OJ.ite (fun _=>(h.drop o).take n) fun _=>trivial
theorem ldnJ (h:HJ p H H') {a a':Ad} (ha:AdJ p a a') (n:Nat):OJ (All2 (CJ p)) (H.ldn a n) (H'.ldn a' n):=by
 unfold Heap.ldn
 refine(cellsJ h ha.1).bind fun cs cs' hc=>?_
 rw[←ha.2];exact subJ hc _ _
theorem rdJ (h:HJ p H H') {a a':Ad} (ha:AdJ p a a') (n:Option Nat):OJ (VJ p) (H.rd a n) (H'.rd a' n):=by
 cases n with
 |none=>exact(ldJ h ha).map fun _ _ k=>.c k
 |some n=>exact(ldnJ h ha n).map fun _ _ k=>.agg k
theorem prdJ {cs cs':List Cell} (h:All2 (CJ p) cs cs') (o:Nat) (n:Option Nat):OJ (VJ p) (prd cs o n) (prd cs' o n):=by
 cases n with
 |none=>exact(OJ.get h o).map fun _ _ k=>.c k
 |some n=>exact(subJ h o n).map fun _ _ k=>.agg k
theorem putJ:∀{xs xs':List Cell},All2 (CJ p) xs xs'→∀{cs cs':List Cell} (o:Nat),All2 (CJ p) cs cs'→All2 (CJ p) (put cs o xs) (put cs' o xs'):=by
 intro xs xs' h
 induction h with
 |nil=>intro cs cs' o k;exact k
 |cons h _ ih=>intro cs cs' o k;exact ih (o+1) (k.set h)
theorem stJ (h:HJ p H H') {a a':Ad} (ha:AdJ p a a') {xs xs':List Cell} (hx:All2 (CJ p) xs xs'):OJ (fun K K'=>Stp p H H' p K K') (H.st a xs) (H'.st a' xs'):=by
 obtain⟨x,x',h1,h2,h3⟩:=h.dom _ _ ha.1
 unfold Heap.st
 rw[h1,h2]
 cases h3 with
 |cells hc ro g=>
  cases ro with
  |false=>
   simp only
   rw[←ha.2,←hx.length,←hc.length]
   exact OJ.ite (fun _=>Stp.set h ha.1 (.cells (putJ hx _ hc) _ _)) fun _=>trivial
  |true=>trivial
 |_=>trivial
theorem VJ.cells {v v':V} (h:VJ p v v'):OJ (All2 (CJ p)) v.cells v'.cells:=by
 cases h with
 |c h=>exact .cons h .nil
 |agg h=>exact h
 |tup h=>trivial
theorem VJ.pc {v v':V} (h:VJ p v v'):OJ (PJ p) v.pc v'.pc:=by
 cases h with
 |c h=>exact .c h
 |agg h=>exact .agg h
 |tup h=>trivial
theorem PJ.v {x x':Pc} (h:PJ p x x'):VJ p x.v x'.v:=by
 cases h with
 |c h=>exact .c h
 |agg h=>exact .agg h
theorem fillJ:∀{l l':List (Nat × Nat × V)},All2 (fun x y=>x.1=y.1∧x.2.1=y.2.1∧VJ p x.2.2 y.2.2) l l'→∀{cs cs':List Cell},All2 (CJ p) cs cs'→OJ (All2 (CJ p)) (fillB cs l) (fillB cs' l'):=by
 intro l l' h
 induction h with
 |nil=>intro cs cs' k;exact k
 |@cons x y l l' h _ ih=>
  intro cs cs' k
  obtain⟨o,n,v⟩:=x
  obtain⟨o',n',v'⟩:=y
  obtain⟨rfl,rfl,hv⟩:=h
  have hc:=hv.cells
  simp only[fillB]
  cases e:v.cells with
  |none=>cases e':v'.cells with
   |none=>trivial
   |some _=>rw[e,e'] at hc;exact hc.elim
  |some xs=>cases e':v'.cells with
   |none=>rw[e,e'] at hc;exact hc.elim
   |some xs'=>
    rw[e,e'] at hc
    have hc':All2 (CJ p) xs xs':=hc
    simp only
    rw[hc'.length,k.length]
    exact OJ.ite (fun _=>ih (putJ hc' _ k)) fun _=>trivial
theorem binIJ (op:BinOp) (k:IntKind) (x:Int) (k':IntKind) (y:Int):OJ (CJ p) (binI op k x k' y) (binI op k x k' y):=by
 cases op<;>simp only[binI]<;>(repeat' split)<;>first|trivial|exact .int _ _|exact .bool _
theorem CJ.bin {op:BinOp} {x x' y y':Cell} (h:CJ p x x') (k:CJ p y y'):OJ (CJ p) (binC op x y) (binC op x' y'):=by
 cases h<;>cases k<;>first|trivial|exact binIJ _ _ _ _ _|(cases op<;>simp only[binC]<;>(repeat' split)<;>first|trivial|exact .bool _|exact .str _)
theorem CJ.eq {e:EK} {x x' y y':Cell} (h:CJ p x x') (k:CJ p y y'):eqC e x y=eqC e x' y':=by
 cases h<;>cases k<;>cases e<;>rfl
theorem eqCsJ:∀(L:List KK) {x x' y y':List Cell},All2 (CJ p) x x'→All2 (CJ p) y y'→eqCs L x y=eqCs L x' y':=by
 intro L
 induction L with
 |nil=>intro x x' y y' h k;cases h<;>cases k<;>rfl
 |cons e L ih=>
  intro x x' y y' h k
  cases h with
  |nil=>cases k<;>cases e<;>rfl
  |cons h h2=>
   cases k with
   |nil=>cases e<;>(cases h<;>rfl)
   |cons k k2=>
    have:=ih h2 k2
    cases e<;>cases h<;>cases k<;>simp only[eqCs,this]
theorem CJ.un {op:UnOp} {x x':Cell} (h:CJ p x x'):OJ (CJ p) (unC op x) (unC op x'):=by
 cases h<;>first|trivial|skip
 ·cases op<;>first|trivial|exact .bool _
 ·cases op<;>first|trivial|exact .int _ _
theorem VJ.asI {v v':V} (h:VJ p v v'):asI v=asI v':=by
 cases h with
 |c h=>cases h<;>rfl
 |_=>rfl
theorem bndJ {v v':Option V} (h:OJ (VJ p) v v') (d t:Nat):bnd v d t=bnd v' d t:=by
 cases v with
 |none=>cases v' with
  |none=>rfl
  |some _=>exact h.elim
 |some v=>cases v' with
  |none=>exact h.elim
  |some v'=>
   have h':VJ p v v':=h
   simp only[bnd,h'.asI]
theorem bndsJ {a a' b b' c c':Option V} (ha:OJ (VJ p) a a') (hb:OJ (VJ p) b b') (hc:OJ (VJ p) c c') (n m:Nat):bnds n m a b c=bnds n m a' b' c':=by
 unfold bnds
 simp only[bndJ ha,bndJ hb,bndJ hc]
 cases b<;>cases b'<;>cases c<;>cases c'<;>first|rfl|exact hb.elim|exact hc.elim
theorem VJ.adOf {v v':V} (h:VJ p v v'):OJ (AdJ p) (adOf v) (adOf v'):=by
 cases h with
 |c h=>cases h<;>first|trivial|assumption
 |_=>trivial
theorem adsJ {l l':List V} (h:All2 (VJ p) l l'):OJ (All2 (AdJ p)) (adsOf l) (adsOf l'):=h.mapM fun _ _ k=>k.adOf
theorem AdJ.add {a a':Ad} (h:AdJ p a a') (n:Nat):AdJ p (addA a n) (addA a' n):=⟨h.1,by simp[addA,h.2]⟩
theorem byteCellsJ (s:ByteArray):All2 (CJ p) (byteCells s) (byteCells s):=All2.same fun a ha=>by
 obtain⟨b,_,rfl⟩:=List.mem_map.1 ha
 exact .int _ _
theorem bytesJ:∀{l l':List Cell},All2 (CJ p) l l'→bytesOf l=bytesOf l':=by
 intro l l' h
 induction h with
 |nil=>rfl
 |cons h _ ih=>cases h<;>first|rfl|skip
               rename_i k n;cases k<;>simp only[bytesOf,ih]
theorem b2sJ (h:HJ p H H') {v v':V} (hv:VJ p v v'):OJ (VJ p) (b2sO H v) (b2sO H' v'):=by
 cases hv with
 |c hc=>
  cases hc with
  |slN n c o=>cases n<;>first|trivial|exact .c (.str _)
  |sl ha n c o=>
   have hl:=ldnJ h ha n
   exact(hl.bind (T:=fun a b=>a=b) fun l l' k=>OJ.of_eq (bytesJ k)).map fun _ _ k=>by subst k;exact .c (.str _)
  |_=>trivial
 |_=>trivial
theorem rdKJ (h:HJ p H H') (n:Option (Option Nat)) {v v':V} (hv:VJ p v v'):OJ (VJ p) (rdK H n v) (rdK H' n v'):=by
 cases n with
 |none=>exact b2sJ h hv
 |some n=>exact hv.adOf.bind fun a a' ha=>rdJ h ha n
theorem CJ.ok {kk:KK} {k k':Cell} (h:CJ p k k'):kk.ok k=kk.ok k':=by cases h<;>cases kk<;>rfl
theorem findJ {k k':Cell} (hk:CJ p k k'):∀{es es':List (Cell × V)},All2 (fun x y=>CJ p x.1 y.1∧VJ p x.2 y.2) es es'→OJ (OJ (VJ p)) (findE k es) (findE k' es'):=by
 intro es es' h
 induction h with
 |nil=>trivial
 |@cons x y l l' h _ ih=>
  obtain⟨c,v⟩:=x
  obtain⟨c',v'⟩:=y
  obtain⟨h1,h2⟩:=h
  cases hk<;>cases h1<;>first|trivial|(simp only[findE];first|exact OJ.ite (fun _=>h2) (fun _=>ih)|exact OJ.ite (fun _=>OJ.ite (fun _=>h2) (fun _=>ih)) (fun _=>trivial))
theorem maxJ {x x':V} {l l':List V} (f:Int→Int→Int) (h:VJ p x x') (k:All2 (VJ p) l l'):OJ (VJ p) (maxI x l f) (maxI x' l' f):=by
 cases h with
 |c h=>
  cases h<;>first|trivial|skip
  rename_i kd n
  simp only[maxI]
  have e:∀(g:Int→V→Option Int),(∀m y y',VJ p y y'→g m y=g m y')→∀m,l.foldlM g m=l'.foldlM g m:=by
   intro g hg
   induction k with
   |nil=>intro m;rfl
   |cons h _ ih=>
    intro m
    simp only[List.foldlM_cons,hg m _ _ h]
    cases g m _ with
    |none=>rfl
    |some m'=>exact ih m'
  rw[e _ (by intro m y y' h;cases h with
   |c h=>cases h<;>rfl
   |_=>rfl)]
  exact(OJ.of_eq rfl).map fun a b hab=>by subst hab;exact .c (.int _ _)
 |_=>trivial
inductive ANJ (p:BJ):AN→AN→Prop
 |v {x x':V} (h:VJ p x x'):ANJ p (.v x) (.v x')
 |call (f:FuncId) {a a':List V} (h:All2 (VJ p) a a'):ANJ p (.call f a) (.call f a')
 |yld {l l':Nat} (h:p l l') {a a':List V} (h':All2 (VJ p) a a'):ANJ p (.yld l a) (.yld l' a')
def QJ (p:BJ) (H H':Heap) (x x':AN × Heap):Prop:=∃q,Stp p H H' q x.2 x'.2∧ANJ q x.1 x'.1
theorem QJ.same (h:HJ p H H') {o o':Option V} (hv:OJ (VJ p) o o'):OJ (QJ p H H') (o.map fun v=>(.v v,H)) (o'.map fun v=>(.v v,H')):=hv.map fun _ _ k=>⟨p,Stp.refl h,.v k⟩
theorem slNew {n n':Nat} (k c:Nat) (o:Bool):VJ (addJ p n n') (.c (.sl (some (n,0)) k c o)) (.c (.sl (some (n',0)) k c o)):=.c (.sl (show AdJ (addJ p n n') (n,0) (n',0) from ⟨addJ_self _ _ _,rfl⟩) _ _ _)
theorem ptrNew {n n':Nat}:VJ (addJ p n n') (.c (.ptr (some (n,0)))) (.c (.ptr (some (n',0)))):=.c (.ptr (show AdJ (addJ p n n') (n,0) (n',0) from ⟨addJ_self _ _ _,rfl⟩))
theorem pushQ (h:HJ p H H') {cs cs':List Cell} (hc:All2 (CJ p) cs cs') (g:Option Nat) {f:Nat→V} (hf:∀n n',VJ (addJ p n n') (f n) (f n')):
  QJ p H H' (.v (f H.length),H++[.cells cs false g]) (.v (f H'.length),H'++[.cells cs' false g]):=
 ⟨_,Stp.push h (.cells (hc.imp fun _ _ k=>k.mono (addJ_le _ _ _)) _ _),.v (hf _ _)⟩
theorem appJ (h:HJ p H H') {sz by_:Nat} {a a':Option Ad} (ha:OJ (AdJ p) a a') {n c:Nat} {opn:Bool} {k:Nat} {new new':List Cell} (hn:All2 (CJ p) new new'):OJ (QJ p H H') (appH H sz by_ a n c opn k new) (appH H' sz by_ a' n c opn k new'):=by
 unfold appH
 refine OJ.ite (fun _=>?_) fun _=>OJ.ite (fun _=>trivial) fun _=>?_
 ·cases a with
  |none=>cases a' with
   |some _=>exact ha.elim
   |none=>exact OJ.ite (fun _=>⟨p,Stp.refl h,.v (.c (.slN _ _ _))⟩) fun _=>trivial
  |some a=>cases a' with
   |none=>exact ha.elim
   |some a'=>
    refine OJ.ite (fun _=>⟨p,Stp.refl h,.v (.c (.sl ha _ _ _))⟩) fun _=>?_
    exact(stJ h (AdJ.add ha _) hn).map fun K K' k=>⟨p,k,.v (.c (.sl ha _ _ _))⟩
 ·cases a with
  |none=>cases a' with
   |some _=>exact ha.elim
   |none=>exact OJ.ite (fun _=>pushQ h hn _ (f:=fun n=>.c (.sl (some (n,0)) k k true)) fun _ _=>slNew _ _ _) fun _=>trivial
  |some a=>cases a' with
   |none=>exact ha.elim
   |some a'=>
    refine(ldnJ h ha _).bind fun old old' ho=>?_
    have ha':AdJ p a a':=ha
    cases opn with
    |false=>exact pushQ h (ho.append hn) _ (f:=fun m=>.c (.sl (some (m,0)) (n+k) (n+k) true)) fun _ _=>slNew _ _ _
    |true=>
     simp only[if_true]
     obtain⟨x,x',h1,h2,h3⟩:=h.dom _ _ ha'.1
     rw[h1,h2]
     cases h3 with
     |cells hc ro g=>
      cases ro with
      |true=>trivial
      |false=>
       cases g with
       |none=>trivial
       |some g=>
        simp only
        rw[←ha'.2,←hc.length]
        refine OJ.ite (fun _=>?_) fun _=>trivial
        have s1:=Stp.set h ha'.1 (.dead:KJ p .dead .dead)
        obtain⟨q,s2,hv⟩:=pushQ s1.hj (ho.append hn) (some sz) (f:=fun m=>.c (.sl (some (m,0)) (n+k) (n+k) true)) fun _ _=>slNew _ _ _
        have e1:(H.set a.1 .dead).length=H.length:=by simp
        have e2:(H'.set a'.1 .dead).length=H'.length:=by simp
        rw[e1,e2] at hv
        exact⟨q,s1.trans s2,hv⟩
     |_=>trivial
end Go.Proofs.YtjcgdcadflplcaaDoor.AM
/- AM: what corresponds, all operations. -/
namespace Go.Proofs.YtjcgdcadflplcaaDoor.AM
open Go
variable {p:BJ} {H H':Heap}
theorem aggJ {z:List Cell} (h:VJ p (.agg z) (.agg z)):All2 (CJ p) z z:=by cases h;assumption
theorem growsJ {z:List Cell} (h:All2 (CJ p) z z) (n:Nat):All2 (CJ p) (grows z n) (grows z n):=(All2.replicate h n).join
theorem optJ {ρ ρ':X→V} {x:Option X} (h:∀y∈x.toList,VJ p (ρ y) (ρ' y)):OJ (VJ p) (x.map ρ) (x.map ρ'):=by
 cases x with
 |none=>trivial
 |some y=>exact h y (by simp)
theorem listJ {ρ ρ':X→V}:∀{l:List X},(∀y∈l,VJ p (ρ y) (ρ' y))→All2 (VJ p) (l.map ρ) (l.map ρ')
 |[],_=>.nil
 |y :: l,h=>.cons (h y (by simp)) (listJ fun z hz=>h z (by simp[hz]))
theorem psJ {ρ ρ':X→V}:∀{ps:List (Nat × Nat × X)},(∀y∈ps.map (fun p=>p.2.2),VJ p (ρ y) (ρ' y))→All2 (fun x y=>x.1=y.1∧x.2.1=y.2.1∧VJ p x.2.2 y.2.2) (ps.map fun p=>(p.1,p.2.1,ρ p.2.2)) (ps.map fun p=>(p.1,p.2.1,ρ' p.2.2))
 |[],_=>.nil
 |y :: l,h=>.cons ⟨rfl,rfl,h _ (by simp)⟩ (psJ fun z hz=>h z (by simp only[List.map_cons,List.mem_cons];exact .inr hz))
theorem aopJ (h:HJ p H H') {ρ ρ':X→V} {op:IOp} (hx:∀x∈op.xs,VJ p (ρ x) (ρ' x)) (hz:∀z∈op.zs,VJ p z z):OJ (QJ p H H') (aop ρ op H) (aop ρ' op H'):=by
 have same:∀{o o':Option V},OJ (VJ p) o o'→OJ (QJ p H H') (o.map fun v=>(.v v,H)) (o'.map fun v=>(.v v,H')):=fun hv=>QJ.same h hv
 cases op with
 |mv x=>exact⟨p,Stp.refl h,.v (hx x (by simp[IOp.xs]))⟩
 |pick c a b=>
  have hc:=hx c (by simp[IOp.xs]);have ha:=hx a (by simp[IOp.xs]);have hb:=hx b (by simp[IOp.xs])
  simp only[aop]
  revert hc
  generalize ρ c=vc
  generalize ρ' c=vc'
  intro hc
  cases hc with
  |c hc=>cases hc<;>first|trivial|skip
         rename_i t;cases t
         ·exact⟨p,Stp.refl h,.v hb⟩
         ·exact⟨p,Stp.refl h,.v ha⟩
  |_=>trivial
 |bad=>trivial
 |box T x=>exact(hx x (by simp[IOp.xs])).cells.map fun cs cs' hc=>pushQ h hc none (f:=fun n=>.c (.ptr (some (n,0)))) fun _ _=>ptrNew
 |new T z=>exact(hz z (by simp[IOp.zs])).cells.map fun cs cs' hc=>pushQ h hc none (f:=fun n=>.c (.ptr (some (n,0)))) fun _ _=>ptrNew
 |build z ps=>
  have:=fillJ (psJ (ρ:=ρ) (ρ':=ρ') (ps:=ps) hx) (aggJ (hz (.agg z) (by simp[IOp.zs])))
  simp only[aop]
  exact this.map fun cs cs' hc=>⟨p,Stp.refl h,.v (.agg hc)⟩
 |bsl T n z ps=>
  have:=fillJ (psJ (ρ:=ρ) (ρ':=ρ') (ps:=ps) hx) (aggJ (hz (.agg z) (by simp[IOp.zs])))
  simp only[aop]
  exact this.map fun cs cs' hc=>pushQ h hc none (f:=fun m=>.c (.sl (some (m,0)) n n false)) fun _ _=>slNew _ _ _
 |ld n x=>
  simp only[aop]
  exact(hx x (by simp[IOp.xs])).adOf.bind fun a a' ha=>(rdJ h ha n).map fun v v' hv=>⟨p,Stp.refl h,.v hv⟩
 |st n a x=>
  simp only[aop]
  refine(hx a (by simp[IOp.xs])).adOf.bind fun a a' ha=>(hx x (by simp[IOp.xs])).cells.bind fun cs cs' hc=>?_
  rw[hc.length]
  exact OJ.ite (fun _=>(stJ h ha hc).map fun K K' k=>⟨p,k,.v (.tup .nil)⟩) fun _=>trivial
 |nilck x=>
  simp only[aop]
  have hv:=hx x (by simp[IOp.xs])
  revert hv
  generalize ρ x=v
  generalize ρ' x=v'
  intro hv
  cases hv with
  |c hc=>cases hc<;>first|trivial|exact⟨p,Stp.refl h,.v (.c (.ptr (by assumption)))⟩|exact⟨p,Stp.refl h,.v (.c (.fn _ (by assumption) (by assumption)))⟩
  |_=>trivial
 |bin op x y=>
  have ha:=hx x (by simp[IOp.xs]);have hb:=hx y (by simp[IOp.xs])
  simp only[aop]
  revert ha hb
  generalize ρ x=a
  generalize ρ' x=a'
  generalize ρ y=b
  generalize ρ' y=b'
  intro ha hb
  cases ha<;>cases hb<;>first|trivial|exact(CJ.bin (by assumption) (by assumption)).map fun _ _ k=>⟨p,Stp.refl h,.v (.c k)⟩
 |eq k n x y=>
  have ha:=hx x (by simp[IOp.xs]);have hb:=hx y (by simp[IOp.xs])
  simp only[aop]
  revert ha hb
  generalize ρ x=a
  generalize ρ' x=a'
  generalize ρ y=b
  generalize ρ' y=b'
  intro ha hb
  cases ha<;>cases hb<;>first|trivial|exact(OJ.of_eq (CJ.eq (by assumption) (by assumption))).map fun _ _ k=>by subst k;exact⟨p,Stp.refl h,.v (.c (.bool _))⟩
 |eqagg L n x y=>
  have ha:=hx x (by simp[IOp.xs]);have hb:=hx y (by simp[IOp.xs])
  simp only[aop]
  revert ha hb
  generalize ρ x=a
  generalize ρ' x=a'
  generalize ρ y=b
  generalize ρ' y=b'
  intro ha hb
  cases ha<;>cases hb<;>first|trivial|skip
  rename_i ha _ _ hb
  simp only
  rw[ha.length,hb.length]
  exact OJ.ite (fun _=>(OJ.of_eq (eqCsJ L ha hb)).map fun _ _ k=>by subst k;exact⟨p,Stp.refl h,.v (.c (.bool _))⟩) fun _=>trivial
 |un op x=>
  have ha:=hx x (by simp[IOp.xs])
  simp only[aop]
  revert ha
  generalize ρ x=a
  generalize ρ' x=a'
  intro ha
  cases ha<;>first|trivial|exact(CJ.un (by assumption)).map fun _ _ k=>⟨p,Stp.refl h,.v (.c k)⟩
 |cv k x=>
  have ha:=hx x (by simp[IOp.xs])
  simp only[aop]
  revert ha
  generalize ρ x=a
  generalize ρ' x=a'
  intro ha
  cases ha with
  |c hc=>cases hc<;>first|trivial|exact⟨p,Stp.refl h,.v (.c (.int _ _))⟩
  |_=>trivial
 |b2s x=>exact same (b2sJ h (hx x (by simp[IOp.xs])))
 |s2b T x=>
  have ha:=hx x (by simp[IOp.xs])
  simp only[aop]
  revert ha
  generalize ρ x=a
  generalize ρ' x=a'
  intro ha
  cases ha with
  |c hc=>
   cases hc with
   |str s=>exact pushQ h (byteCellsJ s) (some 1) (f:=fun m=>.c (.sl (some (m,0)) s.size s.size true)) fun _ _=>slNew _ _ _
   |_=>trivial
  |_=>trivial
 |mkfn f a b=>
  simp only[aop]
  refine(adsJ (listJ fun y hy=>hx y (by simp[IOp.xs,hy]))).bind fun fs fs' hf=>(adsJ (listJ fun y hy=>hx y (by simp[IOp.xs,hy]))).map fun cs cs' hc=>⟨p,Stp.refl h,.v (.c (.fn f hf hc))⟩
 |mkmap x=>
  have new:QJ p H H' (.v (.c (.map (some H.length))),H++[.map []]) (.v (.c (.map (some H'.length))),H'++[.map []]):=
   ⟨_,Stp.push h (.map .nil),.v (.c (.map (addJ_self _ _ _)))⟩
  cases x with
  |none=>exact new
  |some x=>
   simp only[aop]
   have:=(hx x (by simp[IOp.xs])).asI
   exact(OJ.of_eq this).map fun _ _ _=>new
 |ins kk m k v=>
  have hm:=hx m (by simp[IOp.xs]);have hk:=hx k (by simp[IOp.xs]);have hv:=hx v (by simp[IOp.xs])
  simp only[aop]
  revert hm hk
  generalize ρ m=vm
  generalize ρ' m=vm'
  generalize ρ k=vk
  generalize ρ' k=vk'
  intro hm hk
  cases hm with
  |c hm=>
   cases hm with
   |map hr=>
    cases hk with
    |c hk=>
     obtain⟨x,x',h1,h2,h3⟩:=h.dom _ _ hr
     simp only[h1,h2]
     cases h3 with
     |map he=>
      simp only[hk.ok]
      refine OJ.ite (fun _=>?_) fun _=>trivial
      have hf:=findJ hk he
      revert hf
      generalize findE _ _=e
      generalize findE _ _=e'
      intro hf
      cases e with
      |none=>cases e' with
       |none=>trivial
       |some _=>exact hf.elim
      |some e=>cases e' with
       |none=>exact hf.elim
       |some e'=>
        cases e with
        |none=>cases e' with
         |none=>exact⟨p,Stp.set h hr (.map (he.append (.cons ⟨hk,hv⟩ .nil))),.v (.tup .nil)⟩
         |some _=>exact hf.elim
        |some e=>cases e' with
         |none=>exact hf.elim
         |some _=>trivial
     |_=>trivial
    |_=>trivial
   |_=>cases hk<;>trivial
  |_=>cases hk<;>trivial
 |look kk z ok m k=>
  have hm:=hx m (by simp[IOp.xs]);have hk:=hx k (by simp[IOp.xs]);have hzz:=hz z (by simp[IOp.zs])
  simp only[aop]
  revert hm hk
  generalize ρ m=vm
  generalize ρ' m=vm'
  generalize ρ k=vk
  generalize ρ' k=vk'
  intro hm hk
  cases hm with
  |c hm=>
   cases hm with
   |map hr=>
    cases hk with
    |c hk=>
     obtain⟨x,x',h1,h2,h3⟩:=h.dom _ _ hr
     simp only[h1,h2]
     cases h3 with
     |map he=>
      simp only[hk.ok]
      refine OJ.ite (fun _=>?_) fun _=>trivial
      refine(findJ hk he).bind fun e e' hf=>?_
      have hd:VJ p (e.getD z) (e'.getD z)∧e.isSome=e'.isSome:=by
       cases e with
       |none=>cases e' with
        |none=>exact⟨hzz,rfl⟩
        |some _=>exact hf.elim
       |some e=>cases e' with
        |none=>exact hf.elim
        |some _=>exact⟨hf,rfl⟩
      rw[hd.2]
      refine OJ.ite (fun _=>?_) fun _=>⟨p,Stp.refl h,.v hd.1⟩
      exact hd.1.pc.map fun x x' hx=>⟨p,Stp.refl h,.v (.tup (.cons hx (.cons (.c (.bool _)) .nil)))⟩
     |_=>trivial
    |_=>trivial
   |_=>cases hk<;>trivial
  |_=>cases hk<;>trivial
 |mksl T sz b z l c=>
  have hl:=(hx l (by simp[IOp.xs])).asI;have hc:=(hx c (by simp[IOp.xs])).asI
  have hzz:=aggJ (hz (.agg z) (by simp[IOp.zs]))
  simp only[aop,hl,hc]
  refine(OJ.of_eq rfl).bind fun l l' e=>(OJ.of_eq rfl).bind fun c c' e'=>?_
  subst e;subst e'
  exact OJ.ite (fun _=>pushQ h (growsJ hzz _) none (f:=fun m=>.c (.sl (some (m,0)) l.toNat c.toNat false)) fun _ _=>slNew _ _ _) fun _=>trivial
 |slS sz x lo hi mx=>
  have ha:=hx x (by simp[IOp.xs])
  have hb:=bndsJ (optJ (x:=lo) fun y hy=>hx y (by simp only[IOp.xs,List.mem_cons,List.mem_append];simp only[Option.mem_toList] at hy ⊢;exact .inr (.inl (.inl hy)))) (optJ (x:=hi) fun y hy=>hx y (by simp only[IOp.xs,List.mem_cons,List.mem_append];simp only[Option.mem_toList] at hy ⊢;exact .inr (.inl (.inr hy)))) (optJ (x:=mx) fun y hy=>hx y (by simp only[IOp.xs,List.mem_cons,List.mem_append];simp only[Option.mem_toList] at hy ⊢;exact .inr (.inr hy)))
  simp only[aop]
  revert ha
  generalize ρ x=a
  generalize ρ' x=a'
  intro ha
  cases ha with
  |c hc=>
   cases hc with
   |slN n c o=>
    simp only[hb]
    refine(OJ.of_eq rfl).bind fun q q' e=>?_
    subst e
    have:VJ p (.c (.sl none (q.2.1-q.1) (q.2.2-q.1) (o && mx.isNone))) (.c (.sl none (q.2.1-q.1) (q.2.2-q.1) (o && mx.isNone))):=.c (.slN _ _ _)
    refine⟨p,Stp.refl h,.v ?_⟩
    split<;>exact this
   |sl ha n c o=>
    simp only[hb]
    refine(OJ.of_eq rfl).bind fun q q' e=>?_
    subst e
    refine⟨p,Stp.refl h,.v ?_⟩
    split
    ·exact .c (.sl ha _ _ _)
    ·exact .c (.sl (ha.add _) _ _ _)
   |_=>trivial
  |_=>trivial
 |slA n sz x lo hi mx=>
  have ha:=hx x (by simp[IOp.xs])
  have hb:=bndsJ (optJ (x:=lo) fun y hy=>hx y (by simp only[IOp.xs,List.mem_cons,List.mem_append];simp only[Option.mem_toList] at hy ⊢;exact .inr (.inl (.inl hy)))) (optJ (x:=hi) fun y hy=>hx y (by simp only[IOp.xs,List.mem_cons,List.mem_append];simp only[Option.mem_toList] at hy ⊢;exact .inr (.inl (.inr hy)))) (optJ (x:=mx) fun y hy=>hx y (by simp only[IOp.xs,List.mem_cons,List.mem_append];simp only[Option.mem_toList] at hy ⊢;exact .inr (.inr hy)))
  simp only[aop]
  revert ha
  generalize ρ x=a
  generalize ρ' x=a'
  intro ha
  cases ha with
  |c hc=>
   cases hc with
   |ptr ha=>
    simp only[hb]
    refine(OJ.of_eq rfl).map fun q q' e=>?_
    subst e
    refine⟨p,Stp.refl h,.v (.c (.sl ?_ _ _ _))⟩
    split
    ·exact ha
    ·exact ha.add _
   |_=>trivial
  |_=>trivial
 |slT x lo hi=>
  have ha:=hx x (by simp[IOp.xs])
  have hb:=fun n m=>bndsJ (optJ (x:=lo) fun y hy=>hx y (by simp only[IOp.xs,List.mem_cons,List.mem_append];simp only[Option.mem_toList] at hy ⊢;exact .inr (.inl hy))) (optJ (x:=hi) fun y hy=>hx y (by simp only[IOp.xs,List.mem_cons,List.mem_append];simp only[Option.mem_toList] at hy ⊢;exact .inr (.inr hy))) (show OJ (VJ p) none none from trivial) n m
  simp only[aop]
  revert ha
  generalize ρ x=a
  generalize ρ' x=a'
  intro ha
  cases ha with
  |c hc=>
   cases hc with
   |str s=>
    simp only[hb]
    refine(OJ.of_eq rfl).map fun q q' e=>?_
    subst e
    exact⟨p,Stp.refl h,.v (.c (.str _))⟩
   |_=>trivial
  |_=>trivial
 |fa n x=>
  simp only[aop]
  exact(hx x (by simp[IOp.xs])).adOf.map fun a a' ha=>⟨p,Stp.refl h,.v (.c (.ptr (ha.add _)))⟩
 |fld o n x=>
  have ha:=hx x (by simp[IOp.xs])
  simp only[aop]
  revert ha
  generalize ρ x=a
  generalize ρ' x=a'
  intro ha
  cases ha<;>first|trivial|exact(prdJ (by assumption) _ _).map fun _ _ k=>⟨p,Stp.refl h,.v k⟩
 |iaS sz x i=>
  have ha:=hx x (by simp[IOp.xs]);have hi:=(hx i (by simp[IOp.xs])).asI
  simp only[aop,hi]
  revert ha
  generalize ρ x=a
  generalize ρ' x=a'
  intro ha
  cases ha with
  |c hc=>
   cases hc with
   |sl ha n c o=>
    refine(OJ.of_eq rfl).bind fun i i' e=>?_
    subst e
    exact OJ.ite (fun _=>⟨p,Stp.refl h,.v (.c (.ptr (ha.add _)))⟩) fun _=>trivial
   |_=>trivial
  |_=>trivial
 |iaA n sz x i=>
  have hi:=(hx i (by simp[IOp.xs])).asI
  simp only[aop,hi]
  refine(hx x (by simp[IOp.xs])).adOf.bind fun a a' ha=>(OJ.of_eq rfl).bind fun i i' e=>?_
  subst e
  exact OJ.ite (fun _=>⟨p,Stp.refl h,.v (.c (.ptr (ha.add _)))⟩) fun _=>trivial
 |ix l sz n x i=>
  have ha:=hx x (by simp[IOp.xs]);have hi:=(hx i (by simp[IOp.xs])).asI
  simp only[aop,hi]
  revert ha
  generalize ρ x=a
  generalize ρ' x=a'
  intro ha
  cases ha<;>first|trivial|skip
  rename_i hl
  refine(OJ.of_eq rfl).bind fun i i' e=>?_
  subst e
  exact OJ.ite (fun _=>(prdJ hl _ _).map fun _ _ k=>⟨p,Stp.refl h,.v k⟩) fun _=>trivial
 |ixT x i=>
  have ha:=hx x (by simp[IOp.xs]);have hi:=(hx i (by simp[IOp.xs])).asI
  simp only[aop,hi]
  revert ha
  generalize ρ x=a
  generalize ρ' x=a'
  intro ha
  cases ha with
  |c hc=>
   cases hc with
   |str s=>
    refine(OJ.of_eq rfl).bind fun i i' e=>?_
    subst e
    refine OJ.ite (fun _=>(OJ.of_eq rfl).map fun _ _ k=>?_) fun _=>trivial
    subst k
    exact⟨p,Stp.refl h,.v (.c (.int _ _))⟩
   |_=>trivial
  |_=>trivial
 |ext x i=>
  have ha:=hx x (by simp[IOp.xs])
  simp only[aop]
  revert ha
  generalize ρ x=a
  generalize ρ' x=a'
  intro ha
  cases ha<;>first|trivial|exact(OJ.get (by assumption) i).map fun _ _ k=>⟨p,Stp.refl h,.v (PJ.v k)⟩
 |call f l=>
  have hf:=hx f (by simp[IOp.xs])
  have hl:All2 (VJ p) (l.map ρ) (l.map ρ'):=listJ fun y hy=>hx y (by simp[IOp.xs,hy])
  simp only[aop]
  revert hf
  generalize ρ f=a
  generalize ρ' f=a'
  intro hf
  cases hf with
  |c hc=>
   cases hc with
   |fn g h1 h2=>
    exact⟨p,Stp.refl h,.call g (((h1.map fun _ _ k=>VJ.c (.ptr k)).append hl).append (h2.map fun _ _ k=>VJ.c (.ptr k)))⟩
   |yld hl'=>exact⟨p,Stp.refl h,.yld hl' hl⟩
   |_=>trivial
  |_=>trivial
 |len s x=>
  have ha:=hx x (by simp[IOp.xs])
  simp only[aop]
  revert ha
  generalize ρ x=a
  generalize ρ' x=a'
  intro ha
  cases ha with
  |c hc=>cases s<;>cases hc<;>first|trivial|exact⟨p,Stp.refl h,.v (.c (.int _ _))⟩
  |_=>cases s<;>trivial
 |lenK n=>exact⟨p,Stp.refl h,.v (.c (.int _ _))⟩
 |app T sz by_ s x=>
  have ha:=hx s (by simp[IOp.xs]);have hb:=hx x (by simp[IOp.xs])
  simp only[aop]
  revert ha hb
  generalize ρ s=a
  generalize ρ' s=a'
  generalize ρ x=b
  generalize ρ' x=b'
  intro ha hb
  have fin:∀{a a':Option Ad} {n c:Nat} {o:Bool} {u u':V},OJ (AdJ p) a a'→VJ p u u'→OJ (QJ p H H') (match V.c (.sl a n c o),u with
    |.c (.sl a n c opn),.c (.sl b k _ _)=>match b with
     |none=>if k=0 then appH H sz by_ a n c opn 0 [] else none
     |some b=>(H.ldn b (k * sz)).bind fun new=>appH H sz by_ a n c opn k new
    |_,_=>none) (match V.c (.sl a' n c o),u' with
    |.c (.sl a n c opn),.c (.sl b k _ _)=>match b with
     |none=>if k=0 then appH H' sz by_ a n c opn 0 [] else none
     |some b=>(H'.ldn b (k * sz)).bind fun new=>appH H' sz by_ a n c opn k new
    |_,_=>none):=by
   intro a a' n c o u u' ha hu
   cases hu with
   |c hc=>
    cases hc with
    |slN k c' o'=>exact OJ.ite (fun _=>appJ h ha .nil) fun _=>trivial
    |sl hb k c' o'=>exact(ldnJ h hb _).bind fun l l' hl=>appJ h ha hl
    |_=>trivial
   |_=>trivial
  cases ha with
  |c hc=>
   cases hc with
   |slN n c o=>exact fin (show OJ (AdJ p) none none from trivial) hb
   |sl ha n c o=>exact fin (show OJ (AdJ p) (some _) (some _) from ha) hb
   |_=>trivial
  |_=>trivial
 |appT T s x=>
  have ha:=hx s (by simp[IOp.xs]);have hb:=hx x (by simp[IOp.xs])
  simp only[aop]
  revert ha hb
  generalize ρ s=a
  generalize ρ' s=a'
  generalize ρ x=b
  generalize ρ' x=b'
  intro ha hb
  cases ha with
  |c hc=>
   cases hb with
   |c hb=>
    cases hc<;>cases hb<;>first|trivial|exact appJ h (show OJ (AdJ p) none none from trivial) (byteCellsJ _)|exact appJ h (show OJ (AdJ p) (some _) (some _) by assumption) (byteCellsJ _)
   |_=>cases hc<;>trivial
  |_=>trivial
 |cpy sz d s=>
  have ha:=hx d (by simp[IOp.xs]);have hb:=hx s (by simp[IOp.xs])
  simp only[aop]
  revert ha hb
  generalize ρ d=a
  generalize ρ' d=a'
  generalize ρ s=b
  generalize ρ' s=b'
  intro ha hb
  cases ha with
  |c hc=>
   cases hb with
   |c hb=>
    cases hc<;>cases hb<;>first|trivial|exact OJ.ite (fun _=>⟨p,Stp.refl h,.v (.c (.int _ _))⟩) fun _=>trivial|skip
    rename_i a a' h1 n c o b b' h2 k d e
    exact OJ.ite (fun _=>⟨p,Stp.refl h,.v (.c (.int _ _))⟩) fun _=>(ldnJ h h2 _).bind fun l l' hl=>(stJ h h1 hl).map fun K K' k=>⟨p,k,.v (.c (.int _ _))⟩
   |_=>cases hc<;>trivial
  |_=>trivial
 |clr sz z x=>
  have ha:=hx x (by simp[IOp.xs])
  have hzz:=aggJ (hz (.agg z) (by simp[IOp.zs]))
  simp only[aop]
  revert ha
  generalize ρ x=a
  generalize ρ' x=a'
  intro ha
  cases ha with
  |c hc=>
   cases hc with
   |slN n c o=>exact OJ.ite (fun _=>⟨p,Stp.refl h,.v (.tup .nil)⟩) fun _=>trivial
   |sl ha n c o=>exact OJ.ite (fun _=>⟨p,Stp.refl h,.v (.tup .nil)⟩) fun _=>OJ.ite (fun _=>(stJ h ha (growsJ hzz n)).map fun K K' k=>⟨p,k,.v (.tup .nil)⟩) fun _=>trivial
   |_=>trivial
  |_=>trivial
 |same n a x=>
  simp only[aop]
  have hv:=hx x (by simp[IOp.xs])
  refine(rdKJ h n (hx a (by simp[IOp.xs]))).bind fun v v' hv'=>?_
  have e:v=ρ x↔v'=ρ' x:=⟨fun e=>VJ.fun h.inj (e ▸ hv') hv,fun e=>VJ.inv h.inj (e ▸ hv') hv⟩
  by_cases he:v=ρ x
  ·rw[if_pos he,if_pos (e.1 he)];exact⟨p,Stp.refl h,.v (.tup .nil)⟩
  ·rw[if_neg he,if_neg fun k=>he (e.2 k)];trivial
 |mx x l=>exact same (maxJ _ (hx x (by simp[IOp.xs])) (listJ fun y hy=>hx y (by simp[IOp.xs,hy])))
 |mn x l=>exact same (maxJ _ (hx x (by simp[IOp.xs])) (listJ fun y hy=>hx y (by simp[IOp.xs,hy])))
end Go.Proofs.YtjcgdcadflplcaaDoor.AM
/- AM: what corresponds: runs. -/
namespace Go.Proofs.YtjcgdcadflplcaaDoor.AM
open Go
variable {p:BJ} {H H':Heap} {F:FuncId→Option Fun}
def CQ (p:BJ) (H H':Heap) (x x':V × Heap):Prop:=∃q,Stp p H H' q x.2 x'.2∧VJ q x.1 x'.1
def FnJ (p:BJ) (F:FuncId→Option Fun):Prop:=∀f,match F f with
 |some (.code fn)=>CodeJ p fn.body
 |some (.ext g)=>∀q,(∀b b',p b b'→q b b')→∀(a a':List V) (H H':Heap),All2 (VJ q) a a'→HJ q H H'→OJ (CQ q H H') (g a H) (g a' H')
 |none=>True
theorem FnJ.mono {q:BJ} (h:∀b b',p b b'→q b b') (i:FnJ p F):FnJ q F:=by
 intro f
 have:=i f
 revert this
 cases F f with
 |none=>exact fun h=>h
 |some x=>cases x with
  |code fn=>exact fun k=>CodeJ.mono h k
  |ext=>exact fun k r hr=>k r fun b b' j=>hr _ _ (h _ _ j)
theorem evJ {t t':List V} (ht:All2 (VJ p) t t') {x:X} (hx:XJ p x):VJ p (x.ev t) (x.ev t'):=by
 cases x with
 |k v=>exact hx
 |t i=>
  have:=OJ.get ht i
  simp only[X.ev]
  revert this
  cases t[i]?<;>cases t'[i]?<;>intro h
  ·exact .tup .nil
  ·exact h.elim
  ·exact h.elim
  ·exact h
theorem wantedJ {t t':List V} (ht:All2 (VJ p) t t') (g:Option (Nat × Bool)):wanted t g=wanted t' g:=by
 cases g with
 |none=>rfl
 |some g=>
  have:=OJ.get ht g.1
  simp only[wanted]
  revert this
  cases t[g.1]?<;>cases t'[g.1]?<;>intro h
  ·rfl
  ·exact h.elim
  ·exact h.elim
  ·rename_i a b
   have h':VJ p a b:=h
   clear h
   cases h' with
   |c hc=>cases hc<;>rfl
   |_=>rfl
theorem putTJ {t t':List V} (ht:All2 (VJ p) t t') (d:Option Nat) {v v':V} (hv:VJ p v v'):All2 (VJ p) (putT t d v) (putT t' d v'):=by
 cases d with
 |none=>exact ht
 |some d=>exact ht.set hv
theorem resVJ {t t':List V} (ht:All2 (VJ p) t t') (h:HJ p H H') (r:Nat × Option (Option Nat)):OJ (VJ p) (resV t H r) (resV t' H' r):=by
 have:=evJ ht (x:=.t r.1) trivial
 unfold resV
 cases r.2 with
 |none=>exact this
 |some n=>exact(VJ.adOf this).bind fun a a' ha=>rdJ h ha n
theorem resJ {t t':List V} (ht:All2 (VJ p) t t') (h:HJ p H H') (rs:List (Nat × Option (Option Nat))):OJ (VJ p) (resOf t H rs) (resOf t' H' rs):=by
 unfold resOf
 have hm:OJ (All2 (VJ p)) (rs.mapM (resV t H)) (rs.mapM (resV t' H')):=(All2.refl (R:=fun a b=>a=b) (fun _=>rfl) rs).mapM fun a b e=>by subst e;exact resVJ ht h a
 refine hm.bind fun vs vs' hv=>?_
 have hp:OJ (VJ p) ((vs.mapM V.pc).map .tup) ((vs'.mapM V.pc).map .tup):=(hv.mapM fun _ _ k=>VJ.pc k).map fun _ _ k=>.tup k
 cases hv with
 |nil=>exact hp
 |cons h1 h2=>cases h2 with
  |nil=>exact h1
  |cons _ _=>exact hp
theorem shutJ:∀{ds ds':List Nat},All2 p ds ds'→∀{H H':Heap},HJ p H H'→OJ (fun K K'=>Stp p H H' p K K') (shutAll ds H) (shutAll ds' H'):=by
 intro ds ds' hd
 induction hd with
 |nil=>intro H H' h;exact Stp.refl h
 |cons hb _ ih=>
  intro H H' h
  obtain⟨x,x',h1,h2,h3⟩:=h.dom _ _ hb
  simp only[shutAll,h1,h2]
  cases h3 with
  |defd=>
   have s:=Stp.set h hb (.shut:KJ p .shut .shut)
   exact(ih s.hj).imp fun _ _ k=>s.trans k
  |_=>trivial
def SQ (p:BJ) (H H':Heap) (x x':Ex × St):Prop:=∃q,Stp p H H' q x.2.H x'.2.H∧x.1=x'.1∧All2 (VJ q) x.2.t x'.2.t∧All2 q x.2.ds x'.2.ds
def OQ (p:BJ) (H H':Heap) (x x':List V × Heap):Prop:=∃q,Stp p H H' q x.2 x'.2∧All2 (VJ q) x.1 x'.1
theorem CQ.trans {q:BJ} {H1 H1':Heap} (s:Stp p H H' q H1 H1') {x x':V × Heap} (h:CQ q H1 H1' x x'):CQ p H H' x x':=by
 obtain⟨r,s2,hv⟩:=h;exact⟨r,s.trans s2,hv⟩
theorem OQ.trans {q:BJ} {H1 H1':Heap} (s:Stp p H H' q H1 H1') {x x':List V × Heap} (h:OQ q H1 H1' x x'):OQ p H H' x x':=by
 obtain⟨r,s2,hv⟩:=h;exact⟨r,s.trans s2,hv⟩
theorem SQ.trans {q:BJ} {H1 H1':Heap} (s:Stp p H H' q H1 H1') {x x':Ex × St} (h:SQ q H1 H1' x x'):SQ p H H' x x':=by
 obtain⟨r,s2,hv⟩:=h;exact⟨r,s.trans s2,hv⟩
def RecJ (p:BJ) (F:FuncId→Option Fun) (rec:Rec):Prop:=∀q,(∀b b',p b b'→q b b')→∀rd rd' c (s s':St),OJ q rd rd'→CodeJ q c→All2 (VJ q) s.t s'.t→All2 q s.ds s'.ds→HJ q s.H s'.H→OJ (SQ q s.H s'.H) (rec rd c s) (rec rd' c s')
variable {rec:Rec}
theorem RecJ.mono {q:BJ} (h:∀b b',p b b'→q b b') (i:RecJ p F rec):RecJ q F rec:=fun r hr=>i r fun b b' k=>hr _ _ (h _ _ k)
theorem callJ (hF:FnJ p F) (hr:RecJ p F rec) {f:FuncId} {a a':List V} (ha:All2 (VJ p) a a') (h:HJ p H H'):OJ (CQ p H H') (callR F rec f a H) (callR F rec f a' H'):=by
 have hf:=hF f
 unfold callR
 revert hf
 cases F f with
 |none=>exact fun _=>trivial
 |some x=>cases x with
  |ext g=>exact fun k=>k p (fun _ _ h=>h) a a' H H' ha h
  |code fn=>
   intro hc
   simp only
   refine(hr p (fun _ _ k=>k) none none fn.body _ _ trivial hc (ha.append ?_) .nil h).bind fun r r' hq=>?_
   ·rw[ha.length];exact All2.replicate (.tup .nil) _
   obtain⟨q,s,e,ht,hd⟩:=hq
   rw[←e]
   have key:OJ (CQ p H H') ((shutAll r.2.ds r.2.H).bind fun H'=>(resOf r.2.t H' fn.res).map fun v=>(v,H')) ((shutAll r'.2.ds r'.2.H).bind fun H'=>(resOf r'.2.t H' fn.res).map fun v=>(v,H')):=by
    refine(shutJ hd s.hj).bind fun K K' k=>?_
    exact(resJ ht k.hj fn.res).map fun v v' hv=>⟨q,s.trans k,hv⟩
   cases r.1 with
   |exit i=>trivial
   |normal=>exact key
   |ret=>exact key
theorem foldJ {t t':List V} (ht:All2 (VJ p) t t'):∀{l l':List (Nat × V)},All2 (fun x y=>x.1=y.1∧VJ p x.2 y.2) l l'→All2 (VJ p) (l.foldl (fun t p=>t.set p.1 p.2) t) (l'.foldl (fun t p=>t.set p.1 p.2) t'):=by
 intro l l' h
 induction h generalizing t t' with
 |nil=>exact ht
 |cons h _ ih=>
  obtain⟨h1,h2⟩:=h
  simp only[List.foldl_cons,h1]
  exact ih (ht.set h2)
theorem roundJ (hr:RecJ p F rec) {l l':Nat} (hl:p l l') {a a':List V} (ha:All2 (VJ p) a a') (h:HJ p H H'):OJ (CQ p H H') (roundR rec l a H) (roundR rec l' a' H'):=by
 obtain⟨x,x',h1,h2,h3⟩:=h.dom _ _ hl
 unfold roundR
 rw[h1,h2]
 cases h3 with
 |loop st pd hrr=>
  rename_i r r'
  cases st with
  |ready=>
   simp only
   rw[ha.length,hrr.ps]
   refine OJ.ite (fun _=>?_) fun _=>trivial
   have hq:=hr p (fun _ _ k=>k) (some l) (some l') r.assign ⟨(r'.ps.zip a).foldl (fun t p=>t.set p.1 p.2) r.t,[],H⟩ ⟨(r'.ps.zip a').foldl (fun t p=>t.set p.1 p.2) r'.t,[],H'⟩ hl hrr.ca (foldJ hrr.t (ha.zip _)) .nil h
   rw[←hrr.assign]
   refine hq.bind fun y y' hy=>?_
   obtain⟨q,s,e,ht,hd⟩:=hy
   rw[←e]
   cases y.1 with
   |exit i=>trivial
   |ret=>trivial
   |normal=>
    obtain⟨z,z',k1,k2,k3⟩:=s.hj.dom _ _ (s.le _ _ hl)
    simp only[k1,k2]
    cases k3 with
    |loop st pd hr1=>
     rename_i r1 r1'
     cases st with
     |ready=>
      simp only
      have s1:=Stp.set s.hj (s.le _ _ hl) (.loop .busy pd hr1)
      have hq2:=hr q s.le (some l) (some l') r.body ⟨y.2.t,y.2.ds,y.2.H.set l (.loop .busy pd r1)⟩ ⟨y'.2.t,y'.2.ds,y'.2.H.set l' (.loop .busy pd r1')⟩ (s.le _ _ hl) (hrr.cb.mono s.le) ht hd s1.hj
      rw[←hrr.body]
      refine hq2.bind fun w w' hw=>?_
      obtain⟨q2,s2,e2,ht2,hd2⟩:=hw
      have hll:=s2.le _ _ (s.le _ _ hl)
      obtain⟨u,u',m1,m2,m3⟩:=s2.hj.dom _ _ hll
      simp only[m1,m2]
      cases m3 with
      |loop st pd2 hr2=>
       rename_i r2 r2'
       cases st with
       |busy=>
        simp only
        rw[←e2]
        have s3:=(s.trans s1).trans s2
        cases w.1 with
        |normal=>exact⟨q2,s3.trans (Stp.set s2.hj hll (.loop .ready none hr2)),.c (.bool _)⟩
        |exit i=>exact⟨q2,s3.trans (Stp.set s2.hj hll (.loop .done (some (.exit i)) hr2)),.c (.bool _)⟩
        |ret=>exact⟨q2,s3.trans (Stp.set s2.hj hll (.loop .done (some .ret) hr2)),.c (.bool _)⟩
       |_=>trivial
      |_=>trivial
     |_=>trivial
    |_=>trivial
  |_=>trivial
 |_=>trivial
theorem opsJ:∀{l:List IOper} {p:BJ} {H H':Heap},FnJ p F→RecJ p F rec→(∀o∈l,OpJ p o.op)→∀{t t':List V},All2 (VJ p) t t'→HJ p H H'→OJ (OQ p H H') (opsR F rec l t H) (opsR F rec l t' H')
 |[],p,H,H',_,_,_,t,t',ht,h=>⟨p,Stp.refl h,ht⟩
 |o :: l,p,H,H',hF,hr,ho,t,t',ht,h=>by
  unfold opsR
  rw[wantedJ ht]
  refine OJ.ite (fun _=>?_) fun _=>opsJ hF hr (fun o' h'=>ho o' (by simp[h'])) (putTJ ht _ (.tup .nil)) h
  have hoo:=ho o (by simp)
  refine(aopJ h (fun x hx=>evJ ht (hoo.1 x hx)) hoo.2).bind fun x x' hx=>?_
  obtain⟨q,s,ha⟩:=hx
  have rest:∀{q:BJ} {K K':Heap} {v v':V},Stp p H H' q K K'→VJ q v v'→OJ (OQ p H H') (opsR F rec l (putT t o.dst v) K) (opsR F rec l (putT t' o.dst v') K'):=fun s hv=>
   (opsJ (hF.mono s.le) (hr.mono s.le) (fun o' h'=>(ho o' (by simp[h'])).mono s.le) (putTJ (ht.imp fun _ _ k=>k.mono s.le) _ hv) s.hj).imp fun _ _ k=>OQ.trans s k
  obtain⟨an,K⟩:=x
  obtain⟨an',K'⟩:=x'
  cases ha with
  |v hv=>exact rest s hv
  |call f ha=>
   refine(callJ (hF.mono s.le) (hr.mono s.le) ha s.hj).bind fun y y' hy=>?_
   obtain⟨q2,s2,hv⟩:=hy
   exact rest (s.trans s2) hv
  |yld hl ha=>
   refine(roundJ (hr.mono s.le) hl ha s.hj).bind fun y y' hy=>?_
   obtain⟨q2,s2,hv⟩:=hy
   exact rest (s.trans s2) hv
theorem exOfJ (p:BJ) (e:Ex):CodeJ p (exOf e):=by cases e<;>trivial
theorem rangeJ (hF:FnJ p F) (hr:RecJ p F rec) {rd rd':Option Nat} (hrd:OJ p rd rd') {f:X} (hf:XJ p f) {t t':List V} (ht:All2 (VJ p) t t') {ds ds':List Nat} (hd:All2 p ds ds') {l l':Nat} (hl:p l l') (h:HJ p H H'):
  OJ (SQ p H H') (stepR.runRange F rec rd f t ds l H) (stepR.runRange F rec rd' f t' ds' l' H'):=by
 have hv:=evJ ht hf
 unfold stepR.runRange
 revert hv
 generalize f.ev t=v
 generalize f.ev t'=v'
 intro hv
 cases hv with
 |c hc=>
  cases hc with
  |fn g h1 h2=>
   simp only
   refine(callJ hF hr (((h1.map fun _ _ k=>VJ.c (.ptr k)).append (.cons (.c (.yld hl)) .nil)).append (h2.map fun _ _ k=>VJ.c (.ptr k))) h).bind fun y y' hy=>?_
   obtain⟨q,s,_⟩:=hy
   obtain⟨u,u',m1,m2,m3⟩:=s.hj.dom _ _ (s.le _ _ hl)
   simp only[m1,m2]
   cases m3 with
   |loop st pd hrr=>
    rename_i r r'
    have key:OJ (SQ p H H') (match pd with|none=>some (Ex.normal,⟨t,ds,y.2.set l (.loop .exhausted pd r)⟩)|some e=>rec rd (exOf e) ⟨t,ds,y.2.set l (.loop .exhausted pd r)⟩)
      (match pd with|none=>some (Ex.normal,⟨t',ds',y'.2.set l' (.loop .exhausted pd r')⟩)|some e=>rec rd' (exOf e) ⟨t',ds',y'.2.set l' (.loop .exhausted pd r')⟩):=by
     have s1:=Stp.set s.hj (s.le _ _ hl) (.loop .exhausted pd hrr)
     cases pd with
     |none=>exact⟨q,s.trans s1,rfl,ht.imp fun _ _ k=>k.mono s.le,hd.imp fun _ _ k=>s.le _ _ k⟩
     |some e=>
      refine(hr q s.le rd rd' (exOf e) _ _ (hrd.imp fun _ _ k=>s.le _ _ k) (exOfJ _ _) (ht.imp fun _ _ k=>k.mono s.le) (hd.imp fun _ _ k=>s.le _ _ k) s1.hj).imp fun a b k=>?_
      exact SQ.trans (s.trans s1) k
    cases st with
    |busy=>trivial
    |ready=>cases pd<;>exact key
    |done=>cases pd<;>exact key
    |exhausted=>cases pd<;>exact key
   |_=>trivial
  |_=>trivial
 |_=>trivial
theorem stepJ (hF:FnJ p F) (hr:RecJ p F rec):RecJ p F (stepR F rec):=by
 intro q hq rd rd' c s s' hrd hc ht hd h
 have hF':=hF.mono hq
 have hr':=hr.mono hq
 cases c with
 |skip=>exact⟨q,Stp.refl h,rfl,ht,hd⟩
 |exit i=>exact⟨q,Stp.refl h,rfl,ht,hd⟩
 |ret=>exact⟨q,Stp.refl h,rfl,ht,hd⟩
 |bad=>trivial
 |ops l=>
  simp only[stepR]
  exact(opsJ hF' hr' hc ht h).map fun x x' hx=>by
   obtain⟨q2,s2,hv⟩:=hx
   exact⟨q2,s2,rfl,hv,hd.imp fun _ _ k=>s2.le _ _ k⟩
 |seq a b=>
  simp only[stepR]
  refine(hr q hq rd rd' a s s' hrd hc.1 ht hd h).bind fun x x' hx=>?_
  obtain⟨q2,s2,e,ht2,hd2⟩:=hx
  rw[←e]
  cases hx1:x.1 with
  |normal=>exact(hr q2 (fun b b' k=>s2.le _ _ (hq _ _ k)) rd rd' b x.2 x'.2 (hrd.imp fun _ _ k=>s2.le _ _ k) (hc.2.mono s2.le) ht2 hd2 s2.hj).imp fun _ _ k=>SQ.trans s2 k
  |exit i=>exact⟨q2,s2,rfl,ht2,hd2⟩
  |ret=>exact⟨q2,s2,rfl,ht2,hd2⟩
 |cond c a b=>
  have hv:=evJ ht hc.1
  simp only[stepR]
  revert hv
  generalize c.ev s.t=v
  generalize c.ev s'.t=v'
  intro hv
  cases hv with
  |c hcc=>
   cases hcc with
   |bool t=>
    simp only
    cases t with
    |true=>exact hr q hq rd rd' a s s' hrd hc.2.1 ht hd h
    |false=>exact hr q hq rd rd' b s s' hrd hc.2.2 ht hd h
   |_=>trivial
  |_=>trivial
 |block id b=>
  simp only[stepR]
  exact(hr q hq rd rd' b s s' hrd hc ht hd h).map fun x x' hx=>by
   obtain⟨q2,s2,e,ht2,hd2⟩:=hx
   exact⟨q2,s2,by simp only[e],ht2,hd2⟩
 |loop b=>
  simp only[stepR]
  refine(hr q hq rd rd' b s s' hrd hc ht hd h).bind fun x x' hx=>?_
  obtain⟨q2,s2,e,ht2,hd2⟩:=hx
  rw[←e]
  cases hx1:x.1 with
  |normal=>exact(hr q2 (fun b b' k=>s2.le _ _ (hq _ _ k)) rd rd' (.loop b) x.2 x'.2 (hrd.imp fun _ _ k=>s2.le _ _ k) (CodeJ.mono (c:=b) s2.le hc) ht2 hd2 s2.hj).imp fun _ _ k=>SQ.trans s2 k
  |exit i=>exact⟨q2,s2,rfl,ht2,hd2⟩
  |ret=>exact⟨q2,s2,rfl,ht2,hd2⟩
 |rangeF f ps a b=>
  simp only[stepR]
  have two:∀(x y:Blk) (K:Heap),K++[x,y]=K++[x]++[y]:=by intros;simp
  cases rd with
  |none=>
   cases rd' with
   |some _=>exact hrd.elim
   |none=>
    simp only
    have s1:=Stp.push h (.defd:KJ (addJ q s.H.length s'.H.length) .defd .defd)
    have e1:(s.H++[Blk.defd]).length=s.H.length+1:=by simp
    have e2:(s'.H++[Blk.defd]).length=s'.H.length+1:=by simp
    have hrj:RJ (addJ (addJ q s.H.length s'.H.length) (s.H++[Blk.defd]).length (s'.H++[Blk.defd]).length) ⟨s.t,ps,a,b,s.H.length⟩ ⟨s'.t,ps,a,b,s'.H.length⟩:=
     ⟨ht.imp fun _ _ k=>(k.mono s1.le).mono (addJ_le _ _ _),rfl,rfl,rfl,addJ_le _ _ _ _ _ (addJ_self _ _ _),(hc.2.1.mono s1.le).mono (addJ_le _ _ _),(hc.2.2.mono s1.le).mono (addJ_le _ _ _)⟩
    have s2:=Stp.push s1.hj (.loop .ready none hrj)
    have s3:=s1.trans s2
    rw[two,two]
    have:=rangeJ (hF'.mono s3.le) (hr'.mono s3.le) (rd:=none) (rd':=none) trivial (XJ.mono s3.le hc.1) (ht.imp fun _ _ k=>k.mono s3.le) (ds:=s.H.length :: s.ds) (ds':=s'.H.length :: s'.ds) (.cons (addJ_le _ _ _ _ _ (addJ_self _ _ _)) (hd.imp fun _ _ k=>s3.le _ _ k)) (l:=s.H.length+1) (l':=s'.H.length+1) (by rw[←e1,←e2];exact addJ_self _ _ _) s2.hj
    exact this.imp fun _ _ k=>SQ.trans s3 k
  |some l=>
   cases rd' with
   |none=>exact hrd.elim
   |some l'=>
    simp only
    have hll:q l l':=hrd
    obtain⟨u,u',m1,m2,m3⟩:=h.dom _ _ hll
    simp only[m1,m2]
    cases m3 with
    |loop st pd hrr=>
     simp only
     rename_i r0 r0'
     have hrj:RJ (addJ q s.H.length s'.H.length) ⟨s.t,ps,a,b,r0.defers⟩ ⟨s'.t,ps,a,b,r0'.defers⟩:=
      ⟨ht.imp fun _ _ k=>k.mono (addJ_le _ _ _),rfl,rfl,rfl,addJ_le _ _ _ _ _ hrr.defers,hc.2.1.mono (addJ_le _ _ _),hc.2.2.mono (addJ_le _ _ _)⟩
     have s3:=Stp.push h (.loop .ready none hrj)
     have:=rangeJ (hF'.mono s3.le) (hr'.mono s3.le) (rd:=some l) (rd':=some l') (s3.le _ _ hll) (XJ.mono s3.le hc.1) (ht.imp fun _ _ k=>k.mono s3.le) (ds:=s.ds) (ds':=s'.ds) (hd.imp fun _ _ k=>s3.le _ _ k) (addJ_self _ _ _) s3.hj
     exact this.imp fun _ _ k=>SQ.trans s3 k
    |_=>trivial
theorem runJ (hF:FnJ p F):∀k,RecJ p F (run F k)
 |0=>fun _ _ _ _ _ _ _ _ _ _ _ _=>trivial
 |k+1=>stepJ hF (runJ hF k)
end Go.Proofs.YtjcgdcadflplcaaDoor.AM
/- AM, fifteenth text: regions, whose operations go one behind the other. -/
namespace Go.Proofs.YtjcgdcadflplcaaDoor.AM
open Go Go.RowKit
def fenr (ro:Option Nat):Fence:={ Fence.wide with round:=ro }
abbrev fen (m:Inj) (rd:Option Nat):Fence:=fenr (rd.map fun l=>(m l).blk)
def exitOf:Ex→Exit
 |.normal=>.normal
 |.exit i=>.exit i
 |.ret=>.ret
structure SRel (K:Ctx) (base:Nat) (m:Inj) (t:List V) (ds:List Nat) (H:Heap) (a:Act) (w:World):Prop where
 rel:Rel K m base H w
 t:All2 (V.R m H.length) t a.tmps.toList
 ds:All2 (fun(D:Nat) (d:Deferred)=>D<H.length∧d={ target:=.collected (m D).blk,args:=#[] }) ds a.defers
def Post (K:Ctx) (base:Nat) (m:Inj) (n:Nat) (w:World) (e:Ex) (s:St):Exit→Act→World→Prop:=
 fun e' a' w'=>e'=exitOf e∧∃m',SRel K base m' s.t s.ds s.H a' w'∧Later m n m' s.H.length∧Below base w w'
def CPost (K:Ctx) (base:Nat) (m:Inj) (n:Nat) (w:World) (v:V) (H':Heap):Ending→World→Prop:=
 fun e w'=>∃v' m',e=.returned v'∧v.R m' H'.length v'∧Rel K m' base H' w'∧Later m n m' H'.length∧Below base w w'
def SoundR (K:Ctx) (base:Nat) (rec:Rec):Prop:=
 ∀(c:Code) (rd:Option Nat) (s:St) (e:Ex) (s':St),rec rd (comp K.P K.G c) s=some (e,s')→
  ∀(m:Inj) (a:Act) (w:World) (k:Nat),SRel K base m s.t s.ds s.H a w→(∀l,rd=some l→l<s.H.length)→
   c.wpIn (fen m rd) k K.P (Post K base m s.H.length w e s') a w
def CallOk (K:Ctx) (base:Nat) (f:FuncId) (vs:Array Value) (m:Inj) (H:Heap) (w:World) (v:V) (H':Heap) (k:Nat):Prop:=
 ((callFunc f vs).run K.P w=.ok (.enter f vs) w∧CallsIn Fence.wide k K.P f vs w (CPost K base m H.length w v H'))∨
 ∃v' m' w',(callFunc f vs).run K.P w=.ok (.value v') w'∧v.R m' H'.length v'∧Rel K m' base H' w'∧Later m H.length m' H'.length∧Below base w w'
structure ExtOk (K:Ctx) (base:Nat) (f:FuncId) (g:List V→Heap→Option (V × Heap)):Prop where
 run:∀(args:List V) (H:Heap) (v:V) (H':Heap),g args H=some (v,H')→∀(m:Inj) (w:World) (vs:Array Value),Rel K m base H w→All2 (V.R m H.length) args vs.toList→
  ∀k,CallOk K base f vs m H w v H' k
 noYld:∀(args:List V) (H:Heap) (l:Nat),V.c (.yld l)∈args→g args H=none
 J:∀q:BJ,(∀b b',gJ K.G b b'→q b b')→∀(a a':List V) (H H':Heap),All2 (VJ q) a a'→HJ q H H'→OJ (CQ q H H') (g a H) (g a' H')
def OkF (K:Ctx) (base:Nat):Prop:=
 ∀f g,K.F f=some g→
  match g with
  |.code i=>(∀args w,(callFunc f args).run K.P w=.ok (.enter f args) w)∧∃fn,K.P.funcs[f]?=some fn∧compF K.P K.G fn=some i
  |.ext g=>ExtOk K base f g
theorem SRel.ops {K:Ctx} {base:Nat} {m:Inj} {t:List V} {ds:List Nat} {H:Heap} {a:Act} {w:World} (h:SRel K base m t ds H a w):Ops K m H.length (X.ev t) a.eval:=by
 intro x X hx
 cases x with
 |tmp i=>
  simp only[cX,Option.some.injEq] at hx
  subst hx
  simp only[X.ev,Act.eval]
  cases ht:t[i]? with
  |none=>
   have:=h.t.get_none ht
   simp at this
   rw[Option.getD_none,Array.getD_eq_getD_getElem?,Array.getElem?_eq_none this]
   exact V.R_undef _ _
  |some v=>
   obtain⟨v',h1,h2⟩:=h.t.get ht
   simp at h1
   rw[Option.getD_some,Array.getD_eq_getD_getElem?,h1]
   exact h2
 |const v=>obtain⟨y,hy,rfl⟩:=map_some' hx;exact vOf_R hy _ _
 |global g=>
  obtain⟨b,hb,rfl⟩:=map_some' hx
  obtain⟨h1,h2,h3⟩:=h.rel.glob g b hb
  exact⟨h1,by simp[Act.eval,ptrV,adr,h2,h3]⟩
 |func f=>simp only[cX,Option.some.injEq] at hx;subst hx;exact⟨by simp,by simp,rfl⟩
theorem SRel.put {K:Ctx} {base:Nat} {m m':Inj} {t:List V} {ds:List Nat} {H H':Heap} {a:Act} {w w':World} (h:SRel K base m t ds H a w) (hR:Rel K m' base H' w') (hl:Later m H.length m' H'.length) {v:V} {v':Value} (hv:v.R m' H'.length v') (d:Option Nat):
  SRel K base m' (putT t d v) ds H' (a.put d v') w':=by
 have ht:=h.t.imp fun _ _ hr=>hr.later hl
 have hds:All2 (fun(D:Nat) (d:Deferred)=>D<H'.length∧d={ target:=.collected (m' D).blk,args:=#[] }) ds a.defers:=
  h.ds.imp fun D d hd=>⟨Nat.lt_of_lt_of_le hd.1 hl.1,by rw[hl.2 _ hd.1];exact hd.2⟩
 cases d with
 |none=>exact⟨hR,ht,hds⟩
 |some d=>exact⟨hR,by simp only[putT,Act.put,Array.toList_setIfInBounds];exact ht.set hv,hds⟩
theorem wanted_R {K:Ctx} {base:Nat} {m:Inj} {t:List V} {ds:List Nat} {H:Heap} {a:Act} {w:World} (h:SRel K base m t ds H a w) {ops:Array Oper} {o:Oper} {g:Option (Nat × Bool)} (hg:cGuard ops o.guard=some g):
  Region.wanted o (yielded ops a.tmps)=wanted t g:=by
 unfold Region.wanted
 cases hgd:o.guard with
 |none=>rw[hgd] at hg;simp[cGuard] at hg;subst hg;rfl
 |some p=>
  obtain⟨j,b⟩:=p
  rw[hgd] at hg
  obtain⟨d,hd,rfl⟩:=map_some' hg
  simp only[wanted,yielded,hd,Option.bind_some]
  cases ht:t[d]? with
  |none=>
   have:=h.t.get_none ht
   simp at this
   rw[Array.getElem?_eq_none this]
   rfl
  |some v=>
   obtain⟨v',h1,h2⟩:=h.t.get ht
   simp at h1
   rw[h1]
   have nb:(∀b',v≠.c (.bool b'))→∀b',v'≠.bool b':=by
    intro hne b' e
    subst e
    cases v with
    |c x=>
     have hx:x.R m H.length (.bool b'):=h2
     cases x with
     |bool q=>exact hne q rfl
     |ptr q=>obtain⟨_,e,_⟩:=ptr_R hx;cases e
     |sl q _ _ _=>obtain⟨_,_,e,_⟩:=sl_R hx;cases e
     |map q=>obtain⟨_,e,_⟩:=map_R hx;cases e
     |fn _ _ _=>obtain⟨_,_,e⟩:=hx;cases e
     |yld _=>obtain⟨_,e⟩:=hx;cases e
     |_=>cases hx
    |agg l=>obtain⟨_,e,_⟩:=h2;cases e
    |tup l=>obtain⟨_,e,_⟩:=h2;cases e
   by_cases hb:∃b',v=.c (.bool b')
   ·obtain⟨b',rfl⟩:=hb
    have:v'=.bool b':=h2
    subst this
    rfl
   ·have h3:=nb fun b' e=>hb ⟨b',e⟩
    have h4:∀b',v≠.c (.bool b'):=fun b' e=>hb ⟨b',e⟩
    have e2:(match some v with|some (.c (.bool b'))=>b' == b|_=>false)=false:=by
     cases v with
     |c x=>cases x<;>first|rfl|exact absurd rfl (h4 _)
     |agg l=>rfl
     |tup l=>rfl
    refine Eq.trans ?_ e2.symm
    cases v'<;>first|rfl|exact absurd rfl (h3 _)
theorem cOp_defer {P:Program} {G:Nat→Option Nat} {o:Oper} {io:IOp} (h:cOp P G o.op=some io):∀c,o.op≠.defer c:=by
 intro c e
 rw[e] at h
 simp[cOp] at h
theorem ops_sound {K:Ctx} {base:Nat} {rec:Rec} (hcall:∀f args H v H',callR K.F rec f args H=some (v,H')→∀(m:Inj) (w:World) (vs:Array Value) (k:Nat),Rel K m base H w→All2 (V.R m H.length) args vs.toList→CallOk K base f vs m H w v H' k)
  (hround:∀l args H v H',roundR rec l args H=some (v,H')→∀(m:Inj) (w:World) (vs:Array Value) (k:Nat),Rel K m base H w→l<H.length→All2 (V.R m H.length) args vs.toList→
   ∃f tmps assign body,(Instr.yield (m l).blk vs).run K.P w=.ok (.round (m l).blk f tmps assign body) w∧RoundIn Fence.wide k K.P (m l).blk f tmps assign body w (CPost K base m H.length w v H'))
  {ops:Array Oper} {ro:Option Nat} {m0:Inj} {n0:Nat} {w0:World} {ds:List Nat} {k:Nat} {Q:Exit→Act→World→Prop}:∀(l:List Nat),(∀i∈l,i<ops.size)→∀(t:List V) (H:Heap) (t':List V) (H':Heap),opsR K.F rec (l.map fun i=>cOper K.P K.G ops (ops.getD i default)) t H=some (t',H')→
   (∀e a w,Post K base m0 n0 w0 .normal ⟨t',ds,H'⟩ e a w→Q e a w)→∀(m:Inj) (a:Act) (w:World),SRel K base m t ds H a w→Later m0 n0 m H.length→Below base w0 w→
    wpOpsIn (fenr ro) k K.P ops Q l a w:=by
 intro l
 induction l with
 |nil=>
  intro _ t H t' H' h hQ m a w hS hL hB
  simp[opsR] at h
  obtain⟨rfl,rfl⟩:=h
  exact hQ _ _ _ ⟨rfl,m,hS,hL,hB⟩
 |cons i l ih=>
  intro hi t H t' H' h hQ m a w hS hL hB
  have hio:ops[i]?=some (ops.getD i default):=by
   have:=hi i (by simp)
   rw[Array.getD_eq_getD_getElem?,Array.getElem?_eq_getElem this];rfl
  have ih':=ih fun j hj=>hi j (by simp[hj])
  simp only[wpOpsIn,hio]
  simp only[List.map_cons,opsR] at h
  generalize ops.getD i default=o at h hio
  have hfn:∀f,(fenr ro).fn f:=fun f=>trivial
  cases hg:cGuard ops o.guard with
  |none=>
   have e:cOper K.P K.G ops o=⟨none,.bad,none⟩:=by simp[cOper,hg]
   rw[e] at h
   simp[wanted,aop] at h
  |some g=>
   have e:cOper K.P K.G ops o=⟨o.dst,(cOp K.P K.G o.op).getD .bad,g⟩:=by simp[cOper,hg]
   rw[e] at h
   simp only[] at h
   rw[wanted_R hS hg]
   by_cases hw:wanted t g=true
   ·rw[if_pos hw] at h
    rw[if_pos hw]
    cases hc:cOp K.P K.G o.op with
    |none=>simp[hc,aop] at h
    |some io=>
     rw[hc,Option.getD_some] at h
     obtain⟨r,hr,hh⟩:=bind_some h
     clear h
     have hgood:=good_op hS.rel hS.ops hc hr
     refine⟨fun f _=>hfn f,?_⟩
     rw[Oper.semAt_eq _ _ _ (cOp_defer hc)]
     obtain⟨an,H1⟩:=r
     cases an with
     |v x=>
      simp only[] at hh
      obtain⟨m',w',hval,hR',hL',hB'⟩:=hgood
      rcases hval with ⟨v,hv,hxR⟩|⟨hv,hx⟩
      ·rw[hv]
       exact ih' _ _ _ _ hh hQ m' _ w' (hS.put hR' hL' hxR o.dst) (hL.trans hL') (hB.trans hB')
      ·rw[hv]
       subst hx
       exact ih' _ _ _ _ hh hQ m' _ w' (hS.put hR' hL' (V.R_undef _ _) o.dst) (hL.trans hL') (hB.trans hB')
     |call f args=>
      simp only[] at hh
      obtain⟨rfl,vs,hv,hargs⟩:=hgood
      obtain⟨q,hq,hh⟩:=bind_some hh
      rcases hcall f args _ q.1 q.2 hq m w vs (k-1) hS.rel hargs with ⟨h1,h2⟩|⟨v',m',w',h1,hvR,hR',hL',hB'⟩
      ·rw[hv,h1]
       refine⟨(fun hdd=>absurd hdd (by simp[fenr,Fence.wide])),(show CallsIn (fenr ro) _ _ _ _ _ _ from h2).mono ?_⟩
       rintro e' w' ⟨v',m',rfl,hvR,hR',hL',hB'⟩
       exact ih' _ _ _ _ hh hQ m' _ w' (hS.put hR' hL' hvR o.dst) (hL.trans hL') (hB.trans hB')
      ·rw[hv,h1]
       exact ih' _ _ _ _ hh hQ m' _ w' (hS.put hR' hL' hvR o.dst) (hL.trans hL') (hB.trans hB')
     |yld l' args=>
      simp only[] at hh
      obtain⟨rfl,hl',vs,hv,hargs⟩:=hgood
      obtain⟨q,hq,hh⟩:=bind_some hh
      obtain⟨f,tmps,assign,body,h1,h2⟩:=hround l' args _ q.1 q.2 hq m w vs (k-1) hS.rel hl' hargs
      rw[hv,h1]
      refine⟨(fun hdd=>absurd hdd (by simp[fenr,Fence.wide])),(show RoundIn (fenr ro) _ _ _ _ _ _ _ _ _ from h2).mono ?_⟩
      rintro e' w' ⟨v',m',rfl,hvR,hR',hL',hB'⟩
      exact ih' _ _ _ _ hh hQ m' _ w' (hS.put hR' hL' hvR o.dst) (hL.trans hL') (hB.trans hB')
   ·rw[if_neg hw] at h
    rw[if_neg hw]
    exact⟨fun f _=>hfn f,ih' _ _ _ _ h hQ m _ w (hS.put hS.rel (Later.refl _ _) (V.R_undef _ _) o.dst) hL hB⟩
end Go.Proofs.YtjcgdcadflplcaaDoor.AM
/- AM, sixteenth text: a region that draws its order: each order comes to the same. -/
namespace Go.Proofs.YtjcgdcadflplcaaDoor.AM
open Go Go.RowKit
def act1 (F:FuncId→Option Fun) (rec:Rec) (o:IOper) (t:List V) (H:Heap):Option (V × Heap):=
 if wanted t o.guard then
  (aop (X.ev t) o.op H).bind fun
   |(.v x,H')=>some (x,H')
   |(.call f args,H')=>callR F rec f args H'
   |(.yld l args,H')=>roundR rec l args H'
 else some (.undef,H)
theorem opsR_cons (F:FuncId→Option Fun) (rec:Rec) (o:IOper) (r:List IOper) (t:List V) (H:Heap):
  opsR F rec (o :: r) t H=(act1 F rec o t H).bind fun q=>opsR F rec r (putT t o.dst q.1) q.2:=by
 simp only[opsR,act1]
 split
 ·rw[Option.bind_assoc]
  congr 1
  funext p
  obtain⟨an,H'⟩:=p
  cases an<;>simp
 ·simp
theorem aop_congr {ρ ρ':X→V} (io:IOp) (H:Heap) (h:∀x∈io.xs,ρ x=ρ' x):aop ρ io H=aop ρ' io H:=by
 have ls:∀l:List X,(∀x∈l,ρ x=ρ' x)→l.map ρ=l.map ρ':=fun l hl=>List.map_congr_left hl
 have os:∀o:Option X,(∀x∈o.toList,ρ x=ρ' x)→o.map ρ=o.map ρ':=by
  intro o ho
  cases o with
  |none=>rfl
  |some x=>simp[ho x (by simp)]
 have ps:∀l:List (Nat × Nat × X),(∀x∈l.map fun p=>p.2.2,ρ x=ρ' x)→(l.map fun p=>(p.1,p.2.1,ρ p.2.2))=l.map fun p=>(p.1,p.2.1,ρ' p.2.2):=by
  intro l hl
  refine List.map_congr_left fun p hp=>?_
  rw[hl p.2.2 (List.mem_map_of_mem hp)]
 cases io<;>simp only[IOp.xs] at h<;>first
  |rfl
  |(simp only[aop];rw[h _ (by simp)];done)
  |(simp only[aop];rw[h _ (List.mem_cons_self),h _ (List.mem_cons_of_mem _ List.mem_cons_self)];done)
  |(simp only[aop];rw[ps _ h];done)
  |skip
 case pick a b c=>simp only[aop];rw[h a (by simp),h b (by simp),h c (by simp)]
 case mkfn f a b=>simp only[aop];rw[ls a fun x hx=>h x (by simp[hx]),ls b fun x hx=>h x (by simp[hx])]
 case mkmap a=>cases a<;>simp only[aop];rw[h _ (by simp)]
 case ins k a b c=>simp only[aop];rw[h a (by simp),h b (by simp),h c (by simp)]
 case slS n x a b c=>simp only[aop];rw[h x (by simp),os a fun y hy=>h y (by simp at hy ⊢;simp[hy]),os b fun y hy=>h y (by simp at hy ⊢;simp[hy]),os c fun y hy=>h y (by simp at hy ⊢;simp[hy])]
 case slA k n x a b c=>simp only[aop];rw[h x (by simp),os a fun y hy=>h y (by simp at hy ⊢;simp[hy]),os b fun y hy=>h y (by simp at hy ⊢;simp[hy]),os c fun y hy=>h y (by simp at hy ⊢;simp[hy])]
 case slT x a b=>simp only[aop];rw[h x (by simp),os a fun y hy=>h y (by simp at hy ⊢;simp[hy]),os b fun y hy=>h y (by simp at hy ⊢;simp[hy])]
 case call f l=>simp only[aop];rw[h f (by simp),ls l fun x hx=>h x (by simp[hx])]
 case mx x l=>simp only[aop];rw[h x (by simp),ls l fun x hx=>h x (by simp[hx])]
 case mn x l=>simp only[aop];rw[h x (by simp),ls l fun x hx=>h x (by simp[hx])]
theorem act1_congr {F:FuncId→Option Fun} {rec:Rec} {o:IOper} {t t':List V} {H:Heap} (h:∀s∈o.slots,t[s]?=t'[s]?):act1 F rec o t H=act1 F rec o t' H:=by
 have hw:wanted t o.guard=wanted t' o.guard:=by
  cases hg:o.guard with
  |none=>rfl
  |some p=>obtain⟨j,b⟩:=p;simp only[wanted];rw[h j (by simp[IOper.slots,hg])]
 have ha:aop (X.ev t) o.op H=aop (X.ev t') o.op H:=by
  refine aop_congr _ _ fun x hx=>?_
  cases x with
  |k v=>rfl
  |t i=>simp only[X.ev];rw[h i (by simp only[IOper.slots,List.mem_append,List.mem_filterMap];exact .inl ⟨_,hx,rfl⟩)]
 simp only[act1,hw,ha]
def pval (ρ:X→V):IOp→Option V
 |.mv x=>some (ρ x)
 |.pick c a b=>match ρ c with
  |.c (.bool t)=>some (if t then ρ a else ρ b)
  |_=>none
 |.build z ps=>(fillB z (ps.map fun p=>(p.1,p.2.1,ρ p.2.2))).map .agg
 |.nilck x=>match ρ x with
  |.c (.ptr (some a))=>some (.c (.ptr (some a)))
  |.c (.fn f g h)=>some (.c (.fn f g h))
  |_=>none
 |.bin op x y=>match ρ x,ρ y with
  |.c x,.c y=>(binC op x y).map .c
  |_,_=>none
 |.eq k neg x y=>match ρ x,ρ y with
  |.c x,.c y=>(eqC k x y).map fun b=>.c (.bool (b != neg))
  |_,_=>none
 |.eqagg L neg x y=>match ρ x,ρ y with
  |.agg x,.agg y=>if x.length=L.length∧y.length=L.length then (eqCs L x y).map fun b=>.c (.bool (b != neg)) else none
  |_,_=>none
 |.un op x=>match ρ x with
  |.c x=>(unC op x).map .c
  |_=>none
 |.cv k x=>match ρ x with
  |.c (.int _ n)=>some (.c (.int k (k.wrap n)))
  |_=>none
 |.mkfn f first caps=>(adsOf (first.map ρ)).bind fun fs=>(adsOf (caps.map ρ)).map fun cs=>.c (.fn f fs cs)
 |.slS sz x lo hi mx=>match ρ x with
  |.c (.sl a n c opn)=>(bnds n c (lo.map ρ) (hi.map ρ) (mx.map ρ)).map fun q=>
   .c (.sl (if q.2.2=q.1∧(opn && mx.isNone)=false then a else a.map (addA · (q.1 * sz))) (q.2.1-q.1) (q.2.2-q.1) (opn && mx.isNone))
  |_=>none
 |.slA n sz x lo hi mx=>match ρ x with
  |.c (.ptr (some a))=>(bnds n n (lo.map ρ) (hi.map ρ) (mx.map ρ)).map fun q=>.c (.sl (some (if q.2.2=q.1 then a else addA a (q.1 * sz))) (q.2.1-q.1) (q.2.2-q.1) false)
  |_=>none
 |.slT x lo hi=>match ρ x with
  |.c (.str s)=>(bnds s.size s.size (lo.map ρ) (hi.map ρ) none).map fun q=>.c (.str (s.extract q.1 q.2.1))
  |_=>none
 |.fa off x=>(adOf (ρ x)).map fun a=>.c (.ptr (some (addA a off)))
 |.fld off n x=>match ρ x with
  |.agg cs=>prd cs off n
  |_=>none
 |.iaS sz x i=>match ρ x with
  |.c (.sl (some a) n _ _)=>(asI (ρ i)).bind fun i=>if 0≤i∧i<n then some (.c (.ptr (some (addA a (i.toNat * sz))))) else none
  |_=>none
 |.iaA len sz x i=>(adOf (ρ x)).bind fun a=>(asI (ρ i)).bind fun i=>if 0≤i∧i<len then some (.c (.ptr (some (addA a (i.toNat * sz))))) else none
 |.ix len sz n x i=>match ρ x with
  |.agg cs=>(asI (ρ i)).bind fun i=>if 0≤i∧i<len then prd cs (i.toNat * sz) n else none
  |_=>none
 |.ixT x i=>match ρ x with
  |.c (.str s)=>(asI (ρ i)).bind fun i=>if 0≤i then (s.data[i.toNat]?).map fun b=>.c (.int .u8 b.toNat) else none
  |_=>none
 |.ext x i=>match ρ x with
  |.tup l=>(l[i]?).map Pc.v
  |_=>none
 |.len str x=>match str,ρ x with
  |true,.c (.str s)=>some (.c (.int .i64 s.size))
  |false,.c (.sl _ n _ _)=>some (.c (.int .i64 n))
  |_,_=>none
 |.lenK n=>some (.c (.int .i64 n))
 |.mx x ys=>maxI (ρ x) (ys.map ρ) fun a b=>if b > a then b else a
 |.mn x ys=>maxI (ρ x) (ys.map ρ) fun a b=>if b<a then b else a
 |_=>none
theorem aop_pval {ρ:X→V} {io:IOp} (h:io.pure=true) (H:Heap):aop ρ io H=(pval ρ io).map fun v=>(.v v,H):=by
 cases io<;>simp only[IOp.pure,Bool.false_eq_true] at h<;>simp only[aop,pval]<;>first
  |rfl
  |(simp only[Option.map_map,Function.comp_def];done)
  |(split<;>simp_all [Option.map_map,Function.comp_def];done)
  |skip
 all_goals first
  |(split<;>(first|rfl|(simp only[Option.map_map,Function.comp_def];done)|(simp only[Option.map_none];done));done)
  |skip
 case eqagg L neg x y=>
  generalize ρ x=vx
  generalize ρ y=vy
  cases vx with
  |agg l=>
   cases vy with
   |agg l'=>
    by_cases hl:l.length=L.length∧l'.length=L.length
    ·simp only[hl,and_self,if_true,Option.map_map,Function.comp_def]
    ·simp only[hl,if_false,Option.map_none]
   |_=>rfl
  |_=>rfl
 case mkfn f a b=>cases adsOf (a.map ρ)<;>simp[Option.map_map,Function.comp_def]
 case slS n x a b c=>
  generalize ρ x=vx
  cases vx with
  |c x=>
   cases x with
   |sl p k q o=>simp only[];cases bnds k q (a.map ρ) (b.map ρ) (c.map ρ)<;>rfl
   |_=>rfl
  |_=>rfl
 case iaA n k x i=>
  cases adOf (ρ x)<;>try rfl
  cases asI (ρ i)<;>try rfl
  simp only[Option.bind_some]
  split<;>rfl
 case ix n k rd x i=>
  generalize ρ x=vx
  cases vx with
  |agg l=>
   simp only[]
   cases asI (ρ i) with
   |none=>rfl
   |some j=>simp only[Option.bind_some];split<;>rfl
  |_=>rfl
 case ixT x i=>
  generalize ρ x=vx
  cases vx with
  |c x=>
   cases x with
   |str s=>
    simp only[]
    cases asI (ρ i) with
    |none=>rfl
    |some j=>
     simp only[Option.bind_some]
     split
     ·simp only[Option.map_map,Function.comp_def]
     ·rfl
   |_=>rfl
  |_=>rfl
theorem aop_reads {ρ:X→V} {io:IOp} (h:io.reads=true) (H:Heap):∃q:Option V,aop ρ io H=q.map fun v=>(.v v,H):=by
 by_cases hp:io.pure=true
 ·exact⟨_,aop_pval hp H⟩
 ·cases io<;>simp[IOp.reads,IOp.pure] at h hp
  case ld n x=>
   refine⟨(adOf (ρ x)).bind fun a=>H.rd a n,?_⟩
   simp only[aop]
   cases adOf (ρ x)<;>simp
  case b2s x=>exact⟨b2sO H (ρ x),rfl⟩
  case same n a x=>
   refine⟨(rdK H n (ρ a)).bind fun v=>if v=ρ x then some .undef else none,?_⟩
   simp only[aop]
   cases rdK H n (ρ a) with
   |none=>rfl
   |some v=>simp only[Option.bind_some];split<;>rfl
  case look kk z ok a k=>
   simp only[aop]
   split
   ·split
    ·split
     ·cases ok with
      |false=>rename_i kc _ _ _ es _ _;exact⟨(findE kc es).map fun e=>e.getD z,by cases findE kc es<;>rfl⟩
      |true=>rename_i kc _ _ _ es _ _;exact⟨(findE kc es).bind fun e=>((e.getD z).pc).map fun p=>V.tup [p,.c (.bool e.isSome)],by simp[Option.map_bind,Function.comp_def,Option.map_map]⟩
     ·exact⟨none,rfl⟩
    ·exact⟨none,rfl⟩
   ·exact⟨none,rfl⟩
theorem putT_ne {t:List V} {d:Option Nat} {v:V} {i:Nat} (h:d≠some i):(putT t d v)[i]?=t[i]?:=by
 cases d with
 |none=>rfl
 |some d=>simp only[putT];rw[List.getElem?_set_ne (fun e=>h (by rw[e]))]
theorem putT_comm {t:List V} {d e:Option Nat} {v u:V} (h:∀i,d=some i→e≠some i):putT (putT t d v) e u=putT (putT t e u) d v:=by
 cases d with
 |none=>rfl
 |some d=>
  cases e with
  |none=>rfl
  |some e=>simp only[putT];exact List.set_comm _ _ (fun q=>h d rfl (by rw[q]))
theorem act1_pure {F:FuncId→Option Fun} {rec:Rec} {o:IOper} (h:o.op.pure=true) (t:List V):∃q:Option V,∀H,act1 F rec o t H=q.map fun v=>(v,H):=by
 by_cases hw:wanted t o.guard=true
 ·refine⟨pval (X.ev t) o.op,fun H=>?_⟩
  simp only[act1,hw,if_true,aop_pval h]
  cases pval (X.ev t) o.op<;>rfl
 ·exact⟨some .undef,fun H=>by simp only[act1,hw,if_false,Bool.false_eq_true];rfl⟩
theorem act1_reads {F:FuncId→Option Fun} {rec:Rec} {o:IOper} (h:o.op.reads=true) (t:List V) (H:Heap):∃q:Option V,act1 F rec o t H=q.map fun v=>(v,H):=by
 by_cases hw:wanted t o.guard=true
 ·obtain⟨q,hq⟩:=aop_reads (ρ:=X.ev t) h H
  refine⟨q,?_⟩
  simp only[act1,hw,if_true,hq]
  cases q<;>rfl
 ·exact⟨some .undef,by simp only[act1,hw,if_false,Bool.false_eq_true];rfl⟩
inductive Ahead (ops:List Oper):Nat→Nat→Prop
 |one {i j:Nat} {o:Oper} {e:Edge} (ho:ops[j]?=some o) (he:e∈bound o) (hi:e.on=i):Ahead ops i j
 |more {i k j:Nat} {o:Oper} {e:Edge} (ho:ops[j]?=some o) (he:e∈bound o) (hk:e.on=k) (h:Ahead ops i k):Ahead ops i j
theorem bits_anc (acc:List Nat) (i:Nat):∀(es:List Edge),(es.foldr (fun(e:Edge) (s:Nat)=>2 ^ e.on ||| (acc[e.on]?).getD 0 ||| s) 0).testBit i=true→∃e∈es,e.on=i∨((acc[e.on]?).getD 0).testBit i=true:=by
 intro es
 induction es with
 |nil=>intro h;simp at h
 |cons e es ih=>
  intro h
  simp only[List.foldr_cons,Nat.testBit_or,Bool.or_eq_true,Nat.testBit_two_pow,decide_eq_true_eq] at h
  rcases h with (h|h)|h
  ·exact⟨e,by simp,.inl h⟩
  ·exact⟨e,by simp,.inr h⟩
  ·obtain⟨e',h1,h2⟩:=ih h
   exact⟨e',by simp[h1],h2⟩
theorem ancs_ok (ops:List Oper):∀(r:List Oper) (acc:List Nat),(∀j,r[j]?=ops[acc.length+j]?)→(∀j a,acc[j]?=some a→∀i,a.testBit i=true→Ahead ops i j)→∀j a,(ancs r acc)[j]?=some a→∀i,a.testBit i=true→Ahead ops i j:=by
 intro r
 induction r with
 |nil=>intro acc _ h;exact h
 |cons o r ih=>
  intro acc hr h
  refine ih _ (fun j=>?_) ?_
  ·have:=hr (j+1)
   simp only[List.getElem?_cons_succ] at this
   rw[this]
   congr 1
   simp;omega
  ·intro j a hj i hi
   by_cases hlt:j<acc.length
   ·rw[List.getElem?_append_left hlt] at hj
    exact h j a hj i hi
   ·rw[List.getElem?_append_right (by omega)] at hj
    have hj0:j-acc.length=0:=by
     have:=(List.getElem?_eq_some_iff.1 hj).1
     simp at this;omega
    rw[hj0] at hj
    simp only[List.getElem?_cons_zero,Option.some.injEq] at hj
    subst hj
    have hj':j=acc.length:=by omega
    have ho:ops[j]?=some o:=by
     have:=hr 0
     rw[hj',←Nat.add_zero acc.length,←this];rfl
    obtain⟨e,he,h1|h1⟩:=bits_anc acc i _ hi
    ·exact .one ho he h1
    ·cases hk:acc[e.on]? with
     |none=>rw[hk] at h1;simp at h1
     |some b=>
      rw[hk] at h1
      exact .more ho he rfl (h e.on b hk i h1)
theorem getD_set {l:Array Bool} {i j:Nat} {d:Bool} (hi:i<l.size):(l.setIfInBounds i true).getD j d=if i=j then true else l.getD j d:=by
 simp only[Array.getD_eq_getD_getElem?,Array.getElem?_setIfInBounds]
 by_cases e:i=j
 ·subst e;simp[hi]
 ·simp[e]
end Go.Proofs.YtjcgdcadflplcaaDoor.AM
/- AM, seventeenth text: calls, rounds, code: what the abstract machine comes to, the machine comes to. -/
namespace Go.Proofs.YtjcgdcadflplcaaDoor.AM
open Go Go.RowKit
section
variable {K:Ctx} {base:Nat}
theorem res_run {m:Inj} {H:Heap} {w:World} (hR:Rel K m base H w) {t:List V} {tmps:Array Value} (ht:All2 (V.R m H.length) t tmps.toList):∀(rs:List ResultVar) (res:List (Nat × Option (Option Nat))) (vs:List V),cRes K.P rs=some res→res.mapM (resV t H)=some vs→
  ∃us:List Value,(rs.mapM (fun|.tmp i=>pure (tmps.getD i undef)|.cell a T=>do loadVar T (←asAddr (tmps.getD a undef))):Sem (List Value)).run K.P w=.ok us w∧All2 (V.R m H.length) vs us:=by
 have slot:∀i,((t[i]?).getD V.undef).R m H.length (tmps.getD i undef):=by
  intro i
  cases hi:t[i]? with
  |none=>
   have:=ht.get_none hi
   simp at this
   rw[Option.getD_none,Array.getD_eq_getD_getElem?,Array.getElem?_eq_none this]
   exact V.R_undef _ _
  |some v=>
   obtain⟨v',h1,h2⟩:=ht.get hi
   simp at h1
   rw[Option.getD_some,Array.getD_eq_getD_getElem?,h1]
   exact h2
 intro rs
 induction rs with
 |nil=>intro res vs h hv;simp[cRes] at h;subst h;simp at hv;subst hv;exact⟨[],by simp,.nil⟩
 |cons r rs ih=>
  intro res vs h hv
  cases r with
  |tmp i=>
   obtain⟨res',h1,rfl⟩:=map_some' h
   rw[List.mapM_cons] at hv
   obtain⟨v,hv1,hv⟩:=bind_some hv
   obtain⟨vs',hv2,hv⟩:=bind_some hv
   cases hv
   obtain⟨us,hu1,hu2⟩:=ih res' vs' h1 hv2
   simp only[resV,Option.some.injEq] at hv1
   subst hv1
   refine⟨tmps.getD i undef :: us,?_,.cons (slot i) hu2⟩
   rw[List.mapM_cons]
   simp only[Sem.run_bind,Sem.run_pure,Result.andThen_ok,hu1]
  |cell a T=>
   simp only[cRes] at h
   obtain⟨n,hn,h⟩:=bind_some h
   obtain⟨res',h1,rfl⟩:=map_some' h
   rw[List.mapM_cons] at hv
   obtain⟨v,hv1,hv⟩:=bind_some hv
   obtain⟨vs',hv2,hv⟩:=bind_some hv
   cases hv
   obtain⟨us,hu1,hu2⟩:=ih res' vs' h1 hv2
   simp only[resV] at hv1
   obtain⟨d,hd,hv1⟩:=bind_some hv1
   obtain⟨e,_⟩:=adOf_R hd (slot a)
   obtain⟨u,hu3,hu4⟩:=hR.loadVar hn hv1
   refine⟨u :: us,?_,.cons hu4 hu2⟩
   rw[List.mapM_cons,Sem.run_bind]
   have key:(do loadVar T (←asAddr (tmps.getD a undef)):Sem Value).run K.P w=.ok u w:=by
    simp only[Sem.run_bind,e,asAddr,Sem.run_pure,Result.andThen_ok,hu3]
   refine(congrArg (fun r:Result Value=>r.andThen _) key).trans ?_
   simp only[Result.andThen_ok,Sem.run_bind,hu1,Sem.run_pure]
theorem pcs_R {m:Inj} {n:Nat}:∀{vs:List V} {us:List Value} {ps:List Pc},vs.mapM V.pc=some ps→All2 (V.R m n) vs us→All2 (Pc.R m n) ps us:=by
 intro vs
 induction vs with
 |nil=>intro us ps h hv;cases hv;simp at h;subst h;exact .nil
 |cons v vs ih=>
  intro us ps h hv
  cases hv with
  |@cons _ u _ us hx hv=>
   rw[List.mapM_cons] at h
   obtain⟨p,h1,h⟩:=bind_some h
   obtain⟨ps',h2,h⟩:=bind_some h
   cases h
   refine .cons ?_ (ih h2 hv)
   cases v with
   |c x=>simp[V.pc] at h1;subst h1;exact hx
   |agg l=>simp[V.pc] at h1;subst h1;exact hx
   |tup l=>simp[V.pc] at h1
theorem results_run {m:Inj} {H:Heap} {w:World} (hR:Rel K m base H w) {t:List V} {tmps:Array Value} (ht:All2 (V.R m H.length) t tmps.toList) {fn:Func} {res:List (Nat × Option (Option Nat))} (hc:cRes K.P fn.results.toList=some res) {v:V} (h:resOf t H res=some v):
  ∃u,(results fn tmps).run K.P w=.ok u w∧v.R m H.length u:=by
 obtain⟨vs,hvs,h⟩:=bind_some h
 obtain⟨us,hu1,hu2⟩:=res_run hR ht fn.results.toList res vs hc hvs
 have hrun:(results fn tmps).run K.P w=.ok (if h:us.toArray.size=1 then us.toArray[0] else .tuple us.toArray) w:=by
  unfold results
  rw[Array.mapM_eq_mapM_toList]
  simp only[Sem.run_bind,Sem.run_map,Sem.run_pure]
  exact Eq.trans (congrArg (fun r:Result (List Value)=>(r.andThen fun a w'=>Result.ok a.toArray w').andThen fun a w'=>Result.ok (if h:a.size=1 then a[0] else Value.tuple a) w') hu1) rfl
 rw[hrun]
 have hlen:=hu2.length
 match vs,h with
 |[],h=>
  cases hu2
  simp at h
  subst h
  exact⟨.tuple #[],rfl,#[],rfl,.nil⟩
 |[v'],h=>
  cases hu2 with
  |cons hx hn=>
   cases hn
   simp at h
   subst h
   exact⟨_,rfl,hx⟩
 |v1 :: v2 :: vs',h=>
  obtain⟨ps,h1,h2⟩:=map_some' h
  subst h2
  have:¬us.toArray.size=1:=by simp at hlen ⊢;omega
  rw[dif_neg this]
  exact⟨_,rfl,us.toArray,rfl,pcs_R h1 hu2⟩
theorem leaves_sound {fn:Func} {res:List (Nat × Option (Option Nat))} (hc:cRes K.P fn.results.toList=some res) {t:List V} {tmps:Array Value} {v:V} {H':Heap} {k:Nat} {m0:Inj} {n0:Nat} {w0:World}:∀(ds:List Nat) (ls:List Deferred) (H:Heap) (m:Inj) (w:World),Rel K m base H w→All2 (V.R m H.length) t tmps.toList→
  All2 (fun(D:Nat) (d:Deferred)=>D<H.length∧d={ target:=.collected (m D).blk,args:=#[] }) ds ls→shutAll ds H=some H'→resOf t H' res=some v→Later m0 n0 m H.length→Below base w0 w→
  LeavesInM Fence.wide k K.P fn tmps (CPost K base m0 n0 w0 v H') ls .returning w:=by
 intro ds
 induction ds with
 |nil=>
  intro ls H m w hR ht hds hs hr hL hB
  cases hds
  simp[shutAll] at hs
  subst hs
  obtain⟨u,hu1,hu2⟩:=results_run hR ht hc hr
  exact⟨u,hu1,u,m,rfl,hu2,hR,hL,hB⟩
 |cons D ds ih=>
  intro ls H m w hR ht hds hs hr hL hB
  cases hds with
  |@cons _ d _ ls hd hds=>
   obtain⟨hDl,rfl⟩:=hd
   simp only[shutAll] at hs
   split at hs
   ·rename_i hD
    obtain⟨hb1,hb2⟩:=hR.blk D _ hD
    have hnc:∀C T fz,Obj.deferred (some [])≠.cells C T fz:=by intros;simp
    obtain⟨hR',hB'⟩:=hR.turnObj (y:=.shut) (o':=.deferred none) hD rfl hb2 ⟨hb1,set_self hb2⟩ rfl
    refine⟨by simp,.inl ⟨_,_,rfl,?_,ih ls _ m _ hR' (by rw[List.length_set];exact ht) (by rw[List.length_set];exact hds) hs hr (by rw[List.length_set];exact hL) (hB.trans hB')⟩⟩
    unfold Instr.takeDeferred
    simp only[Sem.run_bind,run_getObj hb2 hnc,Result.andThen_ok,run_setObj hb2 hnc,Sem.run_pure]
   ·cases hs
theorem undefs_R (m:Inj) (n k:Nat):All2 (V.R m n) (List.replicate k V.undef) (List.replicate k undef):=All2.replicate (V.R_undef _ _) k
theorem code_sound (hF:OkF K base) {rec:Rec} (hrec:SoundR K base rec) (f:FuncId) (args:List V) (H:Heap) (v:V) (H':Heap) (h:callR K.F rec f args H=some (v,H')) (m:Inj) (w:World) (vs:Array Value) (k:Nat) (hR:Rel K m base H w) (ha:All2 (V.R m H.length) args vs.toList) (hx:∀g,K.F f≠some (.ext g)):
  (callFunc f vs).run K.P w=.ok (.enter f vs) w∧CallsIn Fence.wide k K.P f vs w (CPost K base m H.length w v H'):=by
 unfold callR at h
 cases hf:K.F f with
 |none=>simp[hf] at h
 |some g=>
  have h0:=hF f g hf
  rw[hf] at h
  cases g with
  |ext g=>exact absurd hf (hx g)
  |code i=>
   obtain⟨h1,h2⟩:=h0
   refine⟨h1 vs w,?_⟩
   obtain⟨fn,hfn,hcomp⟩:=h2
   simp only[] at h
   unfold compF at hcomp
   obtain⟨c,hb,hcomp⟩:=bind_some hcomp
   obtain⟨res,hres,rfl⟩:=map_some' hcomp
   obtain⟨⟨e,s'⟩,hbody,h⟩:=bind_some h
   simp only[] at hbody h
   have hlen:=ha.length
   simp at hlen
   have hS:SRel K base m (args++List.replicate (fn.ntmps-args.length) V.undef) [] H { tmps:=vs++Array.replicate (fn.ntmps-vs.size) undef,defers:=[] } w:=
    ⟨hR,by rw[Array.toList_append,Array.toList_replicate,hlen];exact ha.append (undefs_R _ _ _),.nil⟩
   have hw:=hrec c none _ e s' hbody m _ w k hS (fun l hl=>by cases hl)
   refine callsIn_of_wp_marks hfn hb trivial (wpIn_mono hw ?_)
   rintro e' a' w' ⟨rfl,m',hS',hL,hB⟩
   have fin:(shutAll s'.ds s'.H).bind (fun H'=>(resOf s'.t H' res).map fun v=>(v,H'))=some (v,H')→LeavesInM Fence.wide k K.P fn a'.tmps (CPost K base m H.length w v H') a'.defers .returning w':=by
    intro h
    obtain⟨H2,hs,h⟩:=bind_some h
    obtain⟨v2,hv,h⟩:=map_some' h
    cases h
    exact leaves_sound hres s'.ds a'.defers s'.H m' w' hS'.rel hS'.t hS'.ds hs hv hL hB
   cases e with
   |normal=>exact fin h
   |ret=>exact fin h
   |exit i=>cases h
theorem call_sound (hF:OkF K base) {rec:Rec} (hrec:SoundR K base rec) (f:FuncId) (args:List V) (H:Heap) (v:V) (H':Heap) (h:callR K.F rec f args H=some (v,H')) (m:Inj) (w:World) (vs:Array Value) (k:Nat) (hR:Rel K m base H w) (ha:All2 (V.R m H.length) args vs.toList):
  CallOk K base f vs m H w v H' k:=by
 by_cases hx:∀g,K.F f≠some (.ext g)
 ·exact .inl (code_sound hF hrec f args H v H' h m w vs k hR ha hx)
 ·have:∃g,K.F f=some (.ext g):=Classical.byContradiction fun hn=>hx fun g hg=>hn ⟨g,hg⟩
  obtain⟨g,hg⟩:=this
  have h0:ExtOk K base f g:=hF f _ hg
  simp only[callR,hg] at h
  exact h0.run args H v H' h m w vs hR ha k
theorem zip_fold {m:Inj} {n:Nat}:∀(ps:List Nat) {args:List V} {vs:List Value},All2 (V.R m n) args vs→∀{t:List V} {tmps:Array Value},All2 (V.R m n) t tmps.toList→
  All2 (V.R m n) ((ps.zip args).foldl (fun t p=>t.set p.1 p.2) t) ((ps.zip vs).foldl (fun(tmps:Array Value) p=>tmps.setIfInBounds p.1 p.2) tmps).toList:=by
 intro ps
 induction ps with
 |nil=>intro args vs _ t tmps ht;exact ht
 |cons p ps ih=>
  intro args vs ha t tmps ht
  cases ha with
  |nil=>exact ht
  |cons hx ha=>
   simp only[List.zip_cons_cons,List.foldl_cons]
   exact ih ha (by rw[Array.toList_setIfInBounds];exact ht.set hx)
theorem Post.trans {m m1:Inj} {n n1:Nat} {w w1:World} {e:Ex} {s:St} (hL:Later m n m1 n1) (hB:Below base w w1) {e':Exit} {a':Act} {w':World} (h:Post K base m1 n1 w1 e s e' a' w'):Post K base m n w e s e' a' w':=by
 obtain⟨h1,m',h2,h3,h4⟩:=h
 exact⟨h1,m',h2,hL.trans h3,hB.trans h4⟩
theorem round_sound {rec:Rec} (hrec:SoundR K base rec) (l:Nat) (args:List V) (H:Heap) (v:V) (H':Heap) (h:roundR rec l args H=some (v,H')) (m:Inj) (w:World) (vs:Array Value) (k:Nat) (hR:Rel K m base H w) (hl:l<H.length) (ha:All2 (V.R m H.length) args vs.toList):
  ∃f tmps assign body,(Instr.yield (m l).blk vs).run K.P w=.ok (.round (m l).blk f tmps assign body) w∧RoundIn Fence.wide k K.P (m l).blk f tmps assign body w (CPost K base m H.length w v H'):=by
 unfold roundR at h
 split at h
 ·rename_i pd r hloop
  obtain⟨hb1,L,hb2,hb3⟩:=hR.blk l _ hloop
  have hnc:∀(L:Loop) C T fz,Obj.loop L≠.cells C T fz:=by intros;simp
  split at h
  ·rename_i hlen
   obtain⟨⟨e1,s1⟩,hq1,h⟩:=bind_some h
   simp only[] at h
   split at h
   ·rename_i _ pd1 r1 hloop1
    obtain⟨⟨e2,s2⟩,hq2,h⟩:=bind_some h
    simp only[] at h hq2
    have hsz:vs.size=L.params.size:=by
     have h1:=ha.length
     have h2:=hb3.ps
     simp at h1
     rw[←h1,hlen,←h2]
     simp
    refine⟨L.fn,(L.params.zip vs).foldl (fun tmps (t,a)=>tmps.setIfInBounds t a) L.tmps,L.assign,L.body,?_,?_⟩
    ·unfold Instr.yield Instr.getLoop
     simp only[Sem.run_bind,run_getObj hb2 (hnc L),Result.andThen_ok,Sem.run_pure]
     rw[if_neg (by simpa using hsz)]
     rfl
    ·refine roundIn_of_wpIn trivial ?_
     have hS1:SRel K base m ((r.ps.zip args).foldl (fun t p=>t.set p.1 p.2) r.t) [] H { tmps:=(L.params.zip vs).foldl (fun tmps (t,a)=>tmps.setIfInBounds t a) L.tmps,defers:=[] } w:=by
      refine⟨hR,?_,.nil⟩
      have:=zip_fold r.ps ha hb3.t
      rw[←Array.foldl_toList,Array.toList_zip,hb3.ps]
      exact this
     have hw1:=hrec L.assign (some l) _ .normal s1 (by rw[hb3.assign];exact hq1) m _ w k hS1 (fun q hq=>by cases hq;exact hl)
     refine wpIn_mono (show L.assign.wpIn (fen m (some l)) k K.P _ _ w from hw1) ?_
     rintro e' a1 w1 ⟨rfl,m1,hS1',hL1,hB1⟩
     -- the round begins
     obtain⟨hc1,L1,hc2,hc3⟩:=hS1'.rel.blk l _ hloop1
     have hml:m1 l=m l:=hL1.2 l hl
     obtain⟨hR2,hB2⟩:=hS1'.rel.turnObj (y:=.loop .busy pd1 r1) (o':=.loop { L1 with state:=.busy }) hloop1 rfl hc2 ⟨hc1,_,set_self hc2,⟨rfl,hc3.pend,hc3.pdn,hc3.t,hc3.ps,hc3.assign,hc3.body,hc3.dlt,hc3.defers⟩⟩ rfl
     refine⟨{ w1 with heap:=w1.heap.setIfInBounds (m1 l).blk (.loop { L1 with state:=.busy }) },?_,?_⟩
     ·show (Instr.beginRound (m l).blk).run K.P w1=.ok () { w1 with heap:=w1.heap.setIfInBounds (m1 l).blk (.loop { L1 with state:=.busy }) }
      unfold Instr.beginRound Instr.getLoop
      rw[←hml]
      simp only[Sem.run_bind,run_getObj hc2 (hnc L1),Result.andThen_ok,Sem.run_pure,run_setObj hc2 (hnc L1)]
      rw[hc3.state]
      rfl
     ·have hS2:SRel K base m1 s1.t s1.ds (s1.H.set l (.loop .busy pd1 r1)) a1 { w1 with heap:=w1.heap.setIfInBounds (m1 l).blk (.loop { L1 with state:=.busy }) }:=
       ⟨hR2,by rw[List.length_set];exact hS1'.t,by rw[List.length_set];exact hS1'.ds⟩
      have hll:l<s1.H.length:=(List.getElem?_eq_some_iff.1 hloop1).1
      have hw2:=hrec L.body (some l) _ e2 s2 (by rw[hb3.body];exact hq2) m1 _ _ k hS2 (fun q hq=>by cases hq;rw[List.length_set];exact hll)
      have hfen:fen m1 (some l)=Fence.wide.inRound (m l).blk:=by simp[fen,fenr,Fence.inRound,hml]
      rw[hfen] at hw2
      refine wpIn_mono hw2 ?_
      rintro e' a2 w2 ⟨rfl,m2,hS2',hL2,hB3⟩
      simp only[List.length_set] at hL2
      split at h
      ·rename_i pd2 r2 hloop2
       obtain⟨hd1,L2,hd2,hd3⟩:=hS2'.rel.blk l _ hloop2
       have hml2:m2 l=m l:=(hL2.2 l hll).trans hml
       have fin:∀(st:LSt) (pd':Option Ex) (j:Option Code) (b:Bool),pd'≠some .normal→j=pd'.bind exCode→lstOf st=(if j.isNone then LoopState.ready else .done)→b=j.isNone→v=.c (.bool b)→H'=s2.H.set l (.loop st pd' r2)→
         ∃u w',(Instr.endRound (m l).blk j).run K.P w2=.ok u w'∧CPost K base m H.length w v H' (.returned u) w':=by
        intro st pd' j b hpd hj hst hb hv hH'
        obtain⟨hR3,hB4⟩:=hS2'.rel.turnObj (y:=.loop st pd' r2) (o':=.loop { L2 with state:=if j.isNone then .ready else .done,pending:=j }) hloop2 rfl hd2
         ⟨hd1,_,set_self hd2,⟨hst.symm,hj,hpd,hd3.t,hd3.ps,hd3.assign,hd3.body,hd3.dlt,hd3.defers⟩⟩ rfl
        refine⟨.bool j.isNone,_,?_,.bool j.isNone,m2,rfl,?_,by rw[hH'];exact hR3,?_,((hB1.trans hB2).trans hB3).trans hB4⟩
        ·show (Instr.endRound (m l).blk j).run K.P w2=.ok (.bool j.isNone) { w2 with heap:=w2.heap.setIfInBounds (m2 l).blk (.loop { L2 with state:=if j.isNone then .ready else .done,pending:=j }) }
         unfold Instr.endRound Instr.getLoop
         rw[←hml2]
         simp only[Sem.run_bind,run_getObj hd2 (hnc L2),Result.andThen_ok,Sem.run_pure,run_setObj hd2 (hnc L2)]
        ·rw[hv,hb];exact(rfl:(V.c (.bool j.isNone)).R m2 H'.length (.bool j.isNone))
        ·rw[hH',List.length_set];exact hL1.trans hL2
       cases e2 with
       |normal=>
        simp only[Option.some.injEq,Prod.mk.injEq] at h
        exact fin .ready none none true (by simp) rfl rfl rfl h.1.symm h.2.symm
       |ret=>
        simp only[Option.some.injEq,Prod.mk.injEq] at h
        exact fin .done (some .ret) (some .ret) false (by simp) rfl rfl rfl h.1.symm h.2.symm
       |exit i=>
        simp only[Option.some.injEq,Prod.mk.injEq] at h
        exact fin .done (some (.exit i)) (some (.exit i)) false (by simp) rfl rfl rfl h.1.symm h.2.symm
      ·cases h
   ·cases h
  ·cases h
 ·cases h
end
end Go.Proofs.YtjcgdcadflplcaaDoor.AM
/- AM: operations of which the order is open change places; what they come to corresponds. -/
namespace Go.Proofs.YtjcgdcadflplcaaDoor.AM
open Go Go.RowKit
def idn (n:Nat):BJ:=fun b b'=>b=b'∧b<n
structure Wf (t:List V) (H:Heap):Prop where
 t:All2 (VJ (idn H.length)) t t
 h:HJ (idn H.length) H H
def EqS (n:Nat) (r r':List V × Heap):Prop:=∃p:BJ,All2 (VJ p) r.1 r'.1∧HJ p r.2 r'.2∧(∀b,b<r.2.length→∃b',p b b')∧(∀b',b'<r'.2.length→∃b,p b b')∧∀b,b<n→p b b
theorem EqS.refl {n:Nat} {r:List V × Heap} (h:Wf r.1 r.2) (hn:n≤r.2.length):EqS n r r:=
 ⟨_,h.t,h.h,fun b hb=>⟨b,rfl,hb⟩,fun b hb=>⟨b,rfl,hb⟩,fun b hb=>⟨rfl,by omega⟩⟩
def cmp (p q:BJ):BJ:=fun a c=>∃b,p a b∧q b c
section
variable {p q:BJ}
theorem AdJ.comp {a b c:Ad} (h:AdJ p a b) (i:AdJ q b c):AdJ (cmp p q) a c:=⟨⟨_,h.1,i.1⟩,h.2.trans i.2⟩
theorem All2.comp {α β γ:Type} {R:α→β→Prop} {S:β→γ→Prop} {T:α→γ→Prop} (h:∀a b c,R a b→S b c→T a c):∀{l:List α} {m:List β} {r:List γ},All2 R l m→All2 S m r→All2 T l r
 |[],[],[],.nil,.nil=>.nil
 |_ :: _,_ :: _,_ :: _,.cons a b,.cons c d=>.cons (h _ _ _ a c) (All2.comp h b d)
theorem CJ.comp {a b c:Cell} (h:CJ p a b) (i:CJ q b c):CJ (cmp p q) a c:=by
 cases h with
 |bool=>cases i;exact .bool _
 |int=>cases i;exact .int _ _
 |str=>cases i;exact .str _
 |ptrN=>cases i;exact .ptrN
 |slN=>cases i;exact .slN _ _ _
 |mapN=>cases i;exact .mapN
 |nilFn=>cases i;exact .nilFn
 |nilIface=>cases i;exact .nilIface
 |ptr h=>cases i with
  |ptr i=>exact .ptr (h.comp i)
 |sl h=>cases i with
  |sl i=>exact .sl (h.comp i) _ _ _
 |map h=>cases i with
  |map i=>exact .map ⟨_,h,i⟩
 |yld h=>cases i with
  |yld i=>exact .yld ⟨_,h,i⟩
 |fn f h h2=>cases i with
  |fn _ i i2=>exact .fn f (All2.comp (R:=AdJ p) (S:=AdJ q) (T:=AdJ (cmp p q)) (fun _ _ _ k j=>AdJ.comp k j) h i) (All2.comp (R:=AdJ p) (S:=AdJ q) (T:=AdJ (cmp p q)) (fun _ _ _ k j=>AdJ.comp k j) h2 i2)
theorem PJ.comp {a b c:Pc} (h:PJ p a b) (i:PJ q b c):PJ (cmp p q) a c:=by
 cases h with
 |c h=>cases i with
  |c i=>exact .c (h.comp i)
 |agg h=>cases i with
  |agg i=>exact .agg (All2.comp (R:=CJ p) (S:=CJ q) (T:=CJ (cmp p q)) (fun _ _ _ k j=>CJ.comp k j) h i)
theorem VJ.comp {a b c:V} (h:VJ p a b) (i:VJ q b c):VJ (cmp p q) a c:=by
 cases h with
 |c h=>cases i with
  |c i=>exact .c (h.comp i)
 |agg h=>cases i with
  |agg i=>exact .agg (All2.comp (R:=CJ p) (S:=CJ q) (T:=CJ (cmp p q)) (fun _ _ _ k j=>CJ.comp k j) h i)
 |tup h=>cases i with
  |tup i=>exact .tup (All2.comp (R:=PJ p) (S:=PJ q) (T:=PJ (cmp p q)) (fun _ _ _ k j=>PJ.comp k j) h i)
theorem KJ.comp {a b c:Blk} (hc:∀code,CodeJ p code→CodeJ q code→CodeJ (cmp p q) code) (h:KJ p a b) (i:KJ q b c):KJ (cmp p q) a c:=by
 cases h with
 |cells h=>cases i with
  |cells i=>exact .cells (All2.comp (R:=CJ p) (S:=CJ q) (T:=CJ (cmp p q)) (fun _ _ _ k j=>CJ.comp k j) h i) _ _
 |dead=>cases i;exact .dead
 |map h=>cases i with
  |map i=>exact .map (All2.comp (R:=fun(x y:Cell × V)=>CJ p x.1 y.1∧VJ p x.2 y.2) (S:=fun(x y:Cell × V)=>CJ q x.1 y.1∧VJ q x.2 y.2) (T:=fun(x y:Cell × V)=>CJ (cmp p q) x.1 y.1∧VJ (cmp p q) x.2 y.2) (fun _ _ _ k j=>⟨k.1.comp j.1,k.2.comp j.2⟩) h i)
 |loop st pd h=>cases i with
  |loop _ _ i=>exact .loop st pd ⟨(All2.comp (R:=VJ p) (S:=VJ q) (T:=VJ (cmp p q)) (fun _ _ _ k j=>VJ.comp k j) h.t i.t),h.ps.trans i.ps,h.assign.trans i.assign,h.body.trans i.body,⟨_,h.defers,i.defers⟩,hc _ h.ca (h.assign ▸ i.ca),hc _ h.cb (h.body ▸ i.cb)⟩
 |defd=>cases i;exact .defd
 |shut=>cases i;exact .shut
theorem XJ.comp {x:X} (h:XJ p x) (i:XJ q x):XJ (cmp p q) x:=by
 cases x with
 |t=>trivial
 |k v=>exact VJ.comp h i
theorem CodeJ.comp {c:IC} (h:CodeJ p c) (i:CodeJ q c):CodeJ (cmp p q) c:=by
 induction c with
 |ops l=>exact fun o ho=>⟨fun x hx=>XJ.comp ((h o ho).1 x hx) ((i o ho).1 x hx),fun z hz=>VJ.comp ((h o ho).2 z hz) ((i o ho).2 z hz)⟩
 |seq a b ha hb=>exact⟨ha h.1 i.1,hb h.2 i.2⟩
 |cond c a b ha hb=>exact⟨XJ.comp h.1 i.1,ha h.2.1 i.2.1,hb h.2.2 i.2.2⟩
 |block _ b hb=>exact hb h i
 |loop b hb=>exact hb h i
 |rangeF f _ a b ha hb=>exact⟨XJ.comp h.1 i.1,ha h.2.1 i.2.1,hb h.2.2 i.2.2⟩
 |_=>trivial
theorem HJ.comp {H H' H'':Heap} (h:HJ p H H') (i:HJ q H' H''):HJ (cmp p q) H H'':=by
 refine⟨?_,?_⟩
 ·rintro a c ⟨b,h1,h2⟩
  obtain⟨x,x',e1,e2,k⟩:=h.dom _ _ h1
  obtain⟨y,y',e3,e4,j⟩:=i.dom _ _ h2
  rw[e2] at e3;cases e3
  exact⟨x,y',e1,e4,k.comp (fun _=>CodeJ.comp) j⟩
 ·rintro a c a' c' ⟨b,h1,h2⟩ ⟨b',h3,h4⟩
  rw[h.inj _ _ _ _ h1 h3,i.inj _ _ _ _ h2 h4]
end
theorem EqS.trans {n:Nat} {r r' r'':List V × Heap} (h:EqS n r r') (i:EqS n r' r''):EqS n r r'':=by
 obtain⟨p,h1,h2,h3,h4,h5⟩:=h
 obtain⟨q,i1,i2,i3,i4,i5⟩:=i
 refine⟨cmp p q,(All2.comp (R:=VJ p) (S:=VJ q) (T:=VJ (cmp p q)) (fun _ _ _ k j=>VJ.comp k j) h1 i1),h2.comp i2,fun b hb=>?_,fun c hc=>?_,fun b hb=>⟨b,h5 b hb,i5 b hb⟩⟩
 ·obtain⟨b',k⟩:=h3 b hb
  obtain⟨c,j⟩:=i3 b' (h2.lt k).2
  exact⟨c,b',k,j⟩
 ·obtain⟨b,j⟩:=i4 c hc
  obtain⟨a,k⟩:=h4 b (i2.lt j).1
  exact⟨a,b,k,j⟩
section
variable {F:FuncId→Option Fun} {rec:Rec} {p:BJ} {H H':Heap}
theorem act1J (hF:FnJ p F) (hr:RecJ p F rec) {o:IOper} (ho:OpJ p o.op) {t t':List V} (ht:All2 (VJ p) t t') (h:HJ p H H'):OJ (CQ p H H') (act1 F rec o t H) (act1 F rec o t' H'):=by
 unfold act1
 rw[wantedJ ht]
 refine OJ.ite (fun _=>?_) fun _=>⟨p,Stp.refl h,.tup .nil⟩
 refine(aopJ h (fun x hx=>evJ ht (ho.1 x hx)) ho.2).bind fun x x' hx=>?_
 obtain⟨q,s,ha⟩:=hx
 obtain⟨an,K⟩:=x
 obtain⟨an',K'⟩:=x'
 cases ha with
 |v hv=>exact⟨q,s,hv⟩
 |call f ha=>exact(callJ (hF.mono s.le) (hr.mono s.le) ha s.hj).imp fun _ _ k=>CQ.trans s k
 |yld hl ha=>exact(roundJ (hr.mono s.le) hl ha s.hj).imp fun _ _ k=>CQ.trans s k
theorem Stp.idn {n:Nat} {H H1:Heap} {q:BJ} (hn:H.length=n) (s:Stp (idn n) H H q H1 H1):∀b b',q b b'↔AM.idn H1.length b b':=by
 subst hn
 intro b b'
 constructor
 ·intro k
  have:=s.hj.lt k
  rcases s.new _ _ k with ⟨e,_⟩|⟨i,e,e'⟩
  ·exact⟨e,this.1⟩
  ·exact⟨by omega,this.1⟩
 ·rintro⟨rfl,hb⟩
  by_cases h:b<H.length
  ·exact s.le _ _ ⟨rfl,h⟩
  ·have:=s.cov (b-H.length) (by omega)
   have e:H.length+(b-H.length)=b:=by omega
   rwa [e] at this
theorem Wf.step {t:List V} {q:BJ} {H1:Heap} {t1:List V} (s:Stp (AM.idn H.length) H H q H1 H1) (ht:All2 (VJ q) t1 t1):Wf t1 H1:=by
 have e:=s.idn rfl
 exact⟨ht.imp fun _ _ k=>k.mono fun b b' j=>(e b b').1 j,⟨fun b b' j=>by
  obtain⟨x,x',h1,h2,h3⟩:=s.hj.dom b b' ((e b b').2 j)
  exact⟨x,x',h1,h2,h3.mono fun b b' j=>(e b b').1 j⟩,fun b b' c c' j k=>s.hj.inj _ _ _ _ ((e b b').2 j) ((e c c').2 k)⟩⟩
theorem Wf.act1 (hF:FnJ (AM.idn H.length) F) (hr:RecJ (AM.idn H.length) F rec) {o:IOper} (ho:OpJ (AM.idn H.length) o.op) {t:List V} (hw:Wf t H) {q:V × Heap} (e:act1 F rec o t H=some q):Wf (putT t o.dst q.1) q.2∧H.length≤q.2.length∧∀b b',AM.idn H.length b b'→AM.idn q.2.length b b':=by
 have:=act1J hF hr ho hw.t hw.h
 rw[e] at this
 obtain⟨q',s,hv⟩:=this
 refine⟨Wf.step s (t:=t) (putTJ (hw.t.imp fun _ _ k=>k.mono s.le) _ hv),s.len,fun b b' k=>⟨k.1,Nat.lt_of_lt_of_le k.2 s.len⟩⟩
end
abbrev Un:=IOper × List IOper
def isChk (o:IOper):Bool:=o.dst.isNone && match o.op with
 |.same ..=>true
 |_=>false
section
variable (F:FuncId→Option Fun) (rec:Rec)
def unitR (u:Un) (t:List V) (H:Heap):Option (List V × Heap):=
 (act1 F rec u.1 t H).bind fun q=>if u.2.all (fun c=>(act1 F rec c (putT t u.1.dst q.1) q.2).isSome) then some (putT t u.1.dst q.1,q.2) else none
def unitsR:List Un→List V→Heap→Option (List V × Heap)
 |[],t,H=>some (t,H)
 |u :: l,t,H=>(unitR F rec u t H).bind fun q=>unitsR l q.1 q.2
def flat (l:List Un):List IOper:=l.flatMap fun u=>u.1 :: u.2
variable {F rec}
theorem chk_act {c:IOper} (hc:isChk c=true) (t:List V) (H:Heap):∀q,act1 F rec c t H=some q→putT t c.dst q.1=t∧q.2=H:=by
 intro q e
 simp only[isChk,Bool.and_eq_true,Option.isNone_iff_eq_none] at hc
 have hr:c.op.reads=true:=by
  cases ho:c.op<;>rw[ho] at hc<;>simp_all [IOp.reads]
 obtain⟨q',hq'⟩:=act1_reads (F:=F) (rec:=rec) hr t H
 rw[hq'] at e
 obtain⟨v,_,rfl⟩:=Option.map_eq_some_iff.1 e
 exact⟨by rw[hc.1];rfl,rfl⟩
theorem opsR_chks:∀(cs l:List IOper),(∀c∈cs,isChk c=true)→∀(t:List V) (H:Heap),opsR F rec (cs++l) t H=if cs.all (fun c=>(act1 F rec c t H).isSome) then opsR F rec l t H else none
 |[],l,_,t,H=>by simp
 |c :: cs,l,hc,t,H=>by
  rw[List.cons_append,opsR_cons]
  cases e:act1 F rec c t H with
  |none=>simp[e]
  |some q=>
   obtain⟨h1,h2⟩:=chk_act (hc c (by simp)) t H q e
   rw[Option.bind_some,h1,h2,opsR_chks cs l (fun c h=>hc c (by simp[h]))]
   simp[e]
theorem opsR_flat:∀(l:List Un),(∀u∈l,∀c∈u.2,isChk c=true)→∀(t:List V) (H:Heap),opsR F rec (flat l) t H=unitsR F rec l t H
 |[],_,t,H=>rfl
 |u :: l,h,t,H=>by
  have e:flat (u :: l)=u.1 :: (u.2++flat l):=by simp[flat]
  rw[e,opsR_cons,unitsR,unitR,Option.bind_assoc]
  congr 1
  funext q
  rw[opsR_chks _ _ (h u (by simp))]
  split
  ·rw[Option.bind_some,opsR_flat l fun u hu=>h u (by simp[hu])]
  ·rfl
theorem unitsR_append:∀(l l':List Un) (t:List V) (H:Heap),unitsR F rec (l++l') t H=(unitsR F rec l t H).bind fun q=>unitsR F rec l' q.1 q.2
 |[],l',t,H=>by simp[unitsR]
 |u :: l,l',t,H=>by
  rw[List.cons_append,unitsR,unitsR,Option.bind_assoc]
  congr 1
  funext q
  exact unitsR_append l l' q.1 q.2
end
def allocCs (ρ:X→V):IOp→Option (List Cell)
 |.new _ z=>z.cells
 |.box _ x=>(ρ x).cells
 |.bsl _ _ z ps=>fillB z (ps.map fun p=>(p.1,p.2.1,ρ p.2.2))
 |.mksl _ sz by_ z len cap=>(asI (ρ len)).bind fun l=>(asI (ρ cap)).bind fun c=>if 0≤l∧l≤c∧c * (by_+1)≤most∧(z.length=sz∨c=0) then some (grows z c.toNat) else none
 |_=>none
def allocV (ρ:X→V) (n:Nat):IOp→V
 |.bsl _ len _ _=>.c (.sl (some (n,0)) len len false)
 |.mksl _ _ _ _ len cap=>.c (.sl (some (n,0)) ((asI (ρ len)).getD 0).toNat ((asI (ρ cap)).getD 0).toNat false)
 |_=>.c (.ptr (some (n,0)))
theorem aop_alloc {o:IOp} (h:o.alloc=true) (ρ:X→V) (H:Heap):aop ρ o H=(allocCs ρ o).map fun cs=>(.v (allocV ρ H.length o),H++[.cells cs false none]):=by
 cases o<;>simp_all [IOp.alloc,aop,allocCs,allocV]
 rename_i len cap
 cases asI (ρ len) with
 |none=>rfl
 |some l=>
  cases asI (ρ cap) with
  |none=>rfl
  |some c=>simp only[Option.bind_some,Option.getD_some,Function.comp_apply];split<;>rfl
theorem allocV_J {p:BJ} {n n':Nat} (h:p n n') (ρ:X→V) (o:IOp):VJ p (allocV ρ n o) (allocV ρ n' o):=by
 cases o<;>first|exact .c (.ptr (show AdJ p (n,0) (n',0) from ⟨h,rfl⟩))|exact .c (.sl (show AdJ p (n,0) (n',0) from ⟨h,rfl⟩) _ _ _)
end Go.Proofs.YtjcgdcadflplcaaDoor.AM
/- AM: a unit comes ahead of another one. -/
namespace Go.Proofs.YtjcgdcadflplcaaDoor.AM
open Go Go.RowKit
def flp (p:BJ):BJ:=fun a b=>p b a
section
variable {p:BJ}
theorem AdJ.flp {a b:Ad} (h:AdJ p a b):AdJ (flp p) b a:=⟨h.1,h.2.symm⟩
theorem All2.flp' {α β:Type} {R:α→β→Prop} {S:β→α→Prop} (h:∀a b,R a b→S b a) {l:List α} {r:List β} (k:All2 R l r):All2 S r l:=by
 induction k with
 |nil=>exact .nil
 |cons a _ ih=>exact .cons (h _ _ a) ih
theorem CJ.flp {a b:Cell} (h:CJ p a b):CJ (flp p) b a:=by
 cases h with
 |bool=>exact .bool _
 |int=>exact .int _ _
 |str=>exact .str _
 |ptrN=>exact .ptrN
 |slN=>exact .slN _ _ _
 |mapN=>exact .mapN
 |nilFn=>exact .nilFn
 |nilIface=>exact .nilIface
 |ptr h=>exact .ptr h.flp
 |sl h=>exact .sl h.flp _ _ _
 |map h=>exact .map h
 |yld h=>exact .yld h
 |fn f h h2=>exact .fn f (All2.flp' (R:=AdJ p) (S:=AdJ (AM.flp p)) (fun _ _ k=>k.flp) h) (All2.flp' (R:=AdJ p) (S:=AdJ (AM.flp p)) (fun _ _ k=>k.flp) h2)
theorem PJ.flp {a b:Pc} (h:PJ p a b):PJ (flp p) b a:=by
 cases h with
 |c h=>exact .c h.flp
 |agg h=>exact .agg (All2.flp' (R:=CJ p) (S:=CJ (AM.flp p)) (fun _ _ k=>k.flp) h)
theorem VJ.flp {a b:V} (h:VJ p a b):VJ (flp p) b a:=by
 cases h with
 |c h=>exact .c h.flp
 |agg h=>exact .agg (All2.flp' (R:=CJ p) (S:=CJ (AM.flp p)) (fun _ _ k=>k.flp) h)
 |tup h=>exact .tup (All2.flp' (R:=PJ p) (S:=PJ (AM.flp p)) (fun _ _ k=>k.flp) h)
theorem XJ.flp {x:X} (h:XJ p x):XJ (flp p) x:=by
 cases x with
 |t=>trivial
 |k v=>exact VJ.flp h
theorem CodeJ.flp {c:IC} (h:CodeJ p c):CodeJ (flp p) c:=by
 induction c with
 |ops l=>exact fun o ho=>⟨fun x hx=>XJ.flp ((h o ho).1 x hx),fun z hz=>VJ.flp ((h o ho).2 z hz)⟩
 |seq a b ha hb=>exact⟨ha h.1,hb h.2⟩
 |cond c a b ha hb=>exact⟨XJ.flp h.1,ha h.2.1,hb h.2.2⟩
 |block _ b hb=>exact hb h
 |loop b hb=>exact hb h
 |rangeF f _ a b ha hb=>exact⟨XJ.flp h.1,ha h.2.1,hb h.2.2⟩
 |_=>trivial
theorem KJ.flp {a b:Blk} (h:KJ p a b):KJ (flp p) b a:=by
 cases h with
 |cells h=>exact .cells (All2.flp' (R:=CJ p) (S:=CJ (AM.flp p)) (fun _ _ k=>k.flp) h) _ _
 |dead=>exact .dead
 |map h=>exact .map (All2.flp' (R:=fun(x y:Cell × V)=>CJ p x.1 y.1∧VJ p x.2 y.2) (fun _ _ k=>⟨k.1.flp,k.2.flp⟩) h)
 |loop st pd h=>exact .loop st pd ⟨All2.flp' (R:=VJ p) (S:=VJ (AM.flp p)) (fun _ _ k=>k.flp) h.t,h.ps.symm,h.assign.symm,h.body.symm,h.defers,h.assign ▸ h.ca.flp,h.body ▸ h.cb.flp⟩
 |defd=>exact .defd
 |shut=>exact .shut
theorem HJ.flp {H H':Heap} (h:HJ p H H'):HJ (flp p) H' H:=
 ⟨fun b b' k=>let ⟨x,x',h1,h2,h3⟩:=h.dom _ _ k;⟨x',x,h2,h1,h3.flp⟩,fun b b' c c' k j=>(h.inj _ _ _ _ k j).symm⟩
end
theorem EqS.symm {n:Nat} {r r':List V × Heap} (h:EqS n r r'):EqS n r' r:=by
 obtain⟨p,h1,h2,h3,h4,h5⟩:=h
 exact⟨flp p,All2.flp' (R:=VJ p) (S:=VJ (flp p)) (fun _ _ k=>k.flp) h1,h2.flp,h4,h3,h5⟩
section
variable {F:FuncId→Option Fun} {rec:Rec} {n:Nat}
theorem idn_le {n m:Nat} (h:n≤m):∀b b',idn n b b'→idn m b b':=fun _ _ k=>⟨k.1,Nat.lt_of_lt_of_le k.2 h⟩
theorem EqS.code {r r':List V × Heap} (h:EqS n r r'):∃p:BJ,(∀b b',idn n b b'→p b b')∧All2 (VJ p) r.1 r'.1∧HJ p r.2 r'.2∧(∀b,b<r.2.length→∃b',p b b')∧(∀b',b'<r'.2.length→∃b,p b b')∧∀b,b<n→p b b:=by
 obtain⟨p,h1,h2,h3,h4,h5⟩:=h
 exact⟨p,fun b b' k=>k.1 ▸ h5 b k.2,h1,h2,h3,h4,h5⟩
theorem EqS.step {H H' H1 H1':Heap} {p q:BJ} (h3:∀b,b<H.length→∃b',p b b') (h4:∀b',b'<H'.length→∃b,p b b') (h5:∀b,b<n→p b b) (s:Stp p H H' q H1 H1') {t t':List V} (ht:All2 (VJ q) t t'):EqS n (t,H1) (t',H1'):=by
 refine⟨q,ht,s.hj,fun b hb=>?_,fun b hb=>?_,fun b hb=>s.le _ _ (h5 b hb)⟩
 ·by_cases hl:b<H.length
  ·obtain⟨b',k⟩:=h3 b hl;exact⟨b',s.le _ _ k⟩
  ·have:=s.cov (b-H.length) (by simp at hb;omega)
   rw[show H.length+(b-H.length)=b by omega] at this
   exact⟨_,this⟩
 ·by_cases hl:b<H'.length
  ·obtain⟨b',k⟩:=h4 b hl;exact⟨b',s.le _ _ k⟩
  ·have h2:=s.len2
   simp at hb
   have:=s.cov (b-H'.length) (by omega)
   rw[show H'.length+(b-H'.length)=b by omega] at this
   exact⟨_,this⟩
theorem OJ.isSome {α β:Type} {R:α→β→Prop} {o:Option α} {o':Option β} (h:OJ R o o'):o.isSome=o'.isSome:=by
 cases o<;>cases o'<;>first|rfl|exact h.elim
def UnJ (p:BJ) (u:Un):Prop:=OpJ p u.1.op∧∀c∈u.2,OpJ p c.op
theorem unitJ {p:BJ} {H H':Heap} (hF:FnJ p F) (hr:RecJ p F rec) {u:Un} (ho:UnJ p u) {t t':List V} (ht:All2 (VJ p) t t') (h:HJ p H H'):OJ (OQ p H H') (unitR F rec u t H) (unitR F rec u t' H'):=by
 refine(act1J hF hr ho.1 ht h).bind fun x x' hx=>?_
 obtain⟨q,s,hv⟩:=hx
 have ht1:=putTJ (ht.imp fun _ _ k=>k.mono s.le) u.1.dst hv
 have:u.2.all (fun c=>(act1 F rec c (putT t u.1.dst x.1) x.2).isSome)=u.2.all (fun c=>(act1 F rec c (putT t' u.1.dst x'.1) x'.2).isSome):=by
  rw[Bool.eq_iff_iff,List.all_eq_true,List.all_eq_true]
  constructor
  ·intro k c hc;rw[←(act1J (hF.mono s.le) (hr.mono s.le) ((ho.2 c hc).mono s.le) ht1 s.hj).isSome];exact k c hc
  ·intro k c hc;rw[(act1J (hF.mono s.le) (hr.mono s.le) ((ho.2 c hc).mono s.le) ht1 s.hj).isSome];exact k c hc
 rw[this]
 exact OJ.ite (fun _=>⟨q,s,ht1⟩) fun _=>trivial
theorem unitsJ:∀{l:List Un} {p:BJ} {H H':Heap},FnJ p F→RecJ p F rec→(∀u∈l,UnJ p u)→∀{t t':List V},All2 (VJ p) t t'→HJ p H H'→OJ (OQ p H H') (unitsR F rec l t H) (unitsR F rec l t' H')
 |[],p,H,H',_,_,_,t,t',ht,h=>⟨p,Stp.refl h,ht⟩
 |u :: l,p,H,H',hF,hr,ho,t,t',ht,h=>by
  refine(unitJ hF hr (ho u (by simp)) ht h).bind fun x x' hx=>?_
  obtain⟨q,s,hv⟩:=hx
  exact(unitsJ (hF.mono s.le) (hr.mono s.le) (fun u' hu=>⟨((ho u' (by simp[hu])).1).mono s.le,fun c hc=>((ho u' (by simp[hu])).2 c hc).mono s.le⟩) hv s.hj).imp fun _ _ k=>OQ.trans s k
theorem UnJ.mono {p q:BJ} (h:∀b b',p b b'→q b b') {u:Un} (i:UnJ p u):UnJ q u:=⟨i.1.mono h,fun c hc=>(i.2 c hc).mono h⟩
theorem EqS.units (hF:FnJ (idn n) F) (hr:RecJ (idn n) F rec) {l:List Un} (hl:∀u∈l,UnJ (idn n) u) {s s':List V × Heap} (h:EqS n s s') {r:List V × Heap} (e:unitsR F rec l s.1 s.2=some r):∃r',unitsR F rec l s'.1 s'.2=some r'∧EqS n r r':=by
 obtain⟨p,h0,h1,h2,h3,h4,h5⟩:=h.code
 have:=unitsJ (hF.mono h0) (hr.mono h0) (fun u hu=>(hl u hu).mono h0) h1 h2
 obtain⟨r',e',q,st,hv⟩:=this.got e
 exact⟨r',e',EqS.step h3 h4 h5 st hv⟩
theorem Wf.unit (hF:FnJ (idn n) F) (hr:RecJ (idn n) F rec) {u:Un} (ho:UnJ (idn n) u) {t:List V} {H:Heap} (hn:n≤H.length) (hw:Wf t H) {q:List V × Heap} (e:unitR F rec u t H=some q):Wf q.1 q.2∧n≤q.2.length:=by
 have m:=idn_le hn
 have:=unitJ (hF.mono m) (hr.mono m) (ho.mono m) hw.t hw.h
 rw[e] at this
 obtain⟨q',s,hv⟩:=this
 exact⟨Wf.step s (t:=t) hv,Nat.le_trans hn s.len⟩
theorem Wf.units (hF:FnJ (idn n) F) (hr:RecJ (idn n) F rec):∀{l:List Un},(∀u∈l,UnJ (idn n) u)→∀{t:List V} {H:Heap},n≤H.length→Wf t H→∀{q:List V × Heap},unitsR F rec l t H=some q→Wf q.1 q.2∧n≤q.2.length
 |[],_,t,H,hn,hw,q,e=>by cases e;exact⟨hw,hn⟩
 |u :: l,ho,t,H,hn,hw,q,e=>by
  obtain⟨q1,e1,e⟩:=Option.bind_eq_some_iff.1 e
  obtain⟨hw1,hn1⟩:=Wf.unit hF hr (ho u (by simp)) hn hw e1
  exact Wf.units hF hr (fun u hu=>ho u (by simp[hu])) hn1 hw1 e
theorem misses_ne {d:Option Nat} {y:IOper} (h:y.misses d=true):∀s∈y.slots,d≠some s:=by
 intro s hs e
 subst e
 simp[IOper.misses] at h
 exact h hs
theorem act1_put {d:Option Nat} {y:IOper} (h:y.misses d=true) (v:V) (t:List V) (H:Heap):act1 F rec y (putT t d v) H=act1 F rec y t H:=
 act1_congr fun s hs=>putT_ne (misses_ne h s hs)
theorem allocCsJ {p:BJ} {ρ ρ':X→V} {o:IOp} (hx:∀x∈o.xs,VJ p (ρ x) (ρ' x)) (hz:∀z∈o.zs,VJ p z z):OJ (All2 (CJ p)) (allocCs ρ o) (allocCs ρ' o):=by
 cases o<;>first|trivial|skip
 case box T x=>exact(hx x (by simp[IOp.xs])).cells
 case new T z=>exact(hz z (by simp[IOp.zs])).cells
 case bsl T k z ps=>exact fillJ (psJ hx) (aggJ (hz (.agg z) (by simp[IOp.zs])))
 case mksl T sz b z l c=>
  have hl:=(hx l (by simp[IOp.xs])).asI
  have hc:=(hx c (by simp[IOp.xs])).asI
  simp only[allocCs,hl,hc]
  refine(OJ.of_eq rfl).bind fun l l' e=>(OJ.of_eq rfl).bind fun c c' e'=>?_
  subst e;subst e'
  exact OJ.ite (fun _=>growsJ (aggJ (hz (.agg z) (by simp[IOp.zs]))) _) fun _=>trivial
end
end Go.Proofs.YtjcgdcadflplcaaDoor.AM
/- AM: each order that a region may draw comes to what corresponds. -/
namespace Go.Proofs.YtjcgdcadflplcaaDoor.AM
open Go Go.RowKit
section
variable {F:FuncId→Option Fun} {rec:Rec} {n:Nat}
theorem allocEq (hF:FnJ (idn n) F) (hr:RecJ (idn n) F rec) {x z:IOper} {cx:List IOper} (hx:UnJ (idn n) (x,cx)) (hz:OpJ (idn n) z.op) (ha:z.op.alloc=true) (hd:x.dstOk z=true) (hc:∀c∈cx,c.misses z.dst=true)
  {t:List V} {H:Heap} (hn:n≤H.length) (hw:Wf t H):OJ (EqS n) (unitsR F rec [(x,cx),(z,[])] t H) (unitsR F rec [(z,[]),(x,cx)] t H):=by
 simp only[IOper.dstOk,Bool.and_eq_true] at hd
 obtain⟨⟨hd1,hd2⟩,hd3⟩:=hd
 have hdd:∀i,x.dst=some i→z.dst≠some i:=by
  intro i e;rw[e] at hd2;simpa using hd2
 have hm:=idn_le hn
 simp only[unitsR,unitR,List.all_nil,if_true,Option.bind_assoc,Option.bind_some]
 have hzw:∀(d:Option Nat) (v:V) (t:List V),z.misses d=true→wanted (putT t d v) z.guard=wanted t z.guard:=by
  intro d v t h
  cases hg:z.guard with
  |none=>rfl
  |some g=>obtain⟨j,b⟩:=g;simp only[wanted];rw[putT_ne (misses_ne h j (by simp[IOper.slots,hg]))]
 by_cases hwz:wanted t z.guard=true
 ·-- a block is made
  have hcs:OJ (All2 (CJ (idn H.length))) (allocCs (X.ev t) z.op) (allocCs (X.ev t) z.op):=allocCsJ (fun y hy=>evJ hw.t ((hz.mono hm).1 y hy)) (hz.mono hm).2
  have actz:∀(K:Heap),act1 F rec z t K=(allocCs (X.ev t) z.op).map fun cs=>(allocV (X.ev t) K.length z.op,K++[.cells cs false none]):=by
   intro K
   simp only[act1,hwz,if_true,aop_alloc ha]
   cases allocCs (X.ev t) z.op<;>rfl
  cases hcs0:allocCs (X.ev t) z.op with
  |none=>
   have e1:∀K,act1 F rec z t K=none:=fun K=>by rw[actz,hcs0];rfl
   rw[e1,Option.bind_none]
   cases hxx:act1 F rec x t H with
   |none=>trivial
   |some q=>
    simp only[Option.bind_some]
    split
    ·simp only[Option.bind_some,act1_put (F:=F) (rec:=rec) hd1,e1];trivial
    ·trivial
  |some cs=>
   rw[hcs0] at hcs
   have hcs':All2 (CJ (idn H.length)) cs cs:=hcs
   have ez:∀K:Heap,act1 F rec z t K=some (allocV (X.ev t) K.length z.op,K++[.cells cs false none]):=fun K=>by rw[actz,hcs0];rfl
   rw[ez H]
   simp only[Option.bind_some,act1_put (F:=F) (rec:=rec) hd3]
   have hH':HJ (idn H.length) H (H++[.cells cs false none]):=⟨fun b b' k=>by
    obtain⟨y,y',h1,h2,h3⟩:=hw.h.dom b b' k
    exact⟨y,y',h1,by rw[List.getElem?_append_left (hw.h.lt k).2];exact h2,h3⟩,hw.h.inj⟩
   have hj:=act1J (hF.mono hm) (hr.mono hm) (hx.1.mono hm) hw.t hH'
   refine hj.bind fun q q' hq=>?_
   obtain⟨qq,s,hv⟩:=hq
   have ht1:=putTJ (hw.t.imp fun _ _ k=>k.mono s.le) x.dst hv
   have eqc:cx.all (fun c=>(act1 F rec c (putT t x.dst q.1) q.2).isSome)=cx.all (fun c=>(act1 F rec c (putT (putT t z.dst (allocV (X.ev t) H.length z.op)) x.dst q'.1) q'.2).isSome):=by
    rw[Bool.eq_iff_iff,List.all_eq_true,List.all_eq_true]
    have key:∀c∈cx,(act1 F rec c (putT t x.dst q.1) q.2).isSome=(act1 F rec c (putT (putT t z.dst (allocV (X.ev t) H.length z.op)) x.dst q'.1) q'.2).isSome:=by
     intro c hcc
     rw[putT_comm (fun i e e'=>hdd i e' e),act1_put (hc c hcc)]
     exact(act1J (hF.mono fun b b' k=>s.le _ _ (hm _ _ k)) (hr.mono fun b b' k=>s.le _ _ (hm _ _ k)) ((hx.2 c hcc).mono fun b b' k=>s.le _ _ (hm _ _ k)) ht1 s.hj).isSome
    constructor
    ·intro k c hcc;rw[←key c hcc];exact k c hcc
    ·intro k c hcc;rw[key c hcc];exact k c hcc
   rw[eqc]
   by_cases hck:cx.all (fun c=>(act1 F rec c (putT (putT t z.dst (allocV (X.ev t) H.length z.op)) x.dst q'.1) q'.2).isSome)=true
   ·rw[if_pos hck,if_pos hck]
    simp only[Option.bind_some,act1_put (F:=F) (rec:=rec) hd1,ez]
    -- the correspondence
    have hlen2:=s.len2
    simp at hlen2
    have hlt:∀{b b':Nat},qq b b'→b<q.2.length∧b'<q'.2.length:=fun k=>s.hj.lt k
    refine⟨addJ qq q.2.length H.length,?_,⟨?_,?_⟩,?_,?_,fun b hb=>.inl (s.le _ _ ⟨rfl,by omega⟩)⟩
    ·rw[putT_comm (t:=t) (d:=z.dst) (fun i e e'=>hdd i e' e)]
     refine putTJ (putTJ (hw.t.imp fun _ _ k=>(k.mono s.le).mono (addJ_le _ _ _)) _ (hv.mono (addJ_le _ _ _))) _ (allocV_J (addJ_self _ _ _) _ _)
    ·rintro b b' (k|⟨rfl,rfl⟩)
     ·obtain⟨y,y',h1,h2,h3⟩:=s.hj.dom _ _ k
      exact⟨y,y',by rw[List.getElem?_append_left (hlt k).1];exact h1,h2,h3.mono (addJ_le _ _ _)⟩
     ·refine⟨.cells cs false none,.cells cs false none,by simp,?_,.cells (hcs'.imp fun _ _ k=>(k.mono s.le).mono (addJ_le _ _ _)) _ _⟩
      rw[s.old' H.length (by simp) fun b k=>by have:=k.2;have:=k.1;omega]
      simp
    ·have no:∀b,¬qq b H.length:=by
      intro b k
      rcases s.new _ _ k with k|⟨i,_,e⟩
      ·have:=k.2;have:=k.1;omega
      ·simp at e;omega
     rintro b b' c c' (k|⟨rfl,rfl⟩) (j|⟨rfl,rfl⟩)
     ·exact s.hj.inj _ _ _ _ k j
     ·have:=(hlt k).1
      constructor
      ·intro e;omega
      ·intro e;exact absurd (e ▸ k) (no _)
     ·have:=(hlt j).1
      constructor
      ·intro e;omega
      ·intro e;exact absurd (e ▸ j) (no _)
     ·simp
    ·intro b hb
     by_cases h1:b=q.2.length
     ·exact⟨_,.inr ⟨h1,rfl⟩⟩
     ·have hb':b<q.2.length:=by simp at hb;omega
      by_cases h2:b<H.length
      ·exact⟨b,.inl (s.le _ _ ⟨rfl,h2⟩)⟩
      ·have:=s.cov (b-H.length) (by omega)
       rw[show H.length+(b-H.length)=b by omega] at this
       exact⟨_,.inl this⟩
    ·intro b hb
     by_cases h2:b<H.length
     ·exact⟨b,.inl (s.le _ _ ⟨rfl,h2⟩)⟩
     ·by_cases h1:b=H.length
      ·exact⟨_,.inr ⟨rfl,h1⟩⟩
      ·have hb':b<q'.2.length:=hb
       have:=s.cov (b-(H.length+1)) (by omega)
       simp at this
       rw[show H.length+1+(b-(H.length+1))=b by omega] at this
       exact⟨_,.inl this⟩
   ·rw[if_neg hck,if_neg hck];trivial
 ·-- none is
  have ez:∀K:Heap,act1 F rec z t K=some (.undef,K):=fun K=>by simp only[act1,hwz];rfl
  rw[ez H]
  simp only[Option.bind_some,act1_put (F:=F) (rec:=rec) hd3]
  have e:∀q:V × Heap,cx.all (fun c=>(act1 F rec c (putT (putT t z.dst .undef) x.dst q.1) q.2).isSome)=cx.all (fun c=>(act1 F rec c (putT t x.dst q.1) q.2).isSome):=by
   intro q
   rw[putT_comm (fun i e e'=>hdd i e' e),Bool.eq_iff_iff,List.all_eq_true,List.all_eq_true]
   constructor
   ·intro k c hcc;have:=k c hcc;rwa [act1_put (hc c hcc)] at this
   ·intro k c hcc;rw[act1_put (hc c hcc)];exact k c hcc
  cases hxx:act1 F rec x t H with
  |none=>trivial
  |some q=>
   simp only[Option.bind_some,e]
   by_cases hck:cx.all (fun c=>(act1 F rec c (putT t x.dst q.1) q.2).isSome)=true
   ·simp only[hck,if_true,Option.bind_some,act1_put (F:=F) (rec:=rec) hd1,ez]
    rw[putT_comm (t:=t) (d:=z.dst) (fun i e e'=>hdd i e' e)]
    have w1:=Wf.unit hF hr (u:=(x,cx)) hx hn hw (q:=(putT t x.dst q.1,q.2)) (by simp only[unitR,hxx,Option.bind_some,hck,if_true])
    refine EqS.refl ⟨?_,w1.1.h⟩ w1.2
    exact putTJ w1.1.t _ (.tup .nil)
   ·simp only[hck];trivial
end
section
variable {F:FuncId→Option Fun} {rec:Rec} {n:Nat} {I:Nat→IOper}
def un (I:Nat→IOper) (u:Nat × List Nat):Un:=(I u.1,chks I u.2)
theorem mem_chks {cs:List Nat} {c:IOper}:c∈chks I cs↔∃k∈cs,chkOf (I k)=some c:=by simp[chks,List.mem_filterMap]
theorem chkOf_ok {o c:IOper} (h:chkOf o=some c):∃m a d,o.op.xs=[a]∧(∀ρ H,aop ρ o.op H=(rdK H m (ρ a)).map fun v=>(.v v,H))∧o.dst=some d∧d ∉ o.slots∧c=⟨none,.same m a (.t d),o.guard⟩:=by
 unfold chkOf at h
 split at h
 ·rename_i m a d e1 e2
  split at h
  ·cases h
  ·rename_i h3
   cases h
   refine⟨some m,a,d,by rw[e1];rfl,fun ρ H=>?_,e2,by simpa using h3,rfl⟩
   rw[e1]
   simp only[aop,rdK]
   cases adOf (ρ a)<;>rfl
 ·rename_i a d e1 e2
  split at h
  ·cases h
  ·rename_i h3
   cases h
   exact⟨none,a,d,by rw[e1];rfl,fun ρ H=>by rw[e1];rfl,e2,by simpa using h3,rfl⟩
 ·cases h
theorem un_chk (u:Nat × List Nat):∀c∈(un I u).2,isChk c=true:=by
 intro c hc
 obtain⟨k,_,e⟩:=mem_chks.1 hc
 obtain⟨m,a,d,_,_,_,_,rfl⟩:=chkOf_ok e
 rfl
theorem chkJ {p:BJ} (ho:∀k,OpJ p (I k).op) {k:Nat} {c:IOper} (h:chkOf (I k)=some c):OpJ p c.op:=by
 obtain⟨m,a,d,e1,_,_,_,rfl⟩:=chkOf_ok h
 have:=ho k
 exact⟨fun x hx=>by
  simp[IOp.xs] at hx
  rcases hx with rfl|rfl
  ·exact this.1 x (by rw[e1];simp)
  ·trivial,fun z hz=>by simp[IOp.zs] at hz⟩
theorem unJ {p:BJ} (ho:∀k,OpJ p (I k).op) (u:Nat × List Nat):UnJ p (un I u):=⟨ho _,fun c hc=>by
 obtain⟨k,_,e⟩:=mem_chks.1 hc
 exact chkJ ho e⟩
theorem pass2 (hF:FnJ (idn n) F) (hr:RecJ (idn n) F rec) (ho:∀k,OpJ (idn n) (I k).op) {kx kz:Nat} {cx cz:List Nat} (hok:passOk I kx cx kz cz=true) {t:List V} {H:Heap} (hn:n≤H.length) (hw:Wf t H) {s:List V × Heap}
  (e:unitsR F rec [un I (kx,cx),un I (kz,cz)] t H=some s):∃s',unitsR F rec [un I (kz,cz.filter (· != kx)),un I (kx,cx)] t H=some s'∧EqS n s s':=by
 have hws:=(Wf.units hF hr (l:=[un I (kx,cx),un I (kz,cz)]) (by
  intro u hu;simp at hu;rcases hu with rfl|rfl<;>exact unJ ho _) hn hw e)
 have exact_:unitsR F rec [un I (kz,cz.filter (· != kx)),un I (kx,cx)] t H=some s→∃s',unitsR F rec [un I (kz,cz.filter (· != kx)),un I (kx,cx)] t H=some s'∧EqS n s s':=fun h=>⟨s,h,EqS.refl hws.1 hws.2⟩
 simp only[passOk,Bool.and_eq_true] at hok
 obtain⟨⟨⟨hd,hcz⟩,hcx⟩,hcase⟩:=hok
 have hd0:=hd
 simp only[IOper.dstOk,Bool.and_eq_true] at hd
 obtain⟨⟨hd1,hd2⟩,hd3⟩:=hd
 have hdd:∀i,(I kx).dst=some i→(I kz).dst≠some i:=by
  intro i e;rw[e] at hd2;simpa using hd2
 have hczm:∀c∈chks I (cz.filter (· != kx)),c.misses (I kx).dst=true:=by
  intro c hc
  obtain⟨k,hk,e⟩:=mem_chks.1 hc
  simp only[List.mem_filter,bne_iff_ne,ne_eq] at hk
  have:=List.all_eq_true.1 hcz k hk.1
  simp only[Bool.or_eq_true,beq_iff_eq] at this
  rcases this with h|h
  ·exact absurd h hk.2
  ·rw[e] at h;simpa using h
 have hcxm:∀c∈chks I cx,c.misses (I kz).dst=true:=fun c hc=>List.all_eq_true.1 hcx c hc
 have filt:cz.all (· != kx)=true→cz.filter (· != kx)=cz:=fun h=>List.filter_eq_self.2 (fun a ha=>List.all_eq_true.1 h a ha)
 -- the run, opened
 simp only[unitsR,un] at e
 obtain⟨q1,e1,e⟩:=Option.bind_eq_some_iff.1 e
 obtain⟨q2,e2,e⟩:=Option.bind_eq_some_iff.1 e
 cases e
 obtain⟨⟨v1,H1⟩,e3,e1⟩:=Option.bind_eq_some_iff.1 e1
 obtain⟨⟨v2,H2⟩,e4,e2⟩:=Option.bind_eq_some_iff.1 e2
 simp only at e1 e2 e3 e4
 split at e1
 ·rename_i hk1
  cases e1
  split at e2
  ·rename_i hk2
   cases e2
   rw[act1_put (F:=F) (rec:=rec) hd1] at e4
   simp only at e4 hk2
   have k1:∀c∈chks I cx,(act1 F rec c (putT t (I kx).dst v1) H1).isSome=true:=fun c hc=>List.all_eq_true.1 hk1 c hc
   have k2:∀c∈chks I cz,(act1 F rec c (putT (putT t (I kx).dst v1) (I kz).dst v2) H2).isSome=true:=fun c hc=>List.all_eq_true.1 hk2 c hc
   have ecomm:putT (putT t (I kx).dst v1) (I kz).dst v2=putT (putT t (I kz).dst v2) (I kx).dst v1:=putT_comm hdd
   have k2':∀c∈chks I (cz.filter (· != kx)),(act1 F rec c (putT t (I kz).dst v2) H2).isSome=true:=by
    intro c hc
    have hc':c∈chks I cz:=by
     obtain⟨k,hk,e⟩:=mem_chks.1 hc
     exact mem_chks.2 ⟨k,(List.mem_filter.1 hk).1,e⟩
    have:=k2 c hc'
    rwa [ecomm,act1_put (hczm c hc)] at this
   have k1':∀c∈chks I cx,∀K:Heap,(act1 F rec c (putT (putT t (I kz).dst v2) (I kx).dst v1) K).isSome=(act1 F rec c (putT t (I kx).dst v1) K).isSome:=by
    intro c hc K
    rw[←ecomm,act1_put (hcxm c hc)]
   -- in memory as it is
   have plain:∀K,act1 F rec (I kz) t H=some (v2,K)→act1 F rec (I kx) t K=some (v1,H2)→(∀c∈chks I (cz.filter (· != kx)),(act1 F rec c (putT t (I kz).dst v2) K).isSome=true)→(∀c∈chks I cx,(act1 F rec c (putT t (I kx).dst v1) H2).isSome=true)→
     unitsR F rec [un I (kz,cz.filter (· != kx)),un I (kx,cx)] t H=some (putT (putT t (I kx).dst v1) (I kz).dst v2,H2):=by
    intro K h1 h2 h3 h4
    have hall:((chks I cx).all fun c=>(act1 F rec c (putT (putT t (I kz).dst v2) (I kx).dst v1) H2).isSome)=true:=List.all_eq_true.2 (fun c hc=>by rw[k1' c hc];exact h4 c hc)
    simp only[unitsR,unitR,un,h1,Option.bind_some,List.all_eq_true.2 h3,if_true,act1_put (F:=F) (rec:=rec) hd3,h2,hall,ecomm]
   simp only[Bool.or_eq_true,Bool.and_eq_true,List.isEmpty_iff] at hcase
   rcases hcase with ((((⟨hz,rfl⟩|⟨⟨hx,rfl⟩,hkk⟩)|⟨⟨⟨hx,hz⟩,rfl⟩,rfl⟩)|⟨hz,rfl⟩)|⟨⟨hx,rfl⟩,hkk⟩)|⟨⟨rfl,hx⟩,hkk⟩
   ·-- z pure
    obtain⟨q,hq⟩:=act1_pure (F:=F) (rec:=rec) hz t
    rw[hq] at e4
    obtain⟨v,rfl,ev⟩:=Option.map_eq_some_iff.1 e4
    cases ev
    exact exact_ (plain H (by rw[hq];rfl) e3 (by simp[chks]) k1)
   ·-- x pure
    obtain⟨q,hq⟩:=act1_pure (F:=F) (rec:=rec) hx t
    rw[hq] at e3
    obtain⟨v,rfl,ev⟩:=Option.map_eq_some_iff.1 e3
    cases ev
    exact exact_ (plain H2 e4 (by rw[hq];rfl) k2' (by simp[chks]))
   ·-- both read
    obtain⟨q,hq⟩:=act1_reads (F:=F) (rec:=rec) hx t H
    rw[hq] at e3
    obtain⟨v,rfl,ev⟩:=Option.map_eq_some_iff.1 e3
    cases ev
    obtain⟨q',hq'⟩:=act1_reads (F:=F) (rec:=rec) hz t H
    rw[hq'] at e4
    obtain⟨v',rfl,ev'⟩:=Option.map_eq_some_iff.1 e4
    cases ev'
    exact exact_ (plain H (by rw[hq'];rfl) (by rw[hq];rfl) (by simp[chks]) (by simp[chks]))
   ·-- z makes a block
    have:=allocEq hF hr (unJ ho (kx,cx)) (ho kz) hz hd0 hcxm hn hw
    have e':unitsR F rec [un I (kx,cx),(I kz,[])] t H=some (putT (putT t (I kx).dst v1) (I kz).dst v2,H2):=by
     simp only[unitsR,unitR,un,e3,Option.bind_some,hk1,if_true,List.all_nil,act1_put (F:=F) (rec:=rec) hd1,e4]
    obtain⟨s',h1,h2⟩:=this.got e'
    exact⟨s',h1,h2⟩
   ·-- x makes a block
    have:=allocEq hF hr (unJ ho (kz,cz)) (ho kx) hx (by simp only[IOper.dstOk,Bool.and_eq_true];exact⟨⟨hd3,by
     cases hz:(I kz).dst with
     |none=>rfl
     |some i=>have:=hdd i;simp only[bne_iff_ne,ne_eq];intro h;exact this h hz⟩,hd1⟩) (fun c hc=>hczm c (by rw[filt hkk];exact hc)) hn hw
    have e':unitsR F rec [(I kx,[]),un I (kz,cz)] t H=some (putT (putT t (I kx).dst v1) (I kz).dst v2,H2):=by
     simp only[unitsR,unitR,un,e3,Option.bind_some,List.all_nil,if_true,act1_put (F:=F) (rec:=rec) hd1,e4,hk2]
    obtain⟨s',h1,h2⟩:=this.got' e'
    rw[filt hkk]
    exact⟨s',h1,h2.symm⟩
   ·-- x reads what z leaves
    obtain⟨c,hc⟩:=Option.isSome_iff_exists.1 hx
    obtain⟨m,a,d,h0,h1,h2,h3,rfl⟩:=chkOf_ok hc
    have hck:=k2 _ (mem_chks.2 ⟨kx,by simpa using hkk,hc⟩)
    by_cases hg:wanted t (I kx).guard=true
    ·have ewg:wanted (putT (putT t (I kx).dst v1) (I kz).dst v2) (I kx).guard=true:=by
      cases hgg:(I kx).guard with
      |none=>rfl
      |some g=>
       obtain⟨j,b⟩:=g
       have hj:j∈(I kx).slots:=by simp[IOper.slots,hgg]
       rw[hgg] at hg
       simp only[wanted] at hg ⊢
       rw[putT_ne (misses_ne hd3 j hj),h2,putT_ne (fun e=>h3 (by cases e;exact hj))]
       exact hg
     have eva:∀y,y=a→y.ev (putT (putT t (I kx).dst v1) (I kz).dst v2)=y.ev t:=by
      rintro y rfl
      cases y with
      |k v=>rfl
      |t i=>
       have hi:i∈(I kx).slots:=by simp[IOper.slots,h0]
       simp only[X.ev]
       rw[putT_ne (misses_ne hd3 i hi),h2,putT_ne (fun e=>h3 (by cases e;exact hi))]
     simp only[act1,ewg,if_true,aop,eva a rfl] at hck
     simp only[act1,hg,if_true,h1] at e3
     cases hrd:rdK H m (a.ev t) with
     |none=>rw[hrd] at e3;cases e3
     |some v=>
      rw[hrd] at e3
      simp only[Option.map_some,Option.bind_some,Option.some.injEq,Prod.mk.injEq] at e3
      obtain⟨rfl,rfl⟩:=e3
      cases hrd2:rdK H2 m (a.ev t) with
      |none=>rw[hrd2] at hck;cases hck
      |some v'=>
       rw[hrd2] at hck
       simp only[Option.bind_some] at hck
       split at hck
       ·rename_i hv'
        -- what is read
        have ex:act1 F rec (I kx) t H2=some (v',H2):=by simp only[act1,hg,if_true,h1,hrd2,Option.map_some,Option.bind_some]
        have hput:∀T:List V,T.length=t.length→putT T (I kx).dst v'=putT T (I kx).dst v:=by
         intro T hT
         rw[h2] at hv' ⊢
         by_cases hdl:d<t.length
         ·have:v'=v:=by
           rw[hv']
           simp only[X.ev]
           have hne:(I kz).dst≠some d:=hdd d h2
           rw[putT_ne hne]
           simp[putT,hdl]
          rw[this]
         ·simp only[putT]
          rw[List.set_eq_of_length_le (by omega),List.set_eq_of_length_le (by omega)]
        refine exact_ ?_
        simp only[unitsR,unitR,un,e4,Option.bind_some,List.all_eq_true.2 k2',if_true,act1_put (F:=F) (rec:=rec) hd3,ex,show chks I ([]:List Nat)=[] from rfl,List.all_nil]
        rw[hput _ (by cases (I kz).dst<;>simp[putT]),←ecomm]
       ·cases hck
    ·have ex:∀K:Heap,act1 F rec (I kx) t K=some (.undef,K):=fun K=>by simp only[act1,hg];rfl
     rw[ex] at e3
     simp only[Option.some.injEq,Prod.mk.injEq] at e3
     obtain⟨rfl,rfl⟩:=e3
     exact exact_ (plain H2 e4 (ex H2) k2' (by simp[chks]))
  ·cases e2
 ·cases e1
end
end Go.Proofs.YtjcgdcadflplcaaDoor.AM
